/-
  What float.read comes to at each of the three shapes. By the session's own hand (printed by gen_b.py).
-/
import Derived.Test.YtgpnmifejgdipaaDoorSPa
import Derived.Test.YtgpnmifejgdipaaDoorDf
namespace Go.Proofs.YtgpnmifejgdipaaDoor.Pf
open Go.RowKit Go.Proofs.YtgpnmifejgdipaaDoor.My Go.Proofs.YtgpnmifejgdipaaDoorW.PrintWords Go.Proofs.YtgpnmifejgdipaaDoorW.PrintLast Go.Proofs.YtgpnmifejgdipaaDoorW.PrintMore

/-- The word of an int. -/
def wd (a : Int) : Int := a % 18446744073709551616
theorem wd_bd (a : Int) : 0 ≤ wd a ∧ wd a < 18446744073709551616 := by unfold wd; omega
theorem wrap_wd (a : Int) : IntKind.u64.wrap a = wd a := wrap_u64 a

/-- The float of a word: class (0 zero, 1 finite, 2 infinite, 3 none), sign, digits, exponent. P: 2 to the digits but one; W: 2 to the exponent's; lst: the least exponent; off: what is added to the field. -/
def rdv (P W lst off : Int) (u : Int) : Int × Int × Int × Int × Bool :=
  let e := u / P % W
  let f := u % P
  let s := u / (P * W) % 2
  if e = W - 1 then (if f = 0 then (2, s, 0, 0, true) else (3, s, 0, 0, true))
  else if e = 0 then (if f = 0 then (0, s, 0, 0, true) else (1, s, f, lst, true))
  else (1, s, f + P, e + off, true)

theorem top_11 : float_shape_top.f 11 5 = some 31 := by kernel_rfl
theorem bias_11 : float_shape_bias.f 11 5 = some 15 := by kernel_rfl
theorem least_11 : float_shape_least.f 11 5 = some (-24) := by kernel_rfl
theorem read_11 (k : Nat) (a : Int) (h0 : 0 ≤ a) (h1 : a < 65536) : float_shape_read.f (k + 3) 11 5 a = some (rdv 1024 32 (-24) (-25) (wd a)) := by
  obtain ⟨hu0, hu1⟩ := wd_bd a
  have e1 : wrap64 (11 + 5) = 16 := by kernel_rfl
  have e2 : wrap64 (16 - 1) = 15 := by kernel_rfl
  have e3 : wrap64 (11 - 1) = 10 := by kernel_rfl
  have e4 : ∀ x : Int, shr .u64 x 16 = x / 65536 := fun x => by kernel_rfl
  have e5 : ∀ x : Int, shr .u64 x 15 = x / 32768 := fun x => by kernel_rfl
  have e6 : ∀ x : Int, shr .u64 x 10 = x / 1024 := fun x => by kernel_rfl
  have e7 : shl .u64 1 10 = 1024 := by kernel_rfl
  have e8 : IntKind.u64.wrap (1024 - 1) = 1023 := by kernel_rfl
  have m1 : ∀ x : Int, 0 ≤ x → x < 18446744073709551616 → Go.bits .and .u64 x 31 = x % 32 := fun x h0 h1 => and_mask x 5 (by omega) h0 h1
  have m2 : ∀ x : Int, 0 ≤ x → x < 18446744073709551616 → Go.bits .and .u64 x 1023 = x % 1024 := fun x h0 h1 => and_mask x 10 (by omega) h0 h1
  have m3 : ∀ x : Int, 0 ≤ x → x < 18446744073709551616 → Go.bits .and .u64 x 1 = x % 2 := fun x h0 h1 => and_mask x 1 (by omega) h0 h1
  have hE : Go.bits .and .u64 (wd a / 1024) 31 = wd a / 1024 % 32 := m1 _ (by omega) (by omega)
  have hF : Go.bits .and .u64 (wd a) 1023 = wd a % 1024 := m2 _ (by omega) (by omega)
  have hS : Go.bits .and .u64 (wd a / 32768) 1 = wd a / 32768 % 2 := m3 _ (by omega) (by omega)
  have hS' : wrap64 (wd a / 32768 % 2) = wd a / 32768 % 2 := w64_id (by omega) (by omega)
  have hTT : (1024 : Int) * 32 = 32768 := by decide
  have hU : wd a = a := by unfold wd; omega
  have hL : (wd a / 65536 != 0) = false := by rw [hU]; simp; omega
  unfold float_shape_read.f
  rw [e1, if_pos (by omega), if_pos (by omega), wrap_wd, e4, hL]
  simp only [float_shape_read.j0, e2, e3, e5, e6, e7, e8, top_11, bs, hE, hF, hS, hS', if_false, Bool.false_eq_true]
  rw [if_pos (by omega), if_pos (by omega)]
  unfold rdv
  simp only [hTT]
  generalize hs : wd a / 32768 % 2 = s
  have hf0 : 0 ≤ wd a % 1024 := by omega
  have hf1 : wd a % 1024 < 1024 := by omega
  have he0 : 0 ≤ wd a / 1024 % 32 := by omega
  have he1 : wd a / 1024 % 32 < 32 := by omega
  generalize wd a % 1024 = f at *
  generalize wd a / 1024 % 32 = e at *
  have hw : wrap64 (wrap64 (wrap64 (wrap64 e - 15) - 11) + 1) = e + (-25) := by unfold wrap64; omega
  have ho : Go.bits .or .u64 f 1024 = f + 1024 := by
    have hc : Go.bits .or .u64 f 1024 = Go.bits .or .u64 1024 f := by rw [u64_or _ _ (by omega) (by omega) (by omega) (by omega), u64_or _ _ (by omega) (by omega) (by omega) (by omega), Nat.or_comm]
    rw [hc, or_add 1024 f 10 (by decide) (by decide) (by decide) hf0 (by omega) (by omega), Int.add_comm]
  by_cases h1 : e = 31
  · rw [if_pos h1, if_pos (by omega)]
    by_cases h2 : f = 0
    · have hb : (f == 0) = true := by simp [h2]
      simp only [float_shape_read.j1, hb, if_true]
      rw [if_pos h2]
    · have hb : (f == 0) = false := by simp [h2]
      simp only [float_shape_read.j1, hb, Bool.false_eq_true, if_false, top_11, bs]
      rw [if_pos h1, if_neg h2]
  · rw [if_neg h1, if_neg (by omega)]
    simp only [float_shape_read.j1, Bool.false_eq_true, if_false, top_11, bs]
    rw [if_neg h1]
    by_cases h3 : e = 0
    · rw [if_pos h3, if_pos h3]
      by_cases h2 : f = 0
      · have hb : (f == 0) = true := by simp [h2]
        simp only [float_shape_read.j2, hb, if_true]
        rw [if_pos h2]
      · have hb : (f == 0) = false := by simp [h2]
        simp only [float_shape_read.j2, hb, Bool.false_eq_true, if_false, least_11, bs]
        rw [if_pos h3, if_neg h2]
    · rw [if_neg h3, if_neg h3]
      simp only [float_shape_read.j2, Bool.false_eq_true, if_false, bias_11, bs, e3, e7]
      rw [if_neg h3, if_pos (by omega), hw, ho]

theorem read_bad_11 (k : Nat) (a : Int) (h0 : -9223372036854775808 ≤ a) (h1 : a < 9223372036854775808) (h : ¬ (0 ≤ a ∧ a < 65536)) : float_shape_read.f (k + 3) 11 5 a = some (0, 0, 0, 0, false) := by
  have e1 : wrap64 (11 + 5) = 16 := by kernel_rfl
  have e4 : ∀ x : Int, shr .u64 x 16 = x / 65536 := fun x => by kernel_rfl
  have hL : (wd a / 65536 != 0) = true := by
    have : wd a / 65536 ≠ 0 := by unfold wd; omega
    simpa using this
  unfold float_shape_read.f
  rw [e1, if_pos (by omega), if_pos (by omega), wrap_wd, e4, hL]
  simp only [float_shape_read.j0, if_true]

theorem top_24 : float_shape_top.f 24 8 = some 255 := by kernel_rfl
theorem bias_24 : float_shape_bias.f 24 8 = some 127 := by kernel_rfl
theorem least_24 : float_shape_least.f 24 8 = some (-149) := by kernel_rfl
theorem read_24 (k : Nat) (a : Int) (h0 : 0 ≤ a) (h1 : a < 4294967296) : float_shape_read.f (k + 3) 24 8 a = some (rdv 8388608 256 (-149) (-150) (wd a)) := by
  obtain ⟨hu0, hu1⟩ := wd_bd a
  have e1 : wrap64 (24 + 8) = 32 := by kernel_rfl
  have e2 : wrap64 (32 - 1) = 31 := by kernel_rfl
  have e3 : wrap64 (24 - 1) = 23 := by kernel_rfl
  have e4 : ∀ x : Int, shr .u64 x 32 = x / 4294967296 := fun x => by kernel_rfl
  have e5 : ∀ x : Int, shr .u64 x 31 = x / 2147483648 := fun x => by kernel_rfl
  have e6 : ∀ x : Int, shr .u64 x 23 = x / 8388608 := fun x => by kernel_rfl
  have e7 : shl .u64 1 23 = 8388608 := by kernel_rfl
  have e8 : IntKind.u64.wrap (8388608 - 1) = 8388607 := by kernel_rfl
  have m1 : ∀ x : Int, 0 ≤ x → x < 18446744073709551616 → Go.bits .and .u64 x 255 = x % 256 := fun x h0 h1 => and_mask x 8 (by omega) h0 h1
  have m2 : ∀ x : Int, 0 ≤ x → x < 18446744073709551616 → Go.bits .and .u64 x 8388607 = x % 8388608 := fun x h0 h1 => and_mask x 23 (by omega) h0 h1
  have m3 : ∀ x : Int, 0 ≤ x → x < 18446744073709551616 → Go.bits .and .u64 x 1 = x % 2 := fun x h0 h1 => and_mask x 1 (by omega) h0 h1
  have hE : Go.bits .and .u64 (wd a / 8388608) 255 = wd a / 8388608 % 256 := m1 _ (by omega) (by omega)
  have hF : Go.bits .and .u64 (wd a) 8388607 = wd a % 8388608 := m2 _ (by omega) (by omega)
  have hS : Go.bits .and .u64 (wd a / 2147483648) 1 = wd a / 2147483648 % 2 := m3 _ (by omega) (by omega)
  have hS' : wrap64 (wd a / 2147483648 % 2) = wd a / 2147483648 % 2 := w64_id (by omega) (by omega)
  have hTT : (8388608 : Int) * 256 = 2147483648 := by decide
  have hU : wd a = a := by unfold wd; omega
  have hL : (wd a / 4294967296 != 0) = false := by rw [hU]; simp; omega
  unfold float_shape_read.f
  rw [e1, if_pos (by omega), if_pos (by omega), wrap_wd, e4, hL]
  simp only [float_shape_read.j0, e2, e3, e5, e6, e7, e8, top_24, bs, hE, hF, hS, hS', if_false, Bool.false_eq_true]
  rw [if_pos (by omega), if_pos (by omega)]
  unfold rdv
  simp only [hTT]
  generalize hs : wd a / 2147483648 % 2 = s
  have hf0 : 0 ≤ wd a % 8388608 := by omega
  have hf1 : wd a % 8388608 < 8388608 := by omega
  have he0 : 0 ≤ wd a / 8388608 % 256 := by omega
  have he1 : wd a / 8388608 % 256 < 256 := by omega
  generalize wd a % 8388608 = f at *
  generalize wd a / 8388608 % 256 = e at *
  have hw : wrap64 (wrap64 (wrap64 (wrap64 e - 127) - 24) + 1) = e + (-150) := by unfold wrap64; omega
  have ho : Go.bits .or .u64 f 8388608 = f + 8388608 := by
    have hc : Go.bits .or .u64 f 8388608 = Go.bits .or .u64 8388608 f := by rw [u64_or _ _ (by omega) (by omega) (by omega) (by omega), u64_or _ _ (by omega) (by omega) (by omega) (by omega), Nat.or_comm]
    rw [hc, or_add 8388608 f 23 (by decide) (by decide) (by decide) hf0 (by omega) (by omega), Int.add_comm]
  by_cases h1 : e = 255
  · rw [if_pos h1, if_pos (by omega)]
    by_cases h2 : f = 0
    · have hb : (f == 0) = true := by simp [h2]
      simp only [float_shape_read.j1, hb, if_true]
      rw [if_pos h2]
    · have hb : (f == 0) = false := by simp [h2]
      simp only [float_shape_read.j1, hb, Bool.false_eq_true, if_false, top_24, bs]
      rw [if_pos h1, if_neg h2]
  · rw [if_neg h1, if_neg (by omega)]
    simp only [float_shape_read.j1, Bool.false_eq_true, if_false, top_24, bs]
    rw [if_neg h1]
    by_cases h3 : e = 0
    · rw [if_pos h3, if_pos h3]
      by_cases h2 : f = 0
      · have hb : (f == 0) = true := by simp [h2]
        simp only [float_shape_read.j2, hb, if_true]
        rw [if_pos h2]
      · have hb : (f == 0) = false := by simp [h2]
        simp only [float_shape_read.j2, hb, Bool.false_eq_true, if_false, least_24, bs]
        rw [if_pos h3, if_neg h2]
    · rw [if_neg h3, if_neg h3]
      simp only [float_shape_read.j2, Bool.false_eq_true, if_false, bias_24, bs, e3, e7]
      rw [if_neg h3, if_pos (by omega), hw, ho]

theorem read_bad_24 (k : Nat) (a : Int) (h0 : -9223372036854775808 ≤ a) (h1 : a < 9223372036854775808) (h : ¬ (0 ≤ a ∧ a < 4294967296)) : float_shape_read.f (k + 3) 24 8 a = some (0, 0, 0, 0, false) := by
  have e1 : wrap64 (24 + 8) = 32 := by kernel_rfl
  have e4 : ∀ x : Int, shr .u64 x 32 = x / 4294967296 := fun x => by kernel_rfl
  have hL : (wd a / 4294967296 != 0) = true := by
    have : wd a / 4294967296 ≠ 0 := by unfold wd; omega
    simpa using this
  unfold float_shape_read.f
  rw [e1, if_pos (by omega), if_pos (by omega), wrap_wd, e4, hL]
  simp only [float_shape_read.j0, if_true]

theorem top_53 : float_shape_top.f 53 11 = some 2047 := by kernel_rfl
theorem bias_53 : float_shape_bias.f 53 11 = some 1023 := by kernel_rfl
theorem least_53 : float_shape_least.f 53 11 = some (-1074) := by kernel_rfl
theorem read_53 (k : Nat) (a : Int) : float_shape_read.f (k + 3) 53 11 a = some (rdv 4503599627370496 2048 (-1074) (-1075) (wd a)) := by
  obtain ⟨hu0, hu1⟩ := wd_bd a
  have e1 : wrap64 (53 + 11) = 64 := by kernel_rfl
  have e2 : wrap64 (64 - 1) = 63 := by kernel_rfl
  have e3 : wrap64 (53 - 1) = 52 := by kernel_rfl
  have e4 : ∀ x : Int, shr .u64 x 64 = x / 18446744073709551616 := fun x => by kernel_rfl
  have e5 : ∀ x : Int, shr .u64 x 63 = x / 9223372036854775808 := fun x => by kernel_rfl
  have e6 : ∀ x : Int, shr .u64 x 52 = x / 4503599627370496 := fun x => by kernel_rfl
  have e7 : shl .u64 1 52 = 4503599627370496 := by kernel_rfl
  have e8 : IntKind.u64.wrap (4503599627370496 - 1) = 4503599627370495 := by kernel_rfl
  have m1 : ∀ x : Int, 0 ≤ x → x < 18446744073709551616 → Go.bits .and .u64 x 2047 = x % 2048 := fun x h0 h1 => and_mask x 11 (by omega) h0 h1
  have m2 : ∀ x : Int, 0 ≤ x → x < 18446744073709551616 → Go.bits .and .u64 x 4503599627370495 = x % 4503599627370496 := fun x h0 h1 => and_mask x 52 (by omega) h0 h1
  have m3 : ∀ x : Int, 0 ≤ x → x < 18446744073709551616 → Go.bits .and .u64 x 1 = x % 2 := fun x h0 h1 => and_mask x 1 (by omega) h0 h1
  have hE : Go.bits .and .u64 (wd a / 4503599627370496) 2047 = wd a / 4503599627370496 % 2048 := m1 _ (by omega) (by omega)
  have hF : Go.bits .and .u64 (wd a) 4503599627370495 = wd a % 4503599627370496 := m2 _ (by omega) (by omega)
  have hS : Go.bits .and .u64 (wd a / 9223372036854775808) 1 = wd a / 9223372036854775808 % 2 := m3 _ (by omega) (by omega)
  have hS' : wrap64 (wd a / 9223372036854775808 % 2) = wd a / 9223372036854775808 % 2 := w64_id (by omega) (by omega)
  have hTT : (4503599627370496 : Int) * 2048 = 9223372036854775808 := by decide
  unfold float_shape_read.f
  rw [e1, if_neg (by omega), wrap_wd]
  simp only [float_shape_read.j0, e2, e3, e5, e6, e7, e8, top_53, bs, hE, hF, hS, hS', if_false, Bool.false_eq_true]
  rw [if_pos (by omega), if_pos (by omega)]
  unfold rdv
  simp only [hTT]
  generalize hs : wd a / 9223372036854775808 % 2 = s
  have hf0 : 0 ≤ wd a % 4503599627370496 := by omega
  have hf1 : wd a % 4503599627370496 < 4503599627370496 := by omega
  have he0 : 0 ≤ wd a / 4503599627370496 % 2048 := by omega
  have he1 : wd a / 4503599627370496 % 2048 < 2048 := by omega
  generalize wd a % 4503599627370496 = f at *
  generalize wd a / 4503599627370496 % 2048 = e at *
  have hw : wrap64 (wrap64 (wrap64 (wrap64 e - 1023) - 53) + 1) = e + (-1075) := by unfold wrap64; omega
  have ho : Go.bits .or .u64 f 4503599627370496 = f + 4503599627370496 := by
    have hc : Go.bits .or .u64 f 4503599627370496 = Go.bits .or .u64 4503599627370496 f := by rw [u64_or _ _ (by omega) (by omega) (by omega) (by omega), u64_or _ _ (by omega) (by omega) (by omega) (by omega), Nat.or_comm]
    rw [hc, or_add 4503599627370496 f 52 (by decide) (by decide) (by decide) hf0 (by omega) (by omega), Int.add_comm]
  by_cases h1 : e = 2047
  · rw [if_pos h1, if_pos (by omega)]
    by_cases h2 : f = 0
    · have hb : (f == 0) = true := by simp [h2]
      simp only [float_shape_read.j1, hb, if_true]
      rw [if_pos h2]
    · have hb : (f == 0) = false := by simp [h2]
      simp only [float_shape_read.j1, hb, Bool.false_eq_true, if_false, top_53, bs]
      rw [if_pos h1, if_neg h2]
  · rw [if_neg h1, if_neg (by omega)]
    simp only [float_shape_read.j1, Bool.false_eq_true, if_false, top_53, bs]
    rw [if_neg h1]
    by_cases h3 : e = 0
    · rw [if_pos h3, if_pos h3]
      by_cases h2 : f = 0
      · have hb : (f == 0) = true := by simp [h2]
        simp only [float_shape_read.j2, hb, if_true]
        rw [if_pos h2]
      · have hb : (f == 0) = false := by simp [h2]
        simp only [float_shape_read.j2, hb, Bool.false_eq_true, if_false, least_53, bs]
        rw [if_pos h3, if_neg h2]
    · rw [if_neg h3, if_neg h3]
      simp only [float_shape_read.j2, Bool.false_eq_true, if_false, bias_53, bs, e3, e7]
      rw [if_neg h3, if_pos (by omega), hw, ho]


end Go.Proofs.YtgpnmifejgdipaaDoor.Pf
