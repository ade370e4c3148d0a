/-
  What quadratref01.taken comes to at each of the three kinds. By the session's own hand (printed by gen_c.py).
-/
import Derived.Test.YtgpnmifejgdipaaDoorSPb
import Derived.Test.YtgpnmifejgdipaaDoorSPn
import Derived.Test.YtgpnmifejgdipaaDoorDf
namespace Go.Proofs.YtgpnmifejgdipaaDoor.Pf
open Go.RowKit Go.Proofs.YtgpnmifejgdipaaDoor.My Go.Proofs.YtgpnmifejgdipaaDoor.RM Go.Proofs.YtgpnmifejgdipaaDoorW.PrintWords Go.Proofs.YtgpnmifejgdipaaDoorW.PrintLast Go.Proofs.YtgpnmifejgdipaaDoorW.PrintMore

theorem Of_l0 (u : Nat) : ∀ (k : Nat) (acc : List Int), u < 18446744073709551616 → blen u < k → acc.length + blen u < 140737488355328 → quadratref01_Of.l0 k acc (u : Int) = some (acc ++ nat u) := by
  induction u using Nat.strongRecOn with
  | _ u ih =>
    intro k acc hu hk hl
    obtain ⟨k, rfl⟩ : ∃ m, k = m + 1 := ⟨k - 1, by omega⟩
    simp only [quadratref01_Of.l0]
    by_cases h : u = 0
    · subst h
      rw [if_neg (by omega), nat_zero, List.append_nil]
    · have hb := blen_half h
      rw [if_pos (by omega), if_pos (by omega)]
      have e1 : Int.tmod (u : Int) 2 % 256 = ((u % 2 : Nat) : Int) := by
        rw [Int.tmod_eq_emod_of_nonneg (by omega)]; omega
      have e2 : IntKind.u64.wrap (Int.tdiv (u : Int) 2) = ((u / 2 : Nat) : Int) := by
        rw [wrap_u64, Int.tdiv_eq_ediv_of_nonneg (by omega)]; omega
      rw [e1, e2, ih (u / 2) (by omega) k _ (by omega) (by omega) (by simp; omega), nat_succ h]
      simp
theorem blen_word {u : Nat} (h : u < 18446744073709551616) : blen u ≤ 64 := blen_le.2 (by simpa using h)
theorem Of_eq (k : Nat) (n : Int) : quadratref01_Of.f (k + 70) n = some (nat (wd n).toNat) := by
  obtain ⟨h0, h1⟩ := wd_bd n
  unfold quadratref01_Of.f
  rw [wrap_wd]
  have e : (((wd n).toNat : Nat) : Int) = wd n := by omega
  have hb := blen_word (u := (wd n).toNat) (by omega)
  have := Of_l0 (wd n).toNat (k + 70) [] (by omega) (by omega) (by simp; omega)
  rw [e] at this
  simpa using this
theorem Of_pos (k : Nat) (n : Int) (h0 : 0 ≤ n) (h1 : n < 9223372036854775808) : quadratref01_Of.f (k + 70) n = some (nat n.toNat) := by
  rw [Of_eq]; unfold wd; congr 3; omega

theorem Of_pos' (m : Nat) (hm : 70 ≤ m) (n : Int) (h0 : 0 ≤ n) (h1 : n < 9223372036854775808) : quadratref01_Of.f m n = some (nat n.toNat) := by
  obtain ⟨k, rfl⟩ : ∃ k, m = k + 70 := ⟨m - 70, by omega⟩
  exact Of_pos k n h0 h1
def sInf : ByteArray := ⟨#[105, 110, 102, 105, 110, 105, 116, 101]⟩
def sNone : ByteArray := ⟨#[110, 111, 110, 101]⟩
def sZero : ByteArray := ⟨#[122, 101, 114, 111]⟩
def sFin : ByteArray := ⟨#[102, 105, 110, 105, 116, 101]⟩
/-- The same as rdv, as the reference tells it. -/
def tkv (P W lst off : Int) (u : Int) : ByteArray × Int × List Int × Int :=
  let e := u / P % W
  let f := u % P
  let s := u / (P * W) % 2
  if e = W - 1 then (if f = 0 then (sInf, s, [], 0) else (sNone, 0, [], 0))
  else if e = 0 then (if f = 0 then (sZero, s, [], 0) else (sFin, s, nat f.toNat, lst))
  else (sFin, s, nat (f + P).toNat, e + off)

theorem rleast_2 : quadratref01_least.f 2 = some (-24) := by kernel_rfl
theorem takenm_2 (k : Nat) (hk : 70 ≤ k) (a : Int) : quadratref01_taken.f (k + 1 + 1) 2 a = some (tkv 1024 32 (-24) (-25) (wd a)) := by
  obtain ⟨hu0, hu1⟩ := wd_bd a
  have d1 : quadratref01_Digits.f 2 = some 11 := by kernel_rfl
  have d2 : quadratref01_Bias.f 2 = some 15 := by kernel_rfl
  have e2 : wrap64 (8 * 2) = 16 := by kernel_rfl
  have e3 : wrap64 (11 - 1) = 10 := by kernel_rfl
  have e4 : wrap64 (16 - 11) = 5 := by kernel_rfl
  have e4' : wrap64 (16 - 1) = 15 := by kernel_rfl
  have e5 : ∀ x : Int, shr .u64 x 15 = x / 32768 := fun x => by kernel_rfl
  have e6 : ∀ x : Int, shr .u64 x 10 = x / 1024 := fun x => by kernel_rfl
  have e7 : wd (shl .u64 1 10 - 1) = 1023 := by kernel_rfl
  have e8 : wd (shl .u64 1 5 - 1) = 31 := by kernel_rfl
  have e9 : wrap64 (shl .i64 1 5 - 1) = 31 := by kernel_rfl
  have e10 : shl .i64 1 10 = 1024 := by kernel_rfl
  have hE : Go.bits .and .u64 (wd a / 1024) 31 = wd a / 1024 % 32 := and_mask _ 5 (by omega) (by omega) (by omega)
  have hF : Go.bits .and .u64 (wd a) 1023 = wd a % 1024 := and_mask _ 10 (by omega) (by omega) (by omega)
  have hS : Go.bits .and .u64 (wd a / 32768) 1 = wd a / 32768 % 2 := and_mask _ 1 (by omega) (by omega) (by omega)
  have hS' : wrap64 (wd a / 32768 % 2) = wd a / 32768 % 2 := w64_id (by omega) (by omega)
  have hE' : wrap64 (wd a / 1024 % 32) = wd a / 1024 % 32 := w64_id (by omega) (by omega)
  have hF' : wrap64 (wd a % 1024) = wd a % 1024 := w64_id (by omega) (by omega)
  have hTT : (1024 : Int) * 32 = 32768 := by decide
  unfold quadratref01_taken.f
  simp only [d1, bs, e2, e3, e4, e4', e5, e6, e7, e8, e9, wrap_wd, hE, hF, hS, hS', hE', hF']
  rw [if_pos (by omega), if_pos (by omega), if_pos (by omega)]
  unfold tkv
  simp only [hTT]
  generalize hs : wd a / 32768 % 2 = s
  have hf0 : 0 ≤ wd a % 1024 := by omega
  have hf1 : wd a % 1024 < 1024 := by omega
  have he0 : 0 ≤ wd a / 1024 % 32 := by omega
  have he1 : wd a / 1024 % 32 < 32 := by omega
  generalize wd a % 1024 = f at *
  generalize wd a / 1024 % 32 = e at *
  have hw : wrap64 (wrap64 (wrap64 (e - 15) - 11) + 1) = e + (-25) := by unfold wrap64; omega
  have hfp : wrap64 (1024 + f) = f + 1024 := by unfold wrap64; omega
  by_cases h1 : e = 31
  · rw [if_pos h1, if_pos (by omega)]
    by_cases h2 : f = 0
    · have hb : (f == 0) = true := by simp [h2]
      simp only [quadratref01_taken.j0, hb, if_true]
      rw [if_pos h2]; rfl
    · have hb : (f == 0) = false := by simp [h2]
      simp only [quadratref01_taken.j0, hb, Bool.false_eq_true, if_false, e9]
      rw [if_pos (by omega), if_pos h1, if_neg h2]; rfl
  · rw [if_neg h1, if_neg (by omega)]
    simp only [quadratref01_taken.j0, Bool.false_eq_true, if_false, e9]
    rw [if_pos (by omega), if_neg h1]
    by_cases h3 : e = 0
    · rw [if_pos h3, if_pos h3]
      by_cases h2 : f = 0
      · have hb : (f == 0) = true := by simp [h2]
        simp only [quadratref01_taken.j1, hb, if_true]
        rw [if_pos h2]; rfl
      · have hb : (f == 0) = false := by simp [h2]
        simp only [quadratref01_taken.j1, hb, Bool.false_eq_true, if_false, rleast_2, Of_pos' k hk f hf0 (by omega), bs]
        rw [if_pos h3, if_neg h2]; rfl
    · rw [if_neg h3, if_neg h3]
      simp only [quadratref01_taken.j1, Bool.false_eq_true, if_false, d2, e3, e10, hfp, Of_pos' k hk (f + 1024) (by omega) (by omega), bs]
      rw [if_neg h3, if_pos (by omega), hw]; rfl
theorem taken_2 (k : Nat) (a : Int) : quadratref01_taken.f (k + 72) 2 a = some (tkv 1024 32 (-24) (-25) (wd a)) :=
  takenm_2 (k + 70) (by omega) a

theorem rleast_4 : quadratref01_least.f 4 = some (-149) := by kernel_rfl
theorem takenm_4 (k : Nat) (hk : 70 ≤ k) (a : Int) : quadratref01_taken.f (k + 1 + 1) 4 a = some (tkv 8388608 256 (-149) (-150) (wd a)) := by
  obtain ⟨hu0, hu1⟩ := wd_bd a
  have d1 : quadratref01_Digits.f 4 = some 24 := by kernel_rfl
  have d2 : quadratref01_Bias.f 4 = some 127 := by kernel_rfl
  have e2 : wrap64 (8 * 4) = 32 := by kernel_rfl
  have e3 : wrap64 (24 - 1) = 23 := by kernel_rfl
  have e4 : wrap64 (32 - 24) = 8 := by kernel_rfl
  have e4' : wrap64 (32 - 1) = 31 := by kernel_rfl
  have e5 : ∀ x : Int, shr .u64 x 31 = x / 2147483648 := fun x => by kernel_rfl
  have e6 : ∀ x : Int, shr .u64 x 23 = x / 8388608 := fun x => by kernel_rfl
  have e7 : wd (shl .u64 1 23 - 1) = 8388607 := by kernel_rfl
  have e8 : wd (shl .u64 1 8 - 1) = 255 := by kernel_rfl
  have e9 : wrap64 (shl .i64 1 8 - 1) = 255 := by kernel_rfl
  have e10 : shl .i64 1 23 = 8388608 := by kernel_rfl
  have hE : Go.bits .and .u64 (wd a / 8388608) 255 = wd a / 8388608 % 256 := and_mask _ 8 (by omega) (by omega) (by omega)
  have hF : Go.bits .and .u64 (wd a) 8388607 = wd a % 8388608 := and_mask _ 23 (by omega) (by omega) (by omega)
  have hS : Go.bits .and .u64 (wd a / 2147483648) 1 = wd a / 2147483648 % 2 := and_mask _ 1 (by omega) (by omega) (by omega)
  have hS' : wrap64 (wd a / 2147483648 % 2) = wd a / 2147483648 % 2 := w64_id (by omega) (by omega)
  have hE' : wrap64 (wd a / 8388608 % 256) = wd a / 8388608 % 256 := w64_id (by omega) (by omega)
  have hF' : wrap64 (wd a % 8388608) = wd a % 8388608 := w64_id (by omega) (by omega)
  have hTT : (8388608 : Int) * 256 = 2147483648 := by decide
  unfold quadratref01_taken.f
  simp only [d1, bs, e2, e3, e4, e4', e5, e6, e7, e8, e9, wrap_wd, hE, hF, hS, hS', hE', hF']
  rw [if_pos (by omega), if_pos (by omega), if_pos (by omega)]
  unfold tkv
  simp only [hTT]
  generalize hs : wd a / 2147483648 % 2 = s
  have hf0 : 0 ≤ wd a % 8388608 := by omega
  have hf1 : wd a % 8388608 < 8388608 := by omega
  have he0 : 0 ≤ wd a / 8388608 % 256 := by omega
  have he1 : wd a / 8388608 % 256 < 256 := by omega
  generalize wd a % 8388608 = f at *
  generalize wd a / 8388608 % 256 = e at *
  have hw : wrap64 (wrap64 (wrap64 (e - 127) - 24) + 1) = e + (-150) := by unfold wrap64; omega
  have hfp : wrap64 (8388608 + f) = f + 8388608 := by unfold wrap64; omega
  by_cases h1 : e = 255
  · rw [if_pos h1, if_pos (by omega)]
    by_cases h2 : f = 0
    · have hb : (f == 0) = true := by simp [h2]
      simp only [quadratref01_taken.j0, hb, if_true]
      rw [if_pos h2]; rfl
    · have hb : (f == 0) = false := by simp [h2]
      simp only [quadratref01_taken.j0, hb, Bool.false_eq_true, if_false, e9]
      rw [if_pos (by omega), if_pos h1, if_neg h2]; rfl
  · rw [if_neg h1, if_neg (by omega)]
    simp only [quadratref01_taken.j0, Bool.false_eq_true, if_false, e9]
    rw [if_pos (by omega), if_neg h1]
    by_cases h3 : e = 0
    · rw [if_pos h3, if_pos h3]
      by_cases h2 : f = 0
      · have hb : (f == 0) = true := by simp [h2]
        simp only [quadratref01_taken.j1, hb, if_true]
        rw [if_pos h2]; rfl
      · have hb : (f == 0) = false := by simp [h2]
        simp only [quadratref01_taken.j1, hb, Bool.false_eq_true, if_false, rleast_4, Of_pos' k hk f hf0 (by omega), bs]
        rw [if_pos h3, if_neg h2]; rfl
    · rw [if_neg h3, if_neg h3]
      simp only [quadratref01_taken.j1, Bool.false_eq_true, if_false, d2, e3, e10, hfp, Of_pos' k hk (f + 8388608) (by omega) (by omega), bs]
      rw [if_neg h3, if_pos (by omega), hw]; rfl
theorem taken_4 (k : Nat) (a : Int) : quadratref01_taken.f (k + 72) 4 a = some (tkv 8388608 256 (-149) (-150) (wd a)) :=
  takenm_4 (k + 70) (by omega) a

theorem rleast_8 : quadratref01_least.f 8 = some (-1074) := by kernel_rfl
theorem takenm_8 (k : Nat) (hk : 70 ≤ k) (a : Int) : quadratref01_taken.f (k + 1 + 1) 8 a = some (tkv 4503599627370496 2048 (-1074) (-1075) (wd a)) := by
  obtain ⟨hu0, hu1⟩ := wd_bd a
  have d1 : quadratref01_Digits.f 8 = some 53 := by kernel_rfl
  have d2 : quadratref01_Bias.f 8 = some 1023 := by kernel_rfl
  have e2 : wrap64 (8 * 8) = 64 := by kernel_rfl
  have e3 : wrap64 (53 - 1) = 52 := by kernel_rfl
  have e4 : wrap64 (64 - 53) = 11 := by kernel_rfl
  have e4' : wrap64 (64 - 1) = 63 := by kernel_rfl
  have e5 : ∀ x : Int, shr .u64 x 63 = x / 9223372036854775808 := fun x => by kernel_rfl
  have e6 : ∀ x : Int, shr .u64 x 52 = x / 4503599627370496 := fun x => by kernel_rfl
  have e7 : wd (shl .u64 1 52 - 1) = 4503599627370495 := by kernel_rfl
  have e8 : wd (shl .u64 1 11 - 1) = 2047 := by kernel_rfl
  have e9 : wrap64 (shl .i64 1 11 - 1) = 2047 := by kernel_rfl
  have e10 : shl .i64 1 52 = 4503599627370496 := by kernel_rfl
  have hE : Go.bits .and .u64 (wd a / 4503599627370496) 2047 = wd a / 4503599627370496 % 2048 := and_mask _ 11 (by omega) (by omega) (by omega)
  have hF : Go.bits .and .u64 (wd a) 4503599627370495 = wd a % 4503599627370496 := and_mask _ 52 (by omega) (by omega) (by omega)
  have hS : Go.bits .and .u64 (wd a / 9223372036854775808) 1 = wd a / 9223372036854775808 % 2 := and_mask _ 1 (by omega) (by omega) (by omega)
  have hS' : wrap64 (wd a / 9223372036854775808 % 2) = wd a / 9223372036854775808 % 2 := w64_id (by omega) (by omega)
  have hE' : wrap64 (wd a / 4503599627370496 % 2048) = wd a / 4503599627370496 % 2048 := w64_id (by omega) (by omega)
  have hF' : wrap64 (wd a % 4503599627370496) = wd a % 4503599627370496 := w64_id (by omega) (by omega)
  have hTT : (4503599627370496 : Int) * 2048 = 9223372036854775808 := by decide
  unfold quadratref01_taken.f
  simp only [d1, bs, e2, e3, e4, e4', e5, e6, e7, e8, e9, wrap_wd, hE, hF, hS, hS', hE', hF']
  rw [if_pos (by omega), if_pos (by omega), if_pos (by omega)]
  unfold tkv
  simp only [hTT]
  generalize hs : wd a / 9223372036854775808 % 2 = s
  have hf0 : 0 ≤ wd a % 4503599627370496 := by omega
  have hf1 : wd a % 4503599627370496 < 4503599627370496 := by omega
  have he0 : 0 ≤ wd a / 4503599627370496 % 2048 := by omega
  have he1 : wd a / 4503599627370496 % 2048 < 2048 := by omega
  generalize wd a % 4503599627370496 = f at *
  generalize wd a / 4503599627370496 % 2048 = e at *
  have hw : wrap64 (wrap64 (wrap64 (e - 1023) - 53) + 1) = e + (-1075) := by unfold wrap64; omega
  have hfp : wrap64 (4503599627370496 + f) = f + 4503599627370496 := by unfold wrap64; omega
  by_cases h1 : e = 2047
  · rw [if_pos h1, if_pos (by omega)]
    by_cases h2 : f = 0
    · have hb : (f == 0) = true := by simp [h2]
      simp only [quadratref01_taken.j0, hb, if_true]
      rw [if_pos h2]; rfl
    · have hb : (f == 0) = false := by simp [h2]
      simp only [quadratref01_taken.j0, hb, Bool.false_eq_true, if_false, e9]
      rw [if_pos (by omega), if_pos h1, if_neg h2]; rfl
  · rw [if_neg h1, if_neg (by omega)]
    simp only [quadratref01_taken.j0, Bool.false_eq_true, if_false, e9]
    rw [if_pos (by omega), if_neg h1]
    by_cases h3 : e = 0
    · rw [if_pos h3, if_pos h3]
      by_cases h2 : f = 0
      · have hb : (f == 0) = true := by simp [h2]
        simp only [quadratref01_taken.j1, hb, if_true]
        rw [if_pos h2]; rfl
      · have hb : (f == 0) = false := by simp [h2]
        simp only [quadratref01_taken.j1, hb, Bool.false_eq_true, if_false, rleast_8, Of_pos' k hk f hf0 (by omega), bs]
        rw [if_pos h3, if_neg h2]; rfl
    · rw [if_neg h3, if_neg h3]
      simp only [quadratref01_taken.j1, Bool.false_eq_true, if_false, d2, e3, e10, hfp, Of_pos' k hk (f + 4503599627370496) (by omega) (by omega), bs]
      rw [if_neg h3, if_pos (by omega), hw]; rfl
theorem taken_8 (k : Nat) (a : Int) : quadratref01_taken.f (k + 72) 8 a = some (tkv 4503599627370496 2048 (-1074) (-1075) (wd a)) :=
  takenm_8 (k + 70) (by omega) a

end Go.Proofs.YtgpnmifejgdipaaDoor.Pf
