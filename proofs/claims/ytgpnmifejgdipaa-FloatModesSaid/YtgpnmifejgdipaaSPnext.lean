/-
  FloatNext: the next floats are what the reference says, for every kind and every word. By the session's own hand (printed by gen_next.py).
-/
import Derived.Test.YtgpnmifejgdipaaSPc
import Derived.Test.YtgpnmifejgdipaaSPd
import Derived.Test.YtgpnmifejgdipaaSPaw
import Derived.Test.YtgpnmifejgdipaaDf
namespace Go.Proofs.Ytgpnmifejgdipaa.Pf
open Go.RowKit Go.Proofs.Ytgpnmifejgdipaa.My Go.Proofs.YtgpnmifejgdipaaW.PrintWords Go.Proofs.YtgpnmifejgdipaaW.PrintLast Go.Proofs.YtgpnmifejgdipaaW.PrintMore

theorem next_none (k : Nat) (kind a : Int) (up : Bool) (h2 : kind ≠ 2) (h4 : kind ≠ 4) (h8 : kind ≠ 8) : float_Next.f k kind a up = some (0, 2) ∧ quadratref01_Next.f k kind a up = some (0, 2) := by
  constructor
  · unfold float_Next.f
    rw [two_none k kind 0 a a h2 h4 h8]; rfl
  · unfold quadratref01_Next.f quadratref01_Valid.f
    rw [if_neg h2, if_neg h4]
    have : (kind == 8) = false := by simp [h8]
    rw [this]; rfl
theorem sInf_list : sInf.toList = [105, 110, 102, 105, 110, 105, 116, 101] := by decide +kernel
theorem sNone_list : sNone.toList = [110, 111, 110, 101] := by decide +kernel
theorem sZero_list : sZero.toList = [122, 101, 114, 111] := by decide +kernel
theorem sFin_list : sFin.toList = [102, 105, 110, 105, 116, 101] := by decide +kernel

/-- What a place becomes again. -/
def nj (T : Int) (up : Bool) (x : Int) : Int := if x < 0 then wrap64 (T + wrap64 (-x)) else if x = 0 then (if up then wrap64 T else 0) else x

theorem j1_2 (k : Nat) (up : Bool) (x : Int) (hx0 : -32768 < x) (hx1 : x < 32768) : float_Next.j1 (k + 2) up x 11 5 = some (nj 32768 up x, 0) := by
  have e3 : wrap64 (wrap64 (11 + 5) - 1) = 15 := by kernel_rfl
  have e4 : shl .u64 1 15 = 32768 := by kernel_rfl
  have z0 := zero_2 0 (.inl rfl)
  have z1 := zero_2 1 (.inr rfl)
  simp only [float_Next.j1, e3, e4, wrap_wd]
  unfold nj
  by_cases h : x < 0
  · rw [if_pos h, if_pos h, if_pos (by omega)]
    have e5 : wd (wrap64 (-x)) = wrap64 (-x) := by unfold wd wrap64; omega
    have e6 : 0 ≤ wrap64 (-x) ∧ wrap64 (-x) < 32768 := by unfold wrap64; omega
    rw [e5, or_split 32768 (wrap64 (-x)) 15 (by decide) (by decide) (by decide) e6.1 (by omega) (by omega)]
  · rw [if_neg h, if_neg h]
    by_cases h0 : x = 0
    · rw [if_pos h0, if_pos h0]
      cases up with
      | true => simp only [float_Next.j2, Bool.not_true, Bool.false_eq_true, if_false, z1, bs, if_true]; rw [if_pos h0]; simp
      | false => simp only [float_Next.j2, Bool.not_false, if_true, z0, bs]; simp [wrap64]
    · rw [if_neg h0, if_neg h0]
      simp only [float_Next.j2, Bool.false_eq_true, if_false]
      rw [if_neg h0]

theorem rquiet_2 : quadratref01_Quiet.f 2 = some (31744 + 512) := by kernel_rfl
theorem rbits1_2 (s : Int) (hs : s = 0 ∨ s = 1) : quadratref01_bits.f 2 s 0 1 = some (wrap64 (s * 32768 + 1)) := by
  rcases hs with rfl | rfl <;> kernel_rfl
theorem next_2 (k : Nat) (a : Int) (up : Bool) (ha0 : -9223372036854775808 ≤ a) (ha1 : a < 9223372036854775808) (h0 : 0 ≤ a) (h1 : a < 65536) :
    ∃ r, float_Next.f (k + 6) 2 a up = some r ∧ quadratref01_Next.f (k + 80) 2 a up = some r := by
  obtain ⟨hu0, hu1⟩ := wd_bd a
  have hwa : wrap64 (wd a) = a := by unfold wd wrap64; omega
  have hv : quadratref01_Valid.f 2 a = some true := by
    unfold quadratref01_Valid.f
    rw [if_pos rfl, if_pos h0]; simp [h1]
  have e1 : wrap64 (11 - 1) = 10 := by kernel_rfl
  have e2 : wrap64 (shl .u64 31 10) = 31744 := by kernel_rfl
  have e3 : wrap64 (wrap64 (11 + 5) - 1) = 15 := by kernel_rfl
  have e4 : shl .u64 1 15 = 32768 := by kernel_rfl
  unfold float_Next.f quadratref01_Next.f
  rw [hv, show k + 6 = (k + 3) + 3 from rfl, two_2 (k + 3) 0 a a (by omega) (by omega) h0 h1 h0 h1, show k + 80 = (k + 8) + 72 from rfl, taken_2 (k + 8) a]
  simp only [bs, twv, rdv_ok, Bool.and_true, if_true]
  have hTT : (1024 : Int) * 32 = 32768 := by decide
  have hlim : wd a < 65536 := by unfold wd; omega
  unfold rdv tkv
  simp only [hTT]
  have hM : wd a % 32768 = wd a / 1024 % 32 * 1024 + wd a % 1024 := by omega
  have hU : wd a = wd a / 32768 % 2 * 32768 + wd a % 32768 := by omega
  have hf0 : 0 ≤ wd a % 1024 := by omega
  have hf1 : wd a % 1024 < 1024 := by omega
  have he0 : 0 ≤ wd a / 1024 % 32 := by omega
  have he1 : wd a / 1024 % 32 < 32 := by omega
  have hs : wd a / 32768 % 2 = 0 ∨ wd a / 32768 % 2 = 1 := by omega
  by_cases hn : wd a / 1024 % 32 = 32 - 1 ∧ ¬ wd a % 1024 = 0
  · rw [if_pos hn.1, if_neg hn.2, if_pos hn.1, if_neg hn.2]
    simp only [if_true, quiet_2, bs, sNone_list, rquiet_2]
    exact ⟨_, rfl, rfl⟩
  · have hcl : ∀ x : Int × Int × Int × Int × Bool, x = (if wd a / 1024 % 32 = 32 - 1 then if wd a % 1024 = 0 then (2, wd a / 32768 % 2, 0, 0, true) else (3, wd a / 32768 % 2, 0, 0, true)
        else if wd a / 1024 % 32 = 0 then if wd a % 1024 = 0 then (0, wd a / 32768 % 2, 0, 0, true) else (1, wd a / 32768 % 2, wd a % 1024, (-24), true)
        else (1, wd a / 32768 % 2, wd a % 1024 + 1024, wd a / 1024 % 32 + (-25), true)) → x.1 ≠ 3 := by
      intro x hx
      subst hx
      by_cases h1 : wd a / 1024 % 32 = 32 - 1
      · have h2 : wd a % 1024 = 0 := Classical.byContradiction fun h => hn ⟨h1, h⟩
        rw [if_pos h1, if_pos h2]; simp
      · rw [if_neg h1]
        split
        · split <;> simp
        · simp
    have h3 := hcl _ rfl
    rw [if_neg h3]
    have hpl := place_2 a
    have hM0 : 0 ≤ wd a % 32768 := by omega
    have hM1 : wd a % 32768 ≤ 31744 := by
      by_cases h1 : wd a / 1024 % 32 = 32 - 1
      · have h2 : wd a % 1024 = 0 := Classical.byContradiction fun h => hn ⟨h1, h⟩
        omega
      · omega
    -- the reference
    obtain ⟨what, s, m, e, htk, hz, hi, hnn, hss⟩ : ∃ what s m e, (if wd a / 1024 % 32 = 32 - 1 then if wd a % 1024 = 0 then (sInf, wd a / 32768 % 2, ([] : List Int), (0 : Int)) else (sNone, 0, [], 0)
        else if wd a / 1024 % 32 = 0 then if wd a % 1024 = 0 then (sZero, wd a / 32768 % 2, [], 0) else (sFin, wd a / 32768 % 2, RM.nat (wd a % 1024).toNat, (-24))
        else (sFin, wd a / 32768 % 2, RM.nat (wd a % 1024 + 1024).toNat, wd a / 1024 % 32 + (-25))) = (what, s, m, e) ∧ (what.toList = [122, 101, 114, 111] ↔ wd a % 32768 = 0) ∧ (what.toList = [105, 110, 102, 105, 110, 105, 116, 101] ↔ wd a % 32768 = 31744) ∧ what.toList ≠ [110, 111, 110, 101] ∧ s = wd a / 32768 % 2 := by
      by_cases h1 : wd a / 1024 % 32 = 32 - 1
      · have h2 : wd a % 1024 = 0 := Classical.byContradiction fun h => hn ⟨h1, h⟩
        rw [if_pos h1, if_pos h2]
        exact ⟨_, _, _, _, rfl, by rw [sInf_list]; exact ⟨fun h => (by cases h), fun h => (by omega)⟩, by rw [sInf_list]; exact ⟨fun _ => (by omega), fun _ => rfl⟩, by rw [sInf_list]; decide, rfl⟩
      · rw [if_neg h1]
        by_cases h4 : wd a / 1024 % 32 = 0
        · rw [if_pos h4]
          by_cases h2 : wd a % 1024 = 0
          · rw [if_pos h2]
            exact ⟨_, _, _, _, rfl, by rw [sZero_list]; exact ⟨fun _ => (by omega), fun _ => rfl⟩, by rw [sZero_list]; exact ⟨fun h => (by cases h), fun h => (by omega)⟩, by rw [sZero_list]; decide, rfl⟩
          · rw [if_neg h2]
            exact ⟨_, _, _, _, rfl, by rw [sFin_list]; exact ⟨fun h => (by cases h), fun h => (by omega)⟩, by rw [sFin_list]; exact ⟨fun h => (by cases h), fun h => (by omega)⟩, by rw [sFin_list]; decide, rfl⟩
        · rw [if_neg h4]
          exact ⟨_, _, _, _, rfl, by rw [sFin_list]; exact ⟨fun h => (by cases h), fun h => (by omega)⟩, by rw [sFin_list]; exact ⟨fun h => (by cases h), fun h => (by omega)⟩, by rw [sFin_list]; decide, rfl⟩
    rw [htk]
    rw [if_neg hnn]
    have hiE := rbits1_2
    generalize wd a / 32768 % 2 = S at *
    generalize hMM : wd a % 32768 = M at *
    have hpl' : float_shape_place.f 11 5 a = some (if S = 1 then -M else M) := by
      rw [hpl]; congr 1
      have : wrap64 (-M) = -M := by unfold wrap64; omega
      rw [this]
    have hf : ∀ by_ : Int, by_ = 1 ∨ by_ = -1 → float_Next.j0 (k + 6) a up by_ 11 5 = some (nj 32768 up (if (if S = 1 then -M else M) * by_ < 31744 then (if S = 1 then -M else M) + by_ else (if S = 1 then -M else M)), 0) := by
      intro by_ hb
      simp only [float_Next.j0, hpl', bs, top_11, e1, e2]
      rw [if_pos (by omega)]
      have hq : -31744 ≤ (if S = 1 then -M else M) ∧ (if S = 1 then -M else M) ≤ 31744 := by split <;> omega
      generalize (if S = 1 then -M else M) = q at *
      have w1 : wrap64 (q * by_) = q * by_ := by rcases hb with rfl | rfl <;> (unfold wrap64; omega)
      have w2 : wrap64 (q + by_) = q + by_ := by rcases hb with rfl | rfl <;> (unfold wrap64; omega)
      rw [w1, w2]
      by_cases h : q * by_ < 31744
      · rw [if_pos h, if_pos h, j1_2 (k + 3) up _ (by rcases hb with rfl | rfl <;> omega) (by rcases hb with rfl | rfl <;> omega)]
      · rw [if_neg h, if_neg h, j1_2 (k + 3) up _ (by omega) (by omega)]
    have hr : ∀ side : Int, side = 0 ∨ side = 1 → quadratref01_Next.j0 (k + 80) 2 a side what s m e = some (if M = 0 then wrap64 (side * 32768 + 1) else if S = side then (if M = 31744 then a else wrap64 (wd (wd a + 1))) else wrap64 (wd (wd a - 1)), 0) := by
      intro side hb
      simp only [quadratref01_Next.j0, hss, wrap_wd]
      by_cases h0 : M = 0
      · rw [if_pos (hz.2 h0), if_pos h0, hiE side hb]; rfl
      · rw [if_neg (fun h => h0 (hz.1 h)), if_neg h0]
        by_cases h1 : S = side
        · rw [if_pos h1, if_pos h1]
          by_cases h2 : M = 31744
          · rw [if_pos (hi.2 h2), if_pos h2]
          · rw [if_neg (fun h => h2 (hi.1 h)), if_neg h2]
        · rw [if_neg h1, if_neg h1]
    have fin : ∀ u M S : Int, u = S * 32768 + M → 0 ≤ M → M ≤ 31744 → (S = 0 ∨ S = 1) → u < 65536 →
        nj 32768 true (if (if S = 1 then -M else M) * 1 < 31744 then (if S = 1 then -M else M) + 1 else (if S = 1 then -M else M)) = (if M = 0 then wrap64 (0 * 32768 + 1) else if S = 0 then (if M = 31744 then wrap64 u else wrap64 (wd (u + 1))) else wrap64 (wd (u - 1))) ∧
        nj 32768 false (if (if S = 1 then -M else M) * (-1) < 31744 then (if S = 1 then -M else M) + (-1) else (if S = 1 then -M else M)) = (if M = 0 then wrap64 (1 * 32768 + 1) else if S = 1 then (if M = 31744 then wrap64 u else wrap64 (wd (u + 1))) else wrap64 (wd (u - 1))) := by
      intro u M S hu h0 h1 hs hl
      unfold nj wrap64 wd
      simp only [if_true, Bool.false_eq_true, if_false]
      rcases hs with rfl | rfl
      · simp only [show ¬ ((0 : Int) = 1) from by decide, if_false, if_true]
        constructor <;> (repeat' split) <;> omega
      · simp only [show ¬ ((1 : Int) = 0) from by decide, if_false, if_true]
        constructor <;> (repeat' split) <;> omega
    have fin' := fin (wd a) M S hU hM0 hM1 hs hlim
    rw [hwa] at fin'
    cases up with
    | true =>
      simp only [if_true]
      rw [hf 1 (.inl rfl), hr 0 (.inl rfl)]
      exact ⟨_, rfl, by rw [fin'.1]⟩
    | false =>
      simp only [Bool.false_eq_true, if_false]
      rw [hf (-1) (.inr rfl), hr 1 (.inr rfl)]
      exact ⟨_, rfl, by rw [fin'.2]⟩

theorem j1_4 (k : Nat) (up : Bool) (x : Int) (hx0 : -2147483648 < x) (hx1 : x < 2147483648) : float_Next.j1 (k + 2) up x 24 8 = some (nj 2147483648 up x, 0) := by
  have e3 : wrap64 (wrap64 (24 + 8) - 1) = 31 := by kernel_rfl
  have e4 : shl .u64 1 31 = 2147483648 := by kernel_rfl
  have z0 := zero_4 0 (.inl rfl)
  have z1 := zero_4 1 (.inr rfl)
  simp only [float_Next.j1, e3, e4, wrap_wd]
  unfold nj
  by_cases h : x < 0
  · rw [if_pos h, if_pos h, if_pos (by omega)]
    have e5 : wd (wrap64 (-x)) = wrap64 (-x) := by unfold wd wrap64; omega
    have e6 : 0 ≤ wrap64 (-x) ∧ wrap64 (-x) < 2147483648 := by unfold wrap64; omega
    rw [e5, or_split 2147483648 (wrap64 (-x)) 31 (by decide) (by decide) (by decide) e6.1 (by omega) (by omega)]
  · rw [if_neg h, if_neg h]
    by_cases h0 : x = 0
    · rw [if_pos h0, if_pos h0]
      cases up with
      | true => simp only [float_Next.j2, Bool.not_true, Bool.false_eq_true, if_false, z1, bs, if_true]; rw [if_pos h0]; simp
      | false => simp only [float_Next.j2, Bool.not_false, if_true, z0, bs]; simp [wrap64]
    · rw [if_neg h0, if_neg h0]
      simp only [float_Next.j2, Bool.false_eq_true, if_false]
      rw [if_neg h0]

theorem rquiet_4 : quadratref01_Quiet.f 4 = some (2139095040 + 4194304) := by kernel_rfl
theorem rbits1_4 (s : Int) (hs : s = 0 ∨ s = 1) : quadratref01_bits.f 4 s 0 1 = some (wrap64 (s * 2147483648 + 1)) := by
  rcases hs with rfl | rfl <;> kernel_rfl
theorem next_4 (k : Nat) (a : Int) (up : Bool) (ha0 : -9223372036854775808 ≤ a) (ha1 : a < 9223372036854775808) (h0 : 0 ≤ a) (h1 : a < 4294967296) :
    ∃ r, float_Next.f (k + 6) 4 a up = some r ∧ quadratref01_Next.f (k + 80) 4 a up = some r := by
  obtain ⟨hu0, hu1⟩ := wd_bd a
  have hwa : wrap64 (wd a) = a := by unfold wd wrap64; omega
  have hv : quadratref01_Valid.f 4 a = some true := by
    unfold quadratref01_Valid.f
    rw [if_neg (by decide), if_pos rfl, if_pos h0]; simp [h1]
  have e1 : wrap64 (24 - 1) = 23 := by kernel_rfl
  have e2 : wrap64 (shl .u64 255 23) = 2139095040 := by kernel_rfl
  have e3 : wrap64 (wrap64 (24 + 8) - 1) = 31 := by kernel_rfl
  have e4 : shl .u64 1 31 = 2147483648 := by kernel_rfl
  unfold float_Next.f quadratref01_Next.f
  rw [hv, show k + 6 = (k + 3) + 3 from rfl, two_4 (k + 3) 0 a a (by omega) (by omega) h0 h1 h0 h1, show k + 80 = (k + 8) + 72 from rfl, taken_4 (k + 8) a]
  simp only [bs, twv, rdv_ok, Bool.and_true, if_true]
  have hTT : (8388608 : Int) * 256 = 2147483648 := by decide
  have hlim : wd a < 4294967296 := by unfold wd; omega
  unfold rdv tkv
  simp only [hTT]
  have hM : wd a % 2147483648 = wd a / 8388608 % 256 * 8388608 + wd a % 8388608 := by omega
  have hU : wd a = wd a / 2147483648 % 2 * 2147483648 + wd a % 2147483648 := by omega
  have hf0 : 0 ≤ wd a % 8388608 := by omega
  have hf1 : wd a % 8388608 < 8388608 := by omega
  have he0 : 0 ≤ wd a / 8388608 % 256 := by omega
  have he1 : wd a / 8388608 % 256 < 256 := by omega
  have hs : wd a / 2147483648 % 2 = 0 ∨ wd a / 2147483648 % 2 = 1 := by omega
  by_cases hn : wd a / 8388608 % 256 = 256 - 1 ∧ ¬ wd a % 8388608 = 0
  · rw [if_pos hn.1, if_neg hn.2, if_pos hn.1, if_neg hn.2]
    simp only [if_true, quiet_4, bs, sNone_list, rquiet_4]
    exact ⟨_, rfl, rfl⟩
  · have hcl : ∀ x : Int × Int × Int × Int × Bool, x = (if wd a / 8388608 % 256 = 256 - 1 then if wd a % 8388608 = 0 then (2, wd a / 2147483648 % 2, 0, 0, true) else (3, wd a / 2147483648 % 2, 0, 0, true)
        else if wd a / 8388608 % 256 = 0 then if wd a % 8388608 = 0 then (0, wd a / 2147483648 % 2, 0, 0, true) else (1, wd a / 2147483648 % 2, wd a % 8388608, (-149), true)
        else (1, wd a / 2147483648 % 2, wd a % 8388608 + 8388608, wd a / 8388608 % 256 + (-150), true)) → x.1 ≠ 3 := by
      intro x hx
      subst hx
      by_cases h1 : wd a / 8388608 % 256 = 256 - 1
      · have h2 : wd a % 8388608 = 0 := Classical.byContradiction fun h => hn ⟨h1, h⟩
        rw [if_pos h1, if_pos h2]; simp
      · rw [if_neg h1]
        split
        · split <;> simp
        · simp
    have h3 := hcl _ rfl
    rw [if_neg h3]
    have hpl := place_4 a
    have hM0 : 0 ≤ wd a % 2147483648 := by omega
    have hM1 : wd a % 2147483648 ≤ 2139095040 := by
      by_cases h1 : wd a / 8388608 % 256 = 256 - 1
      · have h2 : wd a % 8388608 = 0 := Classical.byContradiction fun h => hn ⟨h1, h⟩
        omega
      · omega
    -- the reference
    obtain ⟨what, s, m, e, htk, hz, hi, hnn, hss⟩ : ∃ what s m e, (if wd a / 8388608 % 256 = 256 - 1 then if wd a % 8388608 = 0 then (sInf, wd a / 2147483648 % 2, ([] : List Int), (0 : Int)) else (sNone, 0, [], 0)
        else if wd a / 8388608 % 256 = 0 then if wd a % 8388608 = 0 then (sZero, wd a / 2147483648 % 2, [], 0) else (sFin, wd a / 2147483648 % 2, RM.nat (wd a % 8388608).toNat, (-149))
        else (sFin, wd a / 2147483648 % 2, RM.nat (wd a % 8388608 + 8388608).toNat, wd a / 8388608 % 256 + (-150))) = (what, s, m, e) ∧ (what.toList = [122, 101, 114, 111] ↔ wd a % 2147483648 = 0) ∧ (what.toList = [105, 110, 102, 105, 110, 105, 116, 101] ↔ wd a % 2147483648 = 2139095040) ∧ what.toList ≠ [110, 111, 110, 101] ∧ s = wd a / 2147483648 % 2 := by
      by_cases h1 : wd a / 8388608 % 256 = 256 - 1
      · have h2 : wd a % 8388608 = 0 := Classical.byContradiction fun h => hn ⟨h1, h⟩
        rw [if_pos h1, if_pos h2]
        exact ⟨_, _, _, _, rfl, by rw [sInf_list]; exact ⟨fun h => (by cases h), fun h => (by omega)⟩, by rw [sInf_list]; exact ⟨fun _ => (by omega), fun _ => rfl⟩, by rw [sInf_list]; decide, rfl⟩
      · rw [if_neg h1]
        by_cases h4 : wd a / 8388608 % 256 = 0
        · rw [if_pos h4]
          by_cases h2 : wd a % 8388608 = 0
          · rw [if_pos h2]
            exact ⟨_, _, _, _, rfl, by rw [sZero_list]; exact ⟨fun _ => (by omega), fun _ => rfl⟩, by rw [sZero_list]; exact ⟨fun h => (by cases h), fun h => (by omega)⟩, by rw [sZero_list]; decide, rfl⟩
          · rw [if_neg h2]
            exact ⟨_, _, _, _, rfl, by rw [sFin_list]; exact ⟨fun h => (by cases h), fun h => (by omega)⟩, by rw [sFin_list]; exact ⟨fun h => (by cases h), fun h => (by omega)⟩, by rw [sFin_list]; decide, rfl⟩
        · rw [if_neg h4]
          exact ⟨_, _, _, _, rfl, by rw [sFin_list]; exact ⟨fun h => (by cases h), fun h => (by omega)⟩, by rw [sFin_list]; exact ⟨fun h => (by cases h), fun h => (by omega)⟩, by rw [sFin_list]; decide, rfl⟩
    rw [htk]
    rw [if_neg hnn]
    have hiE := rbits1_4
    generalize wd a / 2147483648 % 2 = S at *
    generalize hMM : wd a % 2147483648 = M at *
    have hpl' : float_shape_place.f 24 8 a = some (if S = 1 then -M else M) := by
      rw [hpl]; congr 1
      have : wrap64 (-M) = -M := by unfold wrap64; omega
      rw [this]
    have hf : ∀ by_ : Int, by_ = 1 ∨ by_ = -1 → float_Next.j0 (k + 6) a up by_ 24 8 = some (nj 2147483648 up (if (if S = 1 then -M else M) * by_ < 2139095040 then (if S = 1 then -M else M) + by_ else (if S = 1 then -M else M)), 0) := by
      intro by_ hb
      simp only [float_Next.j0, hpl', bs, top_24, e1, e2]
      rw [if_pos (by omega)]
      have hq : -2139095040 ≤ (if S = 1 then -M else M) ∧ (if S = 1 then -M else M) ≤ 2139095040 := by split <;> omega
      generalize (if S = 1 then -M else M) = q at *
      have w1 : wrap64 (q * by_) = q * by_ := by rcases hb with rfl | rfl <;> (unfold wrap64; omega)
      have w2 : wrap64 (q + by_) = q + by_ := by rcases hb with rfl | rfl <;> (unfold wrap64; omega)
      rw [w1, w2]
      by_cases h : q * by_ < 2139095040
      · rw [if_pos h, if_pos h, j1_4 (k + 3) up _ (by rcases hb with rfl | rfl <;> omega) (by rcases hb with rfl | rfl <;> omega)]
      · rw [if_neg h, if_neg h, j1_4 (k + 3) up _ (by omega) (by omega)]
    have hr : ∀ side : Int, side = 0 ∨ side = 1 → quadratref01_Next.j0 (k + 80) 4 a side what s m e = some (if M = 0 then wrap64 (side * 2147483648 + 1) else if S = side then (if M = 2139095040 then a else wrap64 (wd (wd a + 1))) else wrap64 (wd (wd a - 1)), 0) := by
      intro side hb
      simp only [quadratref01_Next.j0, hss, wrap_wd]
      by_cases h0 : M = 0
      · rw [if_pos (hz.2 h0), if_pos h0, hiE side hb]; rfl
      · rw [if_neg (fun h => h0 (hz.1 h)), if_neg h0]
        by_cases h1 : S = side
        · rw [if_pos h1, if_pos h1]
          by_cases h2 : M = 2139095040
          · rw [if_pos (hi.2 h2), if_pos h2]
          · rw [if_neg (fun h => h2 (hi.1 h)), if_neg h2]
        · rw [if_neg h1, if_neg h1]
    have fin : ∀ u M S : Int, u = S * 2147483648 + M → 0 ≤ M → M ≤ 2139095040 → (S = 0 ∨ S = 1) → u < 4294967296 →
        nj 2147483648 true (if (if S = 1 then -M else M) * 1 < 2139095040 then (if S = 1 then -M else M) + 1 else (if S = 1 then -M else M)) = (if M = 0 then wrap64 (0 * 2147483648 + 1) else if S = 0 then (if M = 2139095040 then wrap64 u else wrap64 (wd (u + 1))) else wrap64 (wd (u - 1))) ∧
        nj 2147483648 false (if (if S = 1 then -M else M) * (-1) < 2139095040 then (if S = 1 then -M else M) + (-1) else (if S = 1 then -M else M)) = (if M = 0 then wrap64 (1 * 2147483648 + 1) else if S = 1 then (if M = 2139095040 then wrap64 u else wrap64 (wd (u + 1))) else wrap64 (wd (u - 1))) := by
      intro u M S hu h0 h1 hs hl
      unfold nj wrap64 wd
      simp only [if_true, Bool.false_eq_true, if_false]
      rcases hs with rfl | rfl
      · simp only [show ¬ ((0 : Int) = 1) from by decide, if_false, if_true]
        constructor <;> (repeat' split) <;> omega
      · simp only [show ¬ ((1 : Int) = 0) from by decide, if_false, if_true]
        constructor <;> (repeat' split) <;> omega
    have fin' := fin (wd a) M S hU hM0 hM1 hs hlim
    rw [hwa] at fin'
    cases up with
    | true =>
      simp only [if_true]
      rw [hf 1 (.inl rfl), hr 0 (.inl rfl)]
      exact ⟨_, rfl, by rw [fin'.1]⟩
    | false =>
      simp only [Bool.false_eq_true, if_false]
      rw [hf (-1) (.inr rfl), hr 1 (.inr rfl)]
      exact ⟨_, rfl, by rw [fin'.2]⟩

theorem j1_8 (k : Nat) (up : Bool) (x : Int) (hx0 : -9223372036854775808 < x) (hx1 : x < 9223372036854775808) : float_Next.j1 (k + 2) up x 53 11 = some (nj 9223372036854775808 up x, 0) := by
  have e3 : wrap64 (wrap64 (53 + 11) - 1) = 63 := by kernel_rfl
  have e4 : shl .u64 1 63 = 9223372036854775808 := by kernel_rfl
  have z0 := zero_8 0 (.inl rfl)
  have z1 := zero_8 1 (.inr rfl)
  simp only [float_Next.j1, e3, e4, wrap_wd]
  unfold nj
  by_cases h : x < 0
  · rw [if_pos h, if_pos h, if_pos (by omega)]
    have e5 : wd (wrap64 (-x)) = wrap64 (-x) := by unfold wd wrap64; omega
    have e6 : 0 ≤ wrap64 (-x) ∧ wrap64 (-x) < 9223372036854775808 := by unfold wrap64; omega
    rw [e5, or_split 9223372036854775808 (wrap64 (-x)) 63 (by decide) (by decide) (by decide) e6.1 (by omega) (by omega)]
  · rw [if_neg h, if_neg h]
    by_cases h0 : x = 0
    · rw [if_pos h0, if_pos h0]
      cases up with
      | true => simp only [float_Next.j2, Bool.not_true, Bool.false_eq_true, if_false, z1, bs, if_true]; rw [if_pos h0]; simp
      | false => simp only [float_Next.j2, Bool.not_false, if_true, z0, bs]; simp [wrap64]
    · rw [if_neg h0, if_neg h0]
      simp only [float_Next.j2, Bool.false_eq_true, if_false]
      rw [if_neg h0]

theorem rquiet_8 : quadratref01_Quiet.f 8 = some (9218868437227405312 + 2251799813685248) := by kernel_rfl
theorem rbits1_8 (s : Int) (hs : s = 0 ∨ s = 1) : quadratref01_bits.f 8 s 0 1 = some (wrap64 (s * 9223372036854775808 + 1)) := by
  rcases hs with rfl | rfl <;> kernel_rfl
theorem next_8 (k : Nat) (a : Int) (up : Bool) (ha0 : -9223372036854775808 ≤ a) (ha1 : a < 9223372036854775808) :
    ∃ r, float_Next.f (k + 6) 8 a up = some r ∧ quadratref01_Next.f (k + 80) 8 a up = some r := by
  obtain ⟨hu0, hu1⟩ := wd_bd a
  have hwa : wrap64 (wd a) = a := by unfold wd wrap64; omega
  have hv : quadratref01_Valid.f 8 a = some true := by
    unfold quadratref01_Valid.f
    rw [if_neg (by decide), if_neg (by decide)]; rfl
  have e1 : wrap64 (53 - 1) = 52 := by kernel_rfl
  have e2 : wrap64 (shl .u64 2047 52) = 9218868437227405312 := by kernel_rfl
  have e3 : wrap64 (wrap64 (53 + 11) - 1) = 63 := by kernel_rfl
  have e4 : shl .u64 1 63 = 9223372036854775808 := by kernel_rfl
  unfold float_Next.f quadratref01_Next.f
  rw [hv, show k + 6 = (k + 3) + 3 from rfl, two_8 (k + 3) 0 a a (by omega) (by omega)  , show k + 80 = (k + 8) + 72 from rfl, taken_8 (k + 8) a]
  simp only [bs, twv, rdv_ok, Bool.and_true, if_true]
  have hTT : (4503599627370496 : Int) * 2048 = 9223372036854775808 := by decide
  have hlim : wd a < 18446744073709551616 := by unfold wd; omega
  unfold rdv tkv
  simp only [hTT]
  have hM : wd a % 9223372036854775808 = wd a / 4503599627370496 % 2048 * 4503599627370496 + wd a % 4503599627370496 := by omega
  have hU : wd a = wd a / 9223372036854775808 % 2 * 9223372036854775808 + wd a % 9223372036854775808 := by omega
  have hf0 : 0 ≤ wd a % 4503599627370496 := by omega
  have hf1 : wd a % 4503599627370496 < 4503599627370496 := by omega
  have he0 : 0 ≤ wd a / 4503599627370496 % 2048 := by omega
  have he1 : wd a / 4503599627370496 % 2048 < 2048 := by omega
  have hs : wd a / 9223372036854775808 % 2 = 0 ∨ wd a / 9223372036854775808 % 2 = 1 := by omega
  by_cases hn : wd a / 4503599627370496 % 2048 = 2048 - 1 ∧ ¬ wd a % 4503599627370496 = 0
  · rw [if_pos hn.1, if_neg hn.2, if_pos hn.1, if_neg hn.2]
    simp only [if_true, quiet_8, bs, sNone_list, rquiet_8]
    exact ⟨_, rfl, rfl⟩
  · have hcl : ∀ x : Int × Int × Int × Int × Bool, x = (if wd a / 4503599627370496 % 2048 = 2048 - 1 then if wd a % 4503599627370496 = 0 then (2, wd a / 9223372036854775808 % 2, 0, 0, true) else (3, wd a / 9223372036854775808 % 2, 0, 0, true)
        else if wd a / 4503599627370496 % 2048 = 0 then if wd a % 4503599627370496 = 0 then (0, wd a / 9223372036854775808 % 2, 0, 0, true) else (1, wd a / 9223372036854775808 % 2, wd a % 4503599627370496, (-1074), true)
        else (1, wd a / 9223372036854775808 % 2, wd a % 4503599627370496 + 4503599627370496, wd a / 4503599627370496 % 2048 + (-1075), true)) → x.1 ≠ 3 := by
      intro x hx
      subst hx
      by_cases h1 : wd a / 4503599627370496 % 2048 = 2048 - 1
      · have h2 : wd a % 4503599627370496 = 0 := Classical.byContradiction fun h => hn ⟨h1, h⟩
        rw [if_pos h1, if_pos h2]; simp
      · rw [if_neg h1]
        split
        · split <;> simp
        · simp
    have h3 := hcl _ rfl
    rw [if_neg h3]
    have hpl := place_8 a
    have hM0 : 0 ≤ wd a % 9223372036854775808 := by omega
    have hM1 : wd a % 9223372036854775808 ≤ 9218868437227405312 := by
      by_cases h1 : wd a / 4503599627370496 % 2048 = 2048 - 1
      · have h2 : wd a % 4503599627370496 = 0 := Classical.byContradiction fun h => hn ⟨h1, h⟩
        omega
      · omega
    -- the reference
    obtain ⟨what, s, m, e, htk, hz, hi, hnn, hss⟩ : ∃ what s m e, (if wd a / 4503599627370496 % 2048 = 2048 - 1 then if wd a % 4503599627370496 = 0 then (sInf, wd a / 9223372036854775808 % 2, ([] : List Int), (0 : Int)) else (sNone, 0, [], 0)
        else if wd a / 4503599627370496 % 2048 = 0 then if wd a % 4503599627370496 = 0 then (sZero, wd a / 9223372036854775808 % 2, [], 0) else (sFin, wd a / 9223372036854775808 % 2, RM.nat (wd a % 4503599627370496).toNat, (-1074))
        else (sFin, wd a / 9223372036854775808 % 2, RM.nat (wd a % 4503599627370496 + 4503599627370496).toNat, wd a / 4503599627370496 % 2048 + (-1075))) = (what, s, m, e) ∧ (what.toList = [122, 101, 114, 111] ↔ wd a % 9223372036854775808 = 0) ∧ (what.toList = [105, 110, 102, 105, 110, 105, 116, 101] ↔ wd a % 9223372036854775808 = 9218868437227405312) ∧ what.toList ≠ [110, 111, 110, 101] ∧ s = wd a / 9223372036854775808 % 2 := by
      by_cases h1 : wd a / 4503599627370496 % 2048 = 2048 - 1
      · have h2 : wd a % 4503599627370496 = 0 := Classical.byContradiction fun h => hn ⟨h1, h⟩
        rw [if_pos h1, if_pos h2]
        exact ⟨_, _, _, _, rfl, by rw [sInf_list]; exact ⟨fun h => (by cases h), fun h => (by omega)⟩, by rw [sInf_list]; exact ⟨fun _ => (by omega), fun _ => rfl⟩, by rw [sInf_list]; decide, rfl⟩
      · rw [if_neg h1]
        by_cases h4 : wd a / 4503599627370496 % 2048 = 0
        · rw [if_pos h4]
          by_cases h2 : wd a % 4503599627370496 = 0
          · rw [if_pos h2]
            exact ⟨_, _, _, _, rfl, by rw [sZero_list]; exact ⟨fun _ => (by omega), fun _ => rfl⟩, by rw [sZero_list]; exact ⟨fun h => (by cases h), fun h => (by omega)⟩, by rw [sZero_list]; decide, rfl⟩
          · rw [if_neg h2]
            exact ⟨_, _, _, _, rfl, by rw [sFin_list]; exact ⟨fun h => (by cases h), fun h => (by omega)⟩, by rw [sFin_list]; exact ⟨fun h => (by cases h), fun h => (by omega)⟩, by rw [sFin_list]; decide, rfl⟩
        · rw [if_neg h4]
          exact ⟨_, _, _, _, rfl, by rw [sFin_list]; exact ⟨fun h => (by cases h), fun h => (by omega)⟩, by rw [sFin_list]; exact ⟨fun h => (by cases h), fun h => (by omega)⟩, by rw [sFin_list]; decide, rfl⟩
    rw [htk]
    rw [if_neg hnn]
    have hiE := rbits1_8
    generalize wd a / 9223372036854775808 % 2 = S at *
    generalize hMM : wd a % 9223372036854775808 = M at *
    have hpl' : float_shape_place.f 53 11 a = some (if S = 1 then -M else M) := by
      rw [hpl]; congr 1
      have : wrap64 (-M) = -M := by unfold wrap64; omega
      rw [this]
    have hf : ∀ by_ : Int, by_ = 1 ∨ by_ = -1 → float_Next.j0 (k + 6) a up by_ 53 11 = some (nj 9223372036854775808 up (if (if S = 1 then -M else M) * by_ < 9218868437227405312 then (if S = 1 then -M else M) + by_ else (if S = 1 then -M else M)), 0) := by
      intro by_ hb
      simp only [float_Next.j0, hpl', bs, top_53, e1, e2]
      rw [if_pos (by omega)]
      have hq : -9218868437227405312 ≤ (if S = 1 then -M else M) ∧ (if S = 1 then -M else M) ≤ 9218868437227405312 := by split <;> omega
      generalize (if S = 1 then -M else M) = q at *
      have w1 : wrap64 (q * by_) = q * by_ := by rcases hb with rfl | rfl <;> (unfold wrap64; omega)
      have w2 : wrap64 (q + by_) = q + by_ := by rcases hb with rfl | rfl <;> (unfold wrap64; omega)
      rw [w1, w2]
      by_cases h : q * by_ < 9218868437227405312
      · rw [if_pos h, if_pos h, j1_8 (k + 3) up _ (by rcases hb with rfl | rfl <;> omega) (by rcases hb with rfl | rfl <;> omega)]
      · rw [if_neg h, if_neg h, j1_8 (k + 3) up _ (by omega) (by omega)]
    have hr : ∀ side : Int, side = 0 ∨ side = 1 → quadratref01_Next.j0 (k + 80) 8 a side what s m e = some (if M = 0 then wrap64 (side * 9223372036854775808 + 1) else if S = side then (if M = 9218868437227405312 then a else wrap64 (wd (wd a + 1))) else wrap64 (wd (wd a - 1)), 0) := by
      intro side hb
      simp only [quadratref01_Next.j0, hss, wrap_wd]
      by_cases h0 : M = 0
      · rw [if_pos (hz.2 h0), if_pos h0, hiE side hb]; rfl
      · rw [if_neg (fun h => h0 (hz.1 h)), if_neg h0]
        by_cases h1 : S = side
        · rw [if_pos h1, if_pos h1]
          by_cases h2 : M = 9218868437227405312
          · rw [if_pos (hi.2 h2), if_pos h2]
          · rw [if_neg (fun h => h2 (hi.1 h)), if_neg h2]
        · rw [if_neg h1, if_neg h1]
    have fin : ∀ u M S : Int, u = S * 9223372036854775808 + M → 0 ≤ M → M ≤ 9218868437227405312 → (S = 0 ∨ S = 1) → u < 18446744073709551616 →
        nj 9223372036854775808 true (if (if S = 1 then -M else M) * 1 < 9218868437227405312 then (if S = 1 then -M else M) + 1 else (if S = 1 then -M else M)) = (if M = 0 then wrap64 (0 * 9223372036854775808 + 1) else if S = 0 then (if M = 9218868437227405312 then wrap64 u else wrap64 (wd (u + 1))) else wrap64 (wd (u - 1))) ∧
        nj 9223372036854775808 false (if (if S = 1 then -M else M) * (-1) < 9218868437227405312 then (if S = 1 then -M else M) + (-1) else (if S = 1 then -M else M)) = (if M = 0 then wrap64 (1 * 9223372036854775808 + 1) else if S = 1 then (if M = 9218868437227405312 then wrap64 u else wrap64 (wd (u + 1))) else wrap64 (wd (u - 1))) := by
      intro u M S hu h0 h1 hs hl
      unfold nj wrap64 wd
      simp only [if_true, Bool.false_eq_true, if_false]
      rcases hs with rfl | rfl
      · simp only [show ¬ ((0 : Int) = 1) from by decide, if_false, if_true]
        constructor <;> (repeat' split) <;> omega
      · simp only [show ¬ ((1 : Int) = 0) from by decide, if_false, if_true]
        constructor <;> (repeat' split) <;> omega
    have fin' := fin (wd a) M S hU hM0 hM1 hs hlim
    rw [hwa] at fin'
    cases up with
    | true =>
      simp only [if_true]
      rw [hf 1 (.inl rfl), hr 0 (.inl rfl)]
      exact ⟨_, rfl, by rw [fin'.1]⟩
    | false =>
      simp only [Bool.false_eq_true, if_false]
      rw [hf (-1) (.inr rfl), hr 1 (.inr rfl)]
      exact ⟨_, rfl, by rw [fin'.2]⟩

theorem next_all (k : Nat) (kind a : Int) (up : Bool) (ha0 : -9223372036854775808 ≤ a) (ha1 : a < 9223372036854775808) : ∃ r, float_Next.f (k + 200) kind a up = some r ∧ quadratref01_Next.f (k + 200) kind a up = some r := by
  have bad : ∀ (n : Int) (kd p w : Int), kd = 2 ∧ n = 65536 ∧ p = 11 ∧ w = 5 ∨ kd = 4 ∧ n = 4294967296 ∧ p = 24 ∧ w = 8 → ¬ (0 ≤ a ∧ a < n) → float_Next.f (k + 200) kd a up = some (0, 2) ∧ quadratref01_Next.f (k + 200) kd a up = some (0, 2) := by
    intro n kd p w hc hn
    rcases hc with ⟨rfl, rfl, rfl, rfl⟩ | ⟨rfl, rfl, rfl, rfl⟩
    · obtain ⟨x1, x2, x3, x4, y1, y2, y3, y4, ht⟩ := two_bad_2 (k + 197) 0 a a (by omega) (by omega) ha0 ha1 ha0 ha1 (.inl hn)
      constructor
      · unfold float_Next.f; rw [ht]; rfl
      · have hv : quadratref01_Valid.f 2 a = some false := by
          unfold quadratref01_Valid.f
          rw [if_pos rfl]
          by_cases h0 : a ≥ 0
          · rw [if_pos h0]; simp; omega
          · rw [if_neg h0]
        unfold quadratref01_Next.f; rw [hv]; rfl
    · obtain ⟨x1, x2, x3, x4, y1, y2, y3, y4, ht⟩ := two_bad_4 (k + 197) 0 a a (by omega) (by omega) ha0 ha1 ha0 ha1 (.inl hn)
      constructor
      · unfold float_Next.f; rw [ht]; rfl
      · have hv : quadratref01_Valid.f 4 a = some false := by
          unfold quadratref01_Valid.f
          rw [if_neg (by decide), if_pos rfl]
          by_cases h0 : a ≥ 0
          · rw [if_pos h0]; simp; omega
          · rw [if_neg h0]
        unfold quadratref01_Next.f; rw [hv]; rfl
  have up1 : ∀ (kd : Int) (r : Int × Int), float_Next.f (k + 6) kd a up = some r ∧ quadratref01_Next.f (k + 80) kd a up = some r → float_Next.f (k + 200) kd a up = some r ∧ quadratref01_Next.f (k + 200) kd a up = some r := fun kd r h =>
    ⟨atle (g := fun k => float_Next.f k kd a up) (fun k r h => float_Next.mono kd a up k r h) h.1 _ (by omega), atle (g := fun k => quadratref01_Next.f k kd a up) (fun k r h => quadratref01_Next.mono kd a up k r h) h.2 _ (by omega)⟩
  by_cases h2 : kind = 2
  · subst h2
    by_cases hv : 0 ≤ a ∧ a < 65536
    · obtain ⟨r, h⟩ := next_2 k a up ha0 ha1 hv.1 hv.2
      exact ⟨r, up1 2 r h⟩
    · exact ⟨_, bad 65536 2 11 5 (.inl ⟨rfl, rfl, rfl, rfl⟩) hv⟩
  · by_cases h4 : kind = 4
    · subst h4
      by_cases hv : 0 ≤ a ∧ a < 4294967296
      · obtain ⟨r, h⟩ := next_4 k a up ha0 ha1 hv.1 hv.2
        exact ⟨r, up1 4 r h⟩
      · exact ⟨_, bad 4294967296 4 24 8 (.inr ⟨rfl, rfl, rfl, rfl⟩) hv⟩
    · by_cases h8 : kind = 8
      · subst h8
        obtain ⟨r, h⟩ := next_8 k a up ha0 ha1
        exact ⟨r, up1 8 r h⟩
      · exact ⟨_, next_none (k + 200) kind a up h2 h4 h8⟩
theorem FloatNext : quadratlaw01_FloatNext.Pure := by
  intro kind a _ ha
  have hb : -9223372036854775808 ≤ a ∧ a < 9223372036854775808 := by simp [Lit.wf, IntKind.min, IntKind.max, IntKind.bits, IntKind.signed] at ha; omega
  refine ⟨300, ?_⟩
  obtain ⟨r, h1, h2⟩ := next_all 100 kind a true hb.1 hb.2
  obtain ⟨q, h3, h4⟩ := next_all 100 kind a false hb.1 hb.2
  unfold quadratlaw01_FloatNext.f
  rw [h1, h2, h3, h4, awake 200]
  simp

end Go.Proofs.Ytgpnmifejgdipaa.Pf
