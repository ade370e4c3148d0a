/-
  Two floats and a mode, as the program and the reference take them: either both refuse, or both see the same. By the session's own hand (printed by gen_l.py).
-/
import Derived.Test.YtgpnmifejgdipaaDoorSPg
import Derived.Test.YtgpnmifejgdipaaDoorDf
set_option linter.unusedVariables false
namespace Go.Proofs.YtgpnmifejgdipaaDoor.Pf
open Go.RowKit Go.Proofs.YtgpnmifejgdipaaDoor.My Go.Proofs.YtgpnmifejgdipaaDoor.RM Go.Proofs.YtgpnmifejgdipaaDoorW.PrintWords Go.Proofs.YtgpnmifejgdipaaDoorW.PrintLast Go.Proofs.YtgpnmifejgdipaaDoorW.PrintMore

/-- A float as the program reads it and as the reference takes it. -/
inductive Vw (p : Nat) (bias : Int) : (Int × Int × Int × Int × Bool) → (ByteArray × Int × List Int × Int) → Prop
  | none (s : Int) (hs : s = 0 ∨ s = 1) : Vw p bias (3, s, 0, 0, true) (sNone, 0, [], 0)
  | inf (s : Int) (hs : s = 0 ∨ s = 1) : Vw p bias (2, s, 0, 0, true) (sInf, s, [], 0)
  | zero (s : Int) (hs : s = 0 ∨ s = 1) : Vw p bias (0, s, 0, 0, true) (sZero, s, [], 0)
  | fin (s : Int) (hs : s = 0 ∨ s = 1) (m : Nat) (e : Int) (hm : m ≠ 0) (hm1 : m < 2 ^ p) (he0 : 2 - bias - p ≤ e) (he1 : e ≤ bias + 1 - p) (hl : m < 2 ^ (p - 1) → e = 2 - bias - p) : Vw p bias (1, s, (m : Int), e, true) (sFin, s, nat m, e)
theorem isMode_ok (mode : Int) (h0 : 0 ≤ mode) (h1 : mode < 4) : quadratref01_IsMode.f mode = some true := by
  unfold quadratref01_IsMode.f; rw [if_pos (by omega), decide_eq_true (by omega)]
theorem isMode_bad (mode : Int) (h : mode < 0 ∨ 4 ≤ mode) : quadratref01_IsMode.f mode = some false := by
  unfold quadratref01_IsMode.f
  by_cases h0 : mode ≥ 0
  · rw [if_pos h0, decide_eq_false (by omega)]
  · rw [if_neg h0]
/-- Both see two floats. -/
def Seen (k : Nat) (kind mode a b : Int) : Prop := quadratref01_asked.f kind mode a b = some true ∧ (0 ≤ mode ∧ mode ≤ 3) ∧ ∃ (p : Nat) (w bias T : Int) (x y : Int × Int × Int × Int × Bool) (x' y' : ByteArray × Int × List Int × Int),
  RK kind p bias T ∧ PK p w bias T ∧ float_of.f kind = some ((p : Int), w, true) ∧ float_two.f k kind mode a b = some (twv p w x y) ∧ quadratref01_taken.f k kind a = some x' ∧ quadratref01_taken.f k kind b = some y' ∧ Vw p bias x x' ∧ Vw p bias y y' ∧ (x.2.1 = wd a / T % 2 ∧ (x.1 = 0 → wd a % T = 0)) ∧ (y.2.1 = wd b / T % 2 ∧ (y.1 = 0 → wd b % T = 0))
/-- Both refuse. -/
def Refused (k : Nat) (kind mode a b : Int) : Prop := quadratref01_asked.f kind mode a b = some false ∧ ∃ p w x1 x2 x3 x4 y1 y2 y3 y4, float_two.f k kind mode a b = some (p, w, x1, x2, x3, x4, y1, y2, y3, y4, false)

theorem view_2 (u : Int) (h0 : 0 ≤ u) (h1 : u < 18446744073709551616) : Vw 11 15 (rdv 1024 32 (-24) (-25) u) (tkv 1024 32 (-24) (-25) u) := by
  have hTT : (1024 : Int) * 32 = 32768 := by decide
  have hp2 : (2 : Nat) ^ 11 = 2 * 1024 := by decide
  have hp1 : (2 : Nat) ^ (11 - 1) = 1024 := by decide
  unfold rdv tkv
  simp only [hTT]
  have hs : u / 32768 % 2 = 0 ∨ u / 32768 % 2 = 1 := by omega
  have hf0 : 0 ≤ u % 1024 := by omega
  have hf1 : u % 1024 < 1024 := by omega
  have he0 : 0 ≤ u / 1024 % 32 := by omega
  have he1 : u / 1024 % 32 < 32 := by omega
  generalize u / 32768 % 2 = S at *
  generalize u / 1024 % 32 = E at *
  generalize u % 1024 = F at *
  by_cases h2 : E = 32 - 1
  · rw [if_pos h2, if_pos h2]
    by_cases h3 : F = 0
    · rw [if_pos h3, if_pos h3]; exact .inf S hs
    · rw [if_neg h3, if_neg h3]; exact .none S hs
  · rw [if_neg h2, if_neg h2]
    by_cases h4 : E = 0
    · rw [if_pos h4, if_pos h4]
      by_cases h3 : F = 0
      · rw [if_pos h3, if_pos h3]; exact .zero S hs
      · rw [if_neg h3, if_neg h3]
        have := Vw.fin (p := 11) (bias := 15) S hs F.toNat (-24) (by omega) (by omega) (by decide) (by decide) (fun _ => by decide)
        rw [Int.toNat_of_nonneg hf0] at this
        exact this
    · rw [if_neg h4, if_neg h4]
      have := Vw.fin (p := 11) (bias := 15) S hs (F + 1024).toNat (E + (-25)) (by omega) (by omega) (by omega) (by omega) (fun hh => by omega)
      rw [Int.toNat_of_nonneg (by omega)] at this
      exact this

theorem more_2 (u : Int) : (rdv 1024 32 (-24) (-25) u).2.1 = u / 32768 % 2 ∧ ((rdv 1024 32 (-24) (-25) u).1 = 0 → u % 32768 = 0) := by
  have hTT : (1024 : Int) * 32 = 32768 := by decide
  unfold rdv
  simp only [hTT]
  constructor
  · (repeat' split) <;> rfl
  · intro h
    by_cases h2 : u / 1024 % 32 = 32 - 1
    · rw [if_pos h2] at h
      by_cases h3 : u % 1024 = 0
      · rw [if_pos h3] at h; simp at h
      · rw [if_neg h3] at h; simp at h
    · rw [if_neg h2] at h
      by_cases h4 : u / 1024 % 32 = 0
      · rw [if_pos h4] at h
        by_cases h3 : u % 1024 = 0
        · omega
        · rw [if_neg h3] at h; simp at h
      · rw [if_neg h4] at h; simp at h

theorem valid_2 (a : Int) : quadratref01_Valid.f 2 a = some (decide (0 ≤ a ∧ a < 65536)) := by
  unfold quadratref01_Valid.f
  rw [if_pos rfl]
  by_cases h : a ≥ 0
  · rw [if_pos h]; congr 1; simp [h]
  · rw [if_neg h, decide_eq_false (by omega)]
theorem ask_2 (k : Nat) (mode a b : Int) (ha0 : -9223372036854775808 ≤ a) (ha1 : a < 9223372036854775808) (hb0 : -9223372036854775808 ≤ b) (hb1 : b < 9223372036854775808) :
    Refused (k + 72) 2 mode a b ∨ Seen (k + 72) 2 mode a b := by
  by_cases hm : mode < 0 ∨ 4 ≤ mode
  · refine .inl ⟨?_, ⟨_, _, _, _, _, _, _, _, _, _, two_mode_2 (k + 72) mode a b hm⟩⟩
    unfold quadratref01_asked.f; rw [isMode_bad mode hm]; rfl
  · have hm0 : 0 ≤ mode := by omega
    have hm1 : mode < 4 := by omega
    have hi := isMode_ok mode hm0 hm1
    by_cases ha : 0 ≤ a ∧ a < 65536
    · by_cases hb : 0 ≤ b ∧ b < 65536
      · refine .inr ⟨?_, ⟨hm0, by omega⟩, 11, 5, 15, 32768, _, _, _, _, rk_2, pk_2, by kernel_rfl, two_2 (k + 69) mode a b hm0 hm1 ha.1 ha.2 hb.1 hb.2, taken_2 k a, taken_2 k b, view_2 (wd a) (wd_bd a).1 (wd_bd a).2, view_2 (wd b) (wd_bd b).1 (wd_bd b).2, more_2 (wd a), more_2 (wd b)⟩
        unfold quadratref01_asked.f; rw [hi, valid_2, valid_2, decide_eq_true ha, decide_eq_true hb]; rfl
      · obtain ⟨x1, x2, x3, x4, y1, y2, y3, y4, ht⟩ := two_bad_2 (k + 69) mode a b hm0 hm1 ha0 ha1 hb0 hb1 (.inr hb)
        refine .inl ⟨?_, ⟨_, _, x1, x2, x3, x4, y1, y2, y3, y4, ht⟩⟩
        unfold quadratref01_asked.f; rw [hi, valid_2, valid_2, decide_eq_true ha, decide_eq_false hb]; rfl
    · obtain ⟨x1, x2, x3, x4, y1, y2, y3, y4, ht⟩ := two_bad_2 (k + 69) mode a b hm0 hm1 ha0 ha1 hb0 hb1 (.inl ha)
      refine .inl ⟨?_, ⟨_, _, x1, x2, x3, x4, y1, y2, y3, y4, ht⟩⟩
      unfold quadratref01_asked.f; rw [hi, valid_2, decide_eq_false ha]; rfl

theorem view_4 (u : Int) (h0 : 0 ≤ u) (h1 : u < 18446744073709551616) : Vw 24 127 (rdv 8388608 256 (-149) (-150) u) (tkv 8388608 256 (-149) (-150) u) := by
  have hTT : (8388608 : Int) * 256 = 2147483648 := by decide
  have hp2 : (2 : Nat) ^ 24 = 2 * 8388608 := by decide
  have hp1 : (2 : Nat) ^ (24 - 1) = 8388608 := by decide
  unfold rdv tkv
  simp only [hTT]
  have hs : u / 2147483648 % 2 = 0 ∨ u / 2147483648 % 2 = 1 := by omega
  have hf0 : 0 ≤ u % 8388608 := by omega
  have hf1 : u % 8388608 < 8388608 := by omega
  have he0 : 0 ≤ u / 8388608 % 256 := by omega
  have he1 : u / 8388608 % 256 < 256 := by omega
  generalize u / 2147483648 % 2 = S at *
  generalize u / 8388608 % 256 = E at *
  generalize u % 8388608 = F at *
  by_cases h2 : E = 256 - 1
  · rw [if_pos h2, if_pos h2]
    by_cases h3 : F = 0
    · rw [if_pos h3, if_pos h3]; exact .inf S hs
    · rw [if_neg h3, if_neg h3]; exact .none S hs
  · rw [if_neg h2, if_neg h2]
    by_cases h4 : E = 0
    · rw [if_pos h4, if_pos h4]
      by_cases h3 : F = 0
      · rw [if_pos h3, if_pos h3]; exact .zero S hs
      · rw [if_neg h3, if_neg h3]
        have := Vw.fin (p := 24) (bias := 127) S hs F.toNat (-149) (by omega) (by omega) (by decide) (by decide) (fun _ => by decide)
        rw [Int.toNat_of_nonneg hf0] at this
        exact this
    · rw [if_neg h4, if_neg h4]
      have := Vw.fin (p := 24) (bias := 127) S hs (F + 8388608).toNat (E + (-150)) (by omega) (by omega) (by omega) (by omega) (fun hh => by omega)
      rw [Int.toNat_of_nonneg (by omega)] at this
      exact this

theorem more_4 (u : Int) : (rdv 8388608 256 (-149) (-150) u).2.1 = u / 2147483648 % 2 ∧ ((rdv 8388608 256 (-149) (-150) u).1 = 0 → u % 2147483648 = 0) := by
  have hTT : (8388608 : Int) * 256 = 2147483648 := by decide
  unfold rdv
  simp only [hTT]
  constructor
  · (repeat' split) <;> rfl
  · intro h
    by_cases h2 : u / 8388608 % 256 = 256 - 1
    · rw [if_pos h2] at h
      by_cases h3 : u % 8388608 = 0
      · rw [if_pos h3] at h; simp at h
      · rw [if_neg h3] at h; simp at h
    · rw [if_neg h2] at h
      by_cases h4 : u / 8388608 % 256 = 0
      · rw [if_pos h4] at h
        by_cases h3 : u % 8388608 = 0
        · omega
        · rw [if_neg h3] at h; simp at h
      · rw [if_neg h4] at h; simp at h

theorem valid_4 (a : Int) : quadratref01_Valid.f 4 a = some (decide (0 ≤ a ∧ a < 4294967296)) := by
  unfold quadratref01_Valid.f
  rw [if_neg (by decide), if_pos rfl]
  by_cases h : a ≥ 0
  · rw [if_pos h]; congr 1; simp [h]
  · rw [if_neg h, decide_eq_false (by omega)]
theorem ask_4 (k : Nat) (mode a b : Int) (ha0 : -9223372036854775808 ≤ a) (ha1 : a < 9223372036854775808) (hb0 : -9223372036854775808 ≤ b) (hb1 : b < 9223372036854775808) :
    Refused (k + 72) 4 mode a b ∨ Seen (k + 72) 4 mode a b := by
  by_cases hm : mode < 0 ∨ 4 ≤ mode
  · refine .inl ⟨?_, ⟨_, _, _, _, _, _, _, _, _, _, two_mode_4 (k + 72) mode a b hm⟩⟩
    unfold quadratref01_asked.f; rw [isMode_bad mode hm]; rfl
  · have hm0 : 0 ≤ mode := by omega
    have hm1 : mode < 4 := by omega
    have hi := isMode_ok mode hm0 hm1
    by_cases ha : 0 ≤ a ∧ a < 4294967296
    · by_cases hb : 0 ≤ b ∧ b < 4294967296
      · refine .inr ⟨?_, ⟨hm0, by omega⟩, 24, 8, 127, 2147483648, _, _, _, _, rk_4, pk_4, by kernel_rfl, two_4 (k + 69) mode a b hm0 hm1 ha.1 ha.2 hb.1 hb.2, taken_4 k a, taken_4 k b, view_4 (wd a) (wd_bd a).1 (wd_bd a).2, view_4 (wd b) (wd_bd b).1 (wd_bd b).2, more_4 (wd a), more_4 (wd b)⟩
        unfold quadratref01_asked.f; rw [hi, valid_4, valid_4, decide_eq_true ha, decide_eq_true hb]; rfl
      · obtain ⟨x1, x2, x3, x4, y1, y2, y3, y4, ht⟩ := two_bad_4 (k + 69) mode a b hm0 hm1 ha0 ha1 hb0 hb1 (.inr hb)
        refine .inl ⟨?_, ⟨_, _, x1, x2, x3, x4, y1, y2, y3, y4, ht⟩⟩
        unfold quadratref01_asked.f; rw [hi, valid_4, valid_4, decide_eq_true ha, decide_eq_false hb]; rfl
    · obtain ⟨x1, x2, x3, x4, y1, y2, y3, y4, ht⟩ := two_bad_4 (k + 69) mode a b hm0 hm1 ha0 ha1 hb0 hb1 (.inl ha)
      refine .inl ⟨?_, ⟨_, _, x1, x2, x3, x4, y1, y2, y3, y4, ht⟩⟩
      unfold quadratref01_asked.f; rw [hi, valid_4, decide_eq_false ha]; rfl

theorem view_8 (u : Int) (h0 : 0 ≤ u) (h1 : u < 18446744073709551616) : Vw 53 1023 (rdv 4503599627370496 2048 (-1074) (-1075) u) (tkv 4503599627370496 2048 (-1074) (-1075) u) := by
  have hTT : (4503599627370496 : Int) * 2048 = 9223372036854775808 := by decide
  have hp2 : (2 : Nat) ^ 53 = 2 * 4503599627370496 := by decide
  have hp1 : (2 : Nat) ^ (53 - 1) = 4503599627370496 := by decide
  unfold rdv tkv
  simp only [hTT]
  have hs : u / 9223372036854775808 % 2 = 0 ∨ u / 9223372036854775808 % 2 = 1 := by omega
  have hf0 : 0 ≤ u % 4503599627370496 := by omega
  have hf1 : u % 4503599627370496 < 4503599627370496 := by omega
  have he0 : 0 ≤ u / 4503599627370496 % 2048 := by omega
  have he1 : u / 4503599627370496 % 2048 < 2048 := by omega
  generalize u / 9223372036854775808 % 2 = S at *
  generalize u / 4503599627370496 % 2048 = E at *
  generalize u % 4503599627370496 = F at *
  by_cases h2 : E = 2048 - 1
  · rw [if_pos h2, if_pos h2]
    by_cases h3 : F = 0
    · rw [if_pos h3, if_pos h3]; exact .inf S hs
    · rw [if_neg h3, if_neg h3]; exact .none S hs
  · rw [if_neg h2, if_neg h2]
    by_cases h4 : E = 0
    · rw [if_pos h4, if_pos h4]
      by_cases h3 : F = 0
      · rw [if_pos h3, if_pos h3]; exact .zero S hs
      · rw [if_neg h3, if_neg h3]
        have := Vw.fin (p := 53) (bias := 1023) S hs F.toNat (-1074) (by omega) (by omega) (by decide) (by decide) (fun _ => by decide)
        rw [Int.toNat_of_nonneg hf0] at this
        exact this
    · rw [if_neg h4, if_neg h4]
      have := Vw.fin (p := 53) (bias := 1023) S hs (F + 4503599627370496).toNat (E + (-1075)) (by omega) (by omega) (by omega) (by omega) (fun hh => by omega)
      rw [Int.toNat_of_nonneg (by omega)] at this
      exact this

theorem more_8 (u : Int) : (rdv 4503599627370496 2048 (-1074) (-1075) u).2.1 = u / 9223372036854775808 % 2 ∧ ((rdv 4503599627370496 2048 (-1074) (-1075) u).1 = 0 → u % 9223372036854775808 = 0) := by
  have hTT : (4503599627370496 : Int) * 2048 = 9223372036854775808 := by decide
  unfold rdv
  simp only [hTT]
  constructor
  · (repeat' split) <;> rfl
  · intro h
    by_cases h2 : u / 4503599627370496 % 2048 = 2048 - 1
    · rw [if_pos h2] at h
      by_cases h3 : u % 4503599627370496 = 0
      · rw [if_pos h3] at h; simp at h
      · rw [if_neg h3] at h; simp at h
    · rw [if_neg h2] at h
      by_cases h4 : u / 4503599627370496 % 2048 = 0
      · rw [if_pos h4] at h
        by_cases h3 : u % 4503599627370496 = 0
        · omega
        · rw [if_neg h3] at h; simp at h
      · rw [if_neg h4] at h; simp at h

theorem valid_8 (a : Int) : quadratref01_Valid.f 8 a = some true := by
  unfold quadratref01_Valid.f
  rw [if_neg (by decide), if_neg (by decide)]; rfl
theorem ask_8 (k : Nat) (mode a b : Int) : Refused (k + 72) 8 mode a b ∨ Seen (k + 72) 8 mode a b := by
  by_cases hm : mode < 0 ∨ 4 ≤ mode
  · refine .inl ⟨?_, ⟨_, _, _, _, _, _, _, _, _, _, two_mode_8 (k + 72) mode a b hm⟩⟩
    unfold quadratref01_asked.f; rw [isMode_bad mode hm]; rfl
  · have hm0 : 0 ≤ mode := by omega
    have hm1 : mode < 4 := by omega
    have hi := isMode_ok mode hm0 hm1
    refine .inr ⟨?_, ⟨hm0, by omega⟩, 53, 11, 1023, 9223372036854775808, _, _, _, _, rk_8, pk_8, by kernel_rfl, two_8 (k + 69) mode a b hm0 hm1, taken_8 k a, taken_8 k b, view_8 (wd a) (wd_bd a).1 (wd_bd a).2, view_8 (wd b) (wd_bd b).1 (wd_bd b).2, more_8 (wd a), more_8 (wd b)⟩
    unfold quadratref01_asked.f; rw [hi, valid_8, valid_8]; rfl
theorem valid_none (kind a : Int) (h2 : kind ≠ 2) (h4 : kind ≠ 4) (h8 : kind ≠ 8) : quadratref01_Valid.f kind a = some false := by
  unfold quadratref01_Valid.f
  rw [if_neg h2, if_neg h4]; congr 1; simp [h8]
theorem ask (k : Nat) (kind mode a b : Int) (ha0 : -9223372036854775808 ≤ a) (ha1 : a < 9223372036854775808) (hb0 : -9223372036854775808 ≤ b) (hb1 : b < 9223372036854775808) :
    Refused (k + 72) kind mode a b ∨ Seen (k + 72) kind mode a b := by
  by_cases h2 : kind = 2
  · subst h2; exact ask_2 k mode a b ha0 ha1 hb0 hb1
  by_cases h4 : kind = 4
  · subst h4; exact ask_4 k mode a b ha0 ha1 hb0 hb1
  by_cases h8 : kind = 8
  · subst h8; exact ask_8 k mode a b
  refine .inl ⟨?_, ⟨_, _, _, _, _, _, _, _, _, _, two_none (k + 72) kind mode a b h2 h4 h8⟩⟩
  unfold quadratref01_asked.f
  by_cases hm : mode < 0 ∨ 4 ≤ mode
  · rw [isMode_bad mode hm]; rfl
  · rw [isMode_ok mode (by omega) (by omega), valid_none kind a h2 h4 h8]; rfl

end Go.Proofs.YtgpnmifejgdipaaDoor.Pf
