/-
  FloatCompares: comparisons are what the reference says, and so is which bits are floats, for every kind and every two words. By the session's own hand (printed by gen_cmp.py).
-/
import Derived.Test.YtgpnmifejgdipaaSPl
import Derived.Test.YtgpnmifejgdipaaSPaw
import Derived.Test.YtgpnmifejgdipaaDf
set_option linter.unusedVariables false
namespace Go.Proofs.Ytgpnmifejgdipaa.Pf
open Go.RowKit Go.Proofs.Ytgpnmifejgdipaa.My Go.Proofs.Ytgpnmifejgdipaa.RM Go.Proofs.YtgpnmifejgdipaaW.PrintWords Go.Proofs.YtgpnmifejgdipaaW.PrintLast Go.Proofs.YtgpnmifejgdipaaW.PrintMore

theorem sInf_l : sInf.toList = [105, 110, 102, 105, 110, 105, 116, 101] := by decide +kernel
theorem sNone_l : sNone.toList = [110, 111, 110, 101] := by decide +kernel
theorem sZero_l : sZero.toList = [122, 101, 114, 111] := by decide +kernel
theorem sFin_l : sFin.toList = [102, 105, 110, 105, 116, 101] := by decide +kernel
def cmp3 (A B : Int) : Int × Int := if A < B then (-1, 0) else if A > B then (1, 0) else (0, 0)
/-- The place of a word. -/
def plc (T u : Int) : Int := if u / T % 2 = 1 then wrap64 (-(u % T)) else u % T
theorem pcmp_j1 {p : Nat} {w bias T : Int} (h : PK p w bias T) (k : Nat) (a b : Int) : float_Compare.j1 (k + 1) a b p w = some (cmp3 (plc T (wd a)) (plc T (wd b))) := by
  simp only [float_Compare.j1]
  rw [h.pla, bs, h.pla, bs]
  unfold cmp3 plc
  (repeat' split) <;> rfl
theorem pcmp_j0 {p : Nat} {w bias T : Int} (h : PK p w bias T) (k : Nat) (a b x1 x2 x3 x4 y1 y2 y3 y4 : Int) (hx : x1 = 0 → wd a % T = 0) (hy : y1 = 0 → wd b % T = 0) :
    float_Compare.j0 (k + 2) a b false p w x1 x2 x3 x4 y1 y2 y3 y4 = some (cmp3 (plc T (wd a)) (plc T (wd b))) := by
  simp only [float_Compare.j0, Bool.false_eq_true, if_false, pcmp_j1 h k a b]
  by_cases h0 : x1 = 0
  · rw [if_pos h0]
    by_cases h1 : y1 = 0
    · rw [if_pos h1]
      unfold cmp3 plc
      rw [hx h0, hy h1]
      have : wrap64 (-0) = 0 := by kernel_rfl
      rw [this]; simp
    · rw [if_neg h1]
  · rw [if_neg h0]
theorem rcmp_j0 {kind bias T : Int} {p : Nat} (h : RK kind p bias T) (k : Nat) (a b : Int) (wa : ByteArray) (sa : Int) (la : List Int) (ea : Int) (wb : ByteArray) (sb : Int) (lb : List Int) (eb : Int) (hsa : sa = wd a / T % 2) (hsb : sb = wd b / T % 2) :
    quadratref01_Compare.j0 (k + 3) kind a b false wa sa la ea wb sb lb eb = some (cmp3 (plc T (wd a)) (plc T (wd b))) := by
  simp only [quadratref01_Compare.j0, quadratref01_Compare.j1, quadratref01_Compare.j2, Bool.false_eq_true, if_false]
  rw [h.siz, bs, h.siz, bs]
  unfold cmp3 plc
  rw [← hsa, ← hsb]
  by_cases h1 : sa = 1
  · by_cases h2 : sb = 1
    · simp only [h1, h2, if_true]; (repeat' split) <;> rfl
    · simp only [h1, h2, if_true, if_false]; (repeat' split) <;> rfl
  · by_cases h2 : sb = 1
    · simp only [h1, h2, if_true, if_false]; (repeat' split) <;> rfl
    · simp only [h1, h2, if_false]; (repeat' split) <;> rfl
theorem pcmp_true (k : Nat) (a b p w x1 x2 x3 x4 y1 y2 y3 y4 : Int) : float_Compare.j0 (k + 1) a b true p w x1 x2 x3 x4 y1 y2 y3 y4 = some (2, 0) := by simp only [float_Compare.j0, if_true]
theorem rcmp_true (k : Nat) (kind a b : Int) (wa : ByteArray) (sa : Int) (la : List Int) (ea : Int) (wb : ByteArray) (sb : Int) (lb : List Int) (eb : Int) : quadratref01_Compare.j0 (k + 1) kind a b true wa sa la ea wb sb lb eb = some (2, 0) := by simp only [quadratref01_Compare.j0, if_true]
theorem compare_eq (k : Nat) (kind a b : Int) (ha0 : -9223372036854775808 ≤ a) (ha1 : a < 9223372036854775808) (hb0 : -9223372036854775808 ≤ b) (hb1 : b < 9223372036854775808) :
    ∃ r, float_Compare.f (k + 72) kind a b = some r ∧ quadratref01_Compare.f (k + 72) kind a b = some r := by
  rcases ask k kind 0 a b ha0 ha1 hb0 hb1 with ⟨h1, p, w, x1, x2, x3, x4, y1, y2, y3, y4, ht⟩ | ⟨h1, hm, p, w, bias, T, x, y, x', y', hr, hp, hof, ht, hx, hy, vx, vy, ⟨sx, zx⟩, sy, zy⟩
  · refine ⟨(0, 2), ?_, ?_⟩
    · unfold float_Compare.f; rw [ht, bs]; simp
    · unfold quadratref01_Compare.f; rw [h1, bs]; simp
  · unfold float_Compare.f quadratref01_Compare.f
    rw [ht, bs, h1, bs, hx, bs, hy, bs]
    have hok : x.2.2.2.2 = true ∧ y.2.2.2.2 = true := ⟨by cases vx <;> rfl, by cases vy <;> rfl⟩
    simp only [twv, hok.1, hok.2, Bool.and_true, if_true]
    have P := fun x1 x2 x3 x4 y1 y2 y3 y4 hx hy => pcmp_j0 hp (k + 70) a b x1 x2 x3 x4 y1 y2 y3 y4 hx hy
    have Q := fun wa la ea wb lb eb => rcmp_j0 hr (k + 69) a b wa (wd a / T % 2) la ea wb (wd b / T % 2) lb eb rfl rfl
    cases vx with
    | none s hs => exact ⟨(2, 0), by rw [if_pos rfl]; exact pcmp_true (k + 71) .., by rw [sNone_l, if_pos rfl]; exact rcmp_true (k + 71) ..⟩
    | inf s hs =>
      have sx' : s = wd a / T % 2 := sx
      subst sx'
      rw [if_neg (by simp), if_neg (by rw [sInf_l]; decide)]
      cases vy with
      | none t ht' => exact ⟨(2, 0), pcmp_true (k + 71) .., by simp only [sNone_l]; exact rcmp_true (k + 71) ..⟩
      | inf t ht' => have sy' : t = wd b / T % 2 := sy
                     subst sy'; exact ⟨_, P _ _ _ _ _ _ _ _ zx zy, by simp only [sInf_l]; exact Q ..⟩
      | zero t ht' => have sy' : t = wd b / T % 2 := sy
                      subst sy'; exact ⟨_, P _ _ _ _ _ _ _ _ zx zy, by simp only [sZero_l]; exact Q ..⟩
      | fin t ht' => have sy' : t = wd b / T % 2 := sy
                     subst sy'; exact ⟨_, P _ _ _ _ _ _ _ _ zx zy, by simp only [sFin_l]; exact Q ..⟩
    | zero s hs =>
      have sx' : s = wd a / T % 2 := sx
      subst sx'
      rw [if_neg (by simp), if_neg (by rw [sZero_l]; decide)]
      cases vy with
      | none t ht' => exact ⟨(2, 0), pcmp_true (k + 71) .., by simp only [sNone_l]; exact rcmp_true (k + 71) ..⟩
      | inf t ht' => have sy' : t = wd b / T % 2 := sy
                     subst sy'; exact ⟨_, P _ _ _ _ _ _ _ _ zx zy, by simp only [sInf_l]; exact Q ..⟩
      | zero t ht' => have sy' : t = wd b / T % 2 := sy
                      subst sy'; exact ⟨_, P _ _ _ _ _ _ _ _ zx zy, by simp only [sZero_l]; exact Q ..⟩
      | fin t ht' => have sy' : t = wd b / T % 2 := sy
                     subst sy'; exact ⟨_, P _ _ _ _ _ _ _ _ zx zy, by simp only [sFin_l]; exact Q ..⟩
    | fin s hs =>
      have sx' : s = wd a / T % 2 := sx
      subst sx'
      rw [if_neg (by simp), if_neg (by rw [sFin_l]; decide)]
      cases vy with
      | none t ht' => exact ⟨(2, 0), pcmp_true (k + 71) .., by simp only [sNone_l]; exact rcmp_true (k + 71) ..⟩
      | inf t ht' => have sy' : t = wd b / T % 2 := sy
                     subst sy'; exact ⟨_, P _ _ _ _ _ _ _ _ zx zy, by simp only [sInf_l]; exact Q ..⟩
      | zero t ht' => have sy' : t = wd b / T % 2 := sy
                      subst sy'; exact ⟨_, P _ _ _ _ _ _ _ _ zx zy, by simp only [sZero_l]; exact Q ..⟩
      | fin t ht' => have sy' : t = wd b / T % 2 := sy
                     subst sy'; exact ⟨_, P _ _ _ _ _ _ _ _ zx zy, by simp only [sFin_l]; exact Q ..⟩

theorem fvalid_2 (k : Nat) (a : Int) (ha0 : -9223372036854775808 ≤ a) (ha1 : a < 9223372036854775808) : float_Valid.f (k + 3) 2 a = quadratref01_Valid.f 2 a := by
  have e1 : float_of.f 2 = some (11, 5, true) := by kernel_rfl
  unfold float_Valid.f
  rw [e1, bs, if_pos rfl, valid_2]
  by_cases h : 0 ≤ a ∧ a < 65536
  · rw [decide_eq_true h]; show (float_shape_read.f (k + 3) 11 5 a).bind _ = _; rw [read_11 k a h.1 h.2, bs, rdv_ok]
  · rw [decide_eq_false h]; show (float_shape_read.f (k + 3) 11 5 a).bind _ = _; rw [read_bad_11 k a ha0 ha1 h, bs]

theorem fvalid_4 (k : Nat) (a : Int) (ha0 : -9223372036854775808 ≤ a) (ha1 : a < 9223372036854775808) : float_Valid.f (k + 3) 4 a = quadratref01_Valid.f 4 a := by
  have e1 : float_of.f 4 = some (24, 8, true) := by kernel_rfl
  unfold float_Valid.f
  rw [e1, bs, if_pos rfl, valid_4]
  by_cases h : 0 ≤ a ∧ a < 4294967296
  · rw [decide_eq_true h]; show (float_shape_read.f (k + 3) 24 8 a).bind _ = _; rw [read_24 k a h.1 h.2, bs, rdv_ok]
  · rw [decide_eq_false h]; show (float_shape_read.f (k + 3) 24 8 a).bind _ = _; rw [read_bad_24 k a ha0 ha1 h, bs]

theorem fvalid_8 (k : Nat) (a : Int) : float_Valid.f (k + 3) 8 a = quadratref01_Valid.f 8 a := by
  have e1 : float_of.f 8 = some (53, 11, true) := by kernel_rfl
  unfold float_Valid.f
  rw [e1, bs, if_pos rfl, valid_8]
  show (float_shape_read.f (k + 3) 53 11 a).bind _ = _
  rw [read_53 k a, bs, rdv_ok]
theorem fvalid (k : Nat) (kind a : Int) (ha0 : -9223372036854775808 ≤ a) (ha1 : a < 9223372036854775808) : ∃ b, float_Valid.f (k + 3) kind a = some b ∧ quadratref01_Valid.f kind a = some b := by
  by_cases h2 : kind = 2
  · subst h2; exact ⟨_, (fvalid_2 k a ha0 ha1).trans (valid_2 a), valid_2 a⟩
  by_cases h4 : kind = 4
  · subst h4; exact ⟨_, (fvalid_4 k a ha0 ha1).trans (valid_4 a), valid_4 a⟩
  by_cases h8 : kind = 8
  · subst h8; exact ⟨_, (fvalid_8 k a).trans (valid_8 a), valid_8 a⟩
  refine ⟨false, ?_, valid_none kind a h2 h4 h8⟩
  unfold float_Valid.f float_of.f
  rw [if_neg h2, if_neg h4, if_neg h8]; rfl
theorem lit_wf {a : Int} (h : (Lit.int .i64 a).wf = true) : -9223372036854775808 ≤ a ∧ a < 9223372036854775808 := by
  simp [Lit.wf, IntKind.min, IntKind.max, IntKind.bits, IntKind.signed] at h; omega
theorem FloatCompares : quadratlaw01_FloatCompares.Pure := by
  intro kind a b _ ha hb
  have ha := lit_wf ha
  have hb := lit_wf hb
  refine ⟨300, ?_⟩
  obtain ⟨r, h1, h2⟩ := compare_eq 228 kind a b ha.1 ha.2 hb.1 hb.2
  obtain ⟨v, h3, h4⟩ := fvalid 297 kind a ha.1 ha.2
  unfold quadratlaw01_FloatCompares.f
  rw [h1, h2, h3, h4, awake 200]
  simp
end Go.Proofs.Ytgpnmifejgdipaa.Pf
