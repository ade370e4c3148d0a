/-
  FloatModes: the order of operands does not matter, and rounding down is at most rounding up (printed by gen_mo.py). By the session's own hand.
-/
import Derived.Test.YtgpnmifejgdipaaSPpr
import Derived.Test.YtgpnmifejgdipaaSPst
import Derived.Test.YtgpnmifejgdipaaDf
set_option linter.unusedVariables false
set_option linter.unusedSimpArgs false
namespace Go.Proofs.Ytgpnmifejgdipaa.Pf
open Go.RowKit Go.Proofs.Ytgpnmifejgdipaa.My Go.Proofs.Ytgpnmifejgdipaa.RM Go.Proofs.YtgpnmifejgdipaaW.PrintWords Go.Proofs.YtgpnmifejgdipaaW.PrintLast Go.Proofs.YtgpnmifejgdipaaW.PrintMore

theorem add_comm2 {w bias T : Int} {p : Nat} (hp : PK p w bias T) (k : Nat) (hk : 41000 ≤ k) (mode : Int) (hm : 0 ≤ mode ∧ mode ≤ 3) {x y : Int × Int × Int × Int × Bool} {x' y' : ByteArray × Int × List Int × Int} (vx : Vw p bias x x') (vy : Vw p bias y y') :
    float_shape_add.f k (p : Int) w mode x.1 x.2.1 x.2.2.1 x.2.2.2.1 y.1 y.2.1 y.2.2.1 y.2.2.2.1 = float_shape_add.f k (p : Int) w mode y.1 y.2.1 y.2.2.1 y.2.2.2.1 x.1 x.2.1 x.2.2.1 x.2.2.2.1 := by
  obtain ⟨k, rfl⟩ : ∃ m, k = m + 4 := ⟨k - 4, by omega⟩
  have hp0 := hp.p0; have hp1 := hp.p1; have hb0 := hp.b0; have hb1 := hp.b1
  cases vx with
  | none s hs =>
    cases vy with
    | none t ht =>
      simp only [if_true, if_false, Bool.false_eq_true, float_shape_add.f, float_shape_add.j0, float_shape_add.j1, float_shape_add.j2, float_shape_add.j3, mq_0_0, mb_0_0, mn_0_0, mq_0_1, mb_0_1, mn_0_1, mq_0_2, mb_0_2, mn_0_2, mq_0_3, mb_0_3, mn_0_3, mq_1_0, mb_1_0, mn_1_0, mq_1_1, mb_1_1, mn_1_1, mq_1_2, mb_1_2, mn_1_2, mq_1_3, mb_1_3, mn_1_3, mq_2_0, mb_2_0, mn_2_0, mq_2_1, mb_2_1, mn_2_1, mq_2_2, mb_2_2, mn_2_2, mq_2_3, mb_2_3, mn_2_3, mq_3_0, mb_3_0, mn_3_0, mq_3_1, mb_3_1, mn_3_1, mq_3_2, mb_3_2, mn_3_2, mq_3_3, mb_3_3, mn_3_3, ml_None_None, mlb_None_None, ml_None_Inf, mlb_None_Inf, ml_None_Zero, mlb_None_Zero, ml_Inf_None, mlb_Inf_None, ml_Inf_Inf, mlb_Inf_Inf, ml_Inf_Zero, mlb_Inf_Zero, ml_Zero_None, mlb_Zero_None, ml_Zero_Inf, mlb_Zero_Inf, ml_Zero_Zero, mlb_Zero_Zero, ml_Fin_None, mlb_Fin_None, ml_Fin_Inf, mlb_Fin_Inf, ml_Fin_Zero, mlb_Fin_Zero]
    | inf t ht =>
      simp only [if_true, if_false, Bool.false_eq_true, float_shape_add.f, float_shape_add.j0, float_shape_add.j1, float_shape_add.j2, float_shape_add.j3, mq_0_0, mb_0_0, mn_0_0, mq_0_1, mb_0_1, mn_0_1, mq_0_2, mb_0_2, mn_0_2, mq_0_3, mb_0_3, mn_0_3, mq_1_0, mb_1_0, mn_1_0, mq_1_1, mb_1_1, mn_1_1, mq_1_2, mb_1_2, mn_1_2, mq_1_3, mb_1_3, mn_1_3, mq_2_0, mb_2_0, mn_2_0, mq_2_1, mb_2_1, mn_2_1, mq_2_2, mb_2_2, mn_2_2, mq_2_3, mb_2_3, mn_2_3, mq_3_0, mb_3_0, mn_3_0, mq_3_1, mb_3_1, mn_3_1, mq_3_2, mb_3_2, mn_3_2, mq_3_3, mb_3_3, mn_3_3, ml_None_None, mlb_None_None, ml_None_Inf, mlb_None_Inf, ml_None_Zero, mlb_None_Zero, ml_Inf_None, mlb_Inf_None, ml_Inf_Inf, mlb_Inf_Inf, ml_Inf_Zero, mlb_Inf_Zero, ml_Zero_None, mlb_Zero_None, ml_Zero_Inf, mlb_Zero_Inf, ml_Zero_Zero, mlb_Zero_Zero, ml_Fin_None, mlb_Fin_None, ml_Fin_Inf, mlb_Fin_Inf, ml_Fin_Zero, mlb_Fin_Zero]
    | zero t ht =>
      simp only [if_true, if_false, Bool.false_eq_true, float_shape_add.f, float_shape_add.j0, float_shape_add.j1, float_shape_add.j2, float_shape_add.j3, mq_0_0, mb_0_0, mn_0_0, mq_0_1, mb_0_1, mn_0_1, mq_0_2, mb_0_2, mn_0_2, mq_0_3, mb_0_3, mn_0_3, mq_1_0, mb_1_0, mn_1_0, mq_1_1, mb_1_1, mn_1_1, mq_1_2, mb_1_2, mn_1_2, mq_1_3, mb_1_3, mn_1_3, mq_2_0, mb_2_0, mn_2_0, mq_2_1, mb_2_1, mn_2_1, mq_2_2, mb_2_2, mn_2_2, mq_2_3, mb_2_3, mn_2_3, mq_3_0, mb_3_0, mn_3_0, mq_3_1, mb_3_1, mn_3_1, mq_3_2, mb_3_2, mn_3_2, mq_3_3, mb_3_3, mn_3_3, ml_None_None, mlb_None_None, ml_None_Inf, mlb_None_Inf, ml_None_Zero, mlb_None_Zero, ml_Inf_None, mlb_Inf_None, ml_Inf_Inf, mlb_Inf_Inf, ml_Inf_Zero, mlb_Inf_Zero, ml_Zero_None, mlb_Zero_None, ml_Zero_Inf, mlb_Zero_Inf, ml_Zero_Zero, mlb_Zero_Zero, ml_Fin_None, mlb_Fin_None, ml_Fin_Inf, mlb_Fin_Inf, ml_Fin_Zero, mlb_Fin_Zero]
    | fin t ht n f hn0 hn1 hf0 hf1 hly =>
      simp only [if_true, if_false, Bool.false_eq_true, float_shape_add.f, float_shape_add.j0, float_shape_add.j1, float_shape_add.j2, float_shape_add.j3, mq_0_0, mb_0_0, mn_0_0, mq_0_1, mb_0_1, mn_0_1, mq_0_2, mb_0_2, mn_0_2, mq_0_3, mb_0_3, mn_0_3, mq_1_0, mb_1_0, mn_1_0, mq_1_1, mb_1_1, mn_1_1, mq_1_2, mb_1_2, mn_1_2, mq_1_3, mb_1_3, mn_1_3, mq_2_0, mb_2_0, mn_2_0, mq_2_1, mb_2_1, mn_2_1, mq_2_2, mb_2_2, mn_2_2, mq_2_3, mb_2_3, mn_2_3, mq_3_0, mb_3_0, mn_3_0, mq_3_1, mb_3_1, mn_3_1, mq_3_2, mb_3_2, mn_3_2, mq_3_3, mb_3_3, mn_3_3, ml_None_None, mlb_None_None, ml_None_Inf, mlb_None_Inf, ml_None_Zero, mlb_None_Zero, ml_Inf_None, mlb_Inf_None, ml_Inf_Inf, mlb_Inf_Inf, ml_Inf_Zero, mlb_Inf_Zero, ml_Zero_None, mlb_Zero_None, ml_Zero_Inf, mlb_Zero_Inf, ml_Zero_Zero, mlb_Zero_Zero, ml_Fin_None, mlb_Fin_None, ml_Fin_Inf, mlb_Fin_Inf, ml_Fin_Zero, mlb_Fin_Zero]
  | inf s hs =>
    cases vy with
    | none t ht =>
      simp only [if_true, if_false, Bool.false_eq_true, float_shape_add.f, float_shape_add.j0, float_shape_add.j1, float_shape_add.j2, float_shape_add.j3, mq_0_0, mb_0_0, mn_0_0, mq_0_1, mb_0_1, mn_0_1, mq_0_2, mb_0_2, mn_0_2, mq_0_3, mb_0_3, mn_0_3, mq_1_0, mb_1_0, mn_1_0, mq_1_1, mb_1_1, mn_1_1, mq_1_2, mb_1_2, mn_1_2, mq_1_3, mb_1_3, mn_1_3, mq_2_0, mb_2_0, mn_2_0, mq_2_1, mb_2_1, mn_2_1, mq_2_2, mb_2_2, mn_2_2, mq_2_3, mb_2_3, mn_2_3, mq_3_0, mb_3_0, mn_3_0, mq_3_1, mb_3_1, mn_3_1, mq_3_2, mb_3_2, mn_3_2, mq_3_3, mb_3_3, mn_3_3, ml_None_None, mlb_None_None, ml_None_Inf, mlb_None_Inf, ml_None_Zero, mlb_None_Zero, ml_Inf_None, mlb_Inf_None, ml_Inf_Inf, mlb_Inf_Inf, ml_Inf_Zero, mlb_Inf_Zero, ml_Zero_None, mlb_Zero_None, ml_Zero_Inf, mlb_Zero_Inf, ml_Zero_Zero, mlb_Zero_Zero, ml_Fin_None, mlb_Fin_None, ml_Fin_Inf, mlb_Fin_Inf, ml_Fin_Zero, mlb_Fin_Zero]
    | inf t ht =>
      simp only [if_true, if_false, Bool.false_eq_true, float_shape_add.f, float_shape_add.j0, float_shape_add.j1, float_shape_add.j2, float_shape_add.j3, mq_0_0, mb_0_0, mn_0_0, mq_0_1, mb_0_1, mn_0_1, mq_0_2, mb_0_2, mn_0_2, mq_0_3, mb_0_3, mn_0_3, mq_1_0, mb_1_0, mn_1_0, mq_1_1, mb_1_1, mn_1_1, mq_1_2, mb_1_2, mn_1_2, mq_1_3, mb_1_3, mn_1_3, mq_2_0, mb_2_0, mn_2_0, mq_2_1, mb_2_1, mn_2_1, mq_2_2, mb_2_2, mn_2_2, mq_2_3, mb_2_3, mn_2_3, mq_3_0, mb_3_0, mn_3_0, mq_3_1, mb_3_1, mn_3_1, mq_3_2, mb_3_2, mn_3_2, mq_3_3, mb_3_3, mn_3_3, ml_None_None, mlb_None_None, ml_None_Inf, mlb_None_Inf, ml_None_Zero, mlb_None_Zero, ml_Inf_None, mlb_Inf_None, ml_Inf_Inf, mlb_Inf_Inf, ml_Inf_Zero, mlb_Inf_Zero, ml_Zero_None, mlb_Zero_None, ml_Zero_Inf, mlb_Zero_Inf, ml_Zero_Zero, mlb_Zero_Zero, ml_Fin_None, mlb_Fin_None, ml_Fin_Inf, mlb_Fin_Inf, ml_Fin_Zero, mlb_Fin_Zero]
      by_cases h : s = t
      · subst h; rfl
      · rw [show (s != t) = true by simpa using h, show (t != s) = true by simpa using Ne.symm h]; simp only [if_true, if_false, Bool.false_eq_true, float_shape_add.f, float_shape_add.j0, float_shape_add.j1, float_shape_add.j2, float_shape_add.j3, mq_0_0, mb_0_0, mn_0_0, mq_0_1, mb_0_1, mn_0_1, mq_0_2, mb_0_2, mn_0_2, mq_0_3, mb_0_3, mn_0_3, mq_1_0, mb_1_0, mn_1_0, mq_1_1, mb_1_1, mn_1_1, mq_1_2, mb_1_2, mn_1_2, mq_1_3, mb_1_3, mn_1_3, mq_2_0, mb_2_0, mn_2_0, mq_2_1, mb_2_1, mn_2_1, mq_2_2, mb_2_2, mn_2_2, mq_2_3, mb_2_3, mn_2_3, mq_3_0, mb_3_0, mn_3_0, mq_3_1, mb_3_1, mn_3_1, mq_3_2, mb_3_2, mn_3_2, mq_3_3, mb_3_3, mn_3_3, ml_None_None, mlb_None_None, ml_None_Inf, mlb_None_Inf, ml_None_Zero, mlb_None_Zero, ml_Inf_None, mlb_Inf_None, ml_Inf_Inf, mlb_Inf_Inf, ml_Inf_Zero, mlb_Inf_Zero, ml_Zero_None, mlb_Zero_None, ml_Zero_Inf, mlb_Zero_Inf, ml_Zero_Zero, mlb_Zero_Zero, ml_Fin_None, mlb_Fin_None, ml_Fin_Inf, mlb_Fin_Inf, ml_Fin_Zero, mlb_Fin_Zero]
    | zero t ht =>
      simp only [if_true, if_false, Bool.false_eq_true, float_shape_add.f, float_shape_add.j0, float_shape_add.j1, float_shape_add.j2, float_shape_add.j3, mq_0_0, mb_0_0, mn_0_0, mq_0_1, mb_0_1, mn_0_1, mq_0_2, mb_0_2, mn_0_2, mq_0_3, mb_0_3, mn_0_3, mq_1_0, mb_1_0, mn_1_0, mq_1_1, mb_1_1, mn_1_1, mq_1_2, mb_1_2, mn_1_2, mq_1_3, mb_1_3, mn_1_3, mq_2_0, mb_2_0, mn_2_0, mq_2_1, mb_2_1, mn_2_1, mq_2_2, mb_2_2, mn_2_2, mq_2_3, mb_2_3, mn_2_3, mq_3_0, mb_3_0, mn_3_0, mq_3_1, mb_3_1, mn_3_1, mq_3_2, mb_3_2, mn_3_2, mq_3_3, mb_3_3, mn_3_3, ml_None_None, mlb_None_None, ml_None_Inf, mlb_None_Inf, ml_None_Zero, mlb_None_Zero, ml_Inf_None, mlb_Inf_None, ml_Inf_Inf, mlb_Inf_Inf, ml_Inf_Zero, mlb_Inf_Zero, ml_Zero_None, mlb_Zero_None, ml_Zero_Inf, mlb_Zero_Inf, ml_Zero_Zero, mlb_Zero_Zero, ml_Fin_None, mlb_Fin_None, ml_Fin_Inf, mlb_Fin_Inf, ml_Fin_Zero, mlb_Fin_Zero]
    | fin t ht n f hn0 hn1 hf0 hf1 hly =>
      simp only [if_true, if_false, Bool.false_eq_true, float_shape_add.f, float_shape_add.j0, float_shape_add.j1, float_shape_add.j2, float_shape_add.j3, mq_0_0, mb_0_0, mn_0_0, mq_0_1, mb_0_1, mn_0_1, mq_0_2, mb_0_2, mn_0_2, mq_0_3, mb_0_3, mn_0_3, mq_1_0, mb_1_0, mn_1_0, mq_1_1, mb_1_1, mn_1_1, mq_1_2, mb_1_2, mn_1_2, mq_1_3, mb_1_3, mn_1_3, mq_2_0, mb_2_0, mn_2_0, mq_2_1, mb_2_1, mn_2_1, mq_2_2, mb_2_2, mn_2_2, mq_2_3, mb_2_3, mn_2_3, mq_3_0, mb_3_0, mn_3_0, mq_3_1, mb_3_1, mn_3_1, mq_3_2, mb_3_2, mn_3_2, mq_3_3, mb_3_3, mn_3_3, ml_None_None, mlb_None_None, ml_None_Inf, mlb_None_Inf, ml_None_Zero, mlb_None_Zero, ml_Inf_None, mlb_Inf_None, ml_Inf_Inf, mlb_Inf_Inf, ml_Inf_Zero, mlb_Inf_Zero, ml_Zero_None, mlb_Zero_None, ml_Zero_Inf, mlb_Zero_Inf, ml_Zero_Zero, mlb_Zero_Zero, ml_Fin_None, mlb_Fin_None, ml_Fin_Inf, mlb_Fin_Inf, ml_Fin_Zero, mlb_Fin_Zero]
  | zero s hs =>
    cases vy with
    | none t ht =>
      simp only [if_true, if_false, Bool.false_eq_true, float_shape_add.f, float_shape_add.j0, float_shape_add.j1, float_shape_add.j2, float_shape_add.j3, mq_0_0, mb_0_0, mn_0_0, mq_0_1, mb_0_1, mn_0_1, mq_0_2, mb_0_2, mn_0_2, mq_0_3, mb_0_3, mn_0_3, mq_1_0, mb_1_0, mn_1_0, mq_1_1, mb_1_1, mn_1_1, mq_1_2, mb_1_2, mn_1_2, mq_1_3, mb_1_3, mn_1_3, mq_2_0, mb_2_0, mn_2_0, mq_2_1, mb_2_1, mn_2_1, mq_2_2, mb_2_2, mn_2_2, mq_2_3, mb_2_3, mn_2_3, mq_3_0, mb_3_0, mn_3_0, mq_3_1, mb_3_1, mn_3_1, mq_3_2, mb_3_2, mn_3_2, mq_3_3, mb_3_3, mn_3_3, ml_None_None, mlb_None_None, ml_None_Inf, mlb_None_Inf, ml_None_Zero, mlb_None_Zero, ml_Inf_None, mlb_Inf_None, ml_Inf_Inf, mlb_Inf_Inf, ml_Inf_Zero, mlb_Inf_Zero, ml_Zero_None, mlb_Zero_None, ml_Zero_Inf, mlb_Zero_Inf, ml_Zero_Zero, mlb_Zero_Zero, ml_Fin_None, mlb_Fin_None, ml_Fin_Inf, mlb_Fin_Inf, ml_Fin_Zero, mlb_Fin_Zero]
    | inf t ht =>
      simp only [if_true, if_false, Bool.false_eq_true, float_shape_add.f, float_shape_add.j0, float_shape_add.j1, float_shape_add.j2, float_shape_add.j3, mq_0_0, mb_0_0, mn_0_0, mq_0_1, mb_0_1, mn_0_1, mq_0_2, mb_0_2, mn_0_2, mq_0_3, mb_0_3, mn_0_3, mq_1_0, mb_1_0, mn_1_0, mq_1_1, mb_1_1, mn_1_1, mq_1_2, mb_1_2, mn_1_2, mq_1_3, mb_1_3, mn_1_3, mq_2_0, mb_2_0, mn_2_0, mq_2_1, mb_2_1, mn_2_1, mq_2_2, mb_2_2, mn_2_2, mq_2_3, mb_2_3, mn_2_3, mq_3_0, mb_3_0, mn_3_0, mq_3_1, mb_3_1, mn_3_1, mq_3_2, mb_3_2, mn_3_2, mq_3_3, mb_3_3, mn_3_3, ml_None_None, mlb_None_None, ml_None_Inf, mlb_None_Inf, ml_None_Zero, mlb_None_Zero, ml_Inf_None, mlb_Inf_None, ml_Inf_Inf, mlb_Inf_Inf, ml_Inf_Zero, mlb_Inf_Zero, ml_Zero_None, mlb_Zero_None, ml_Zero_Inf, mlb_Zero_Inf, ml_Zero_Zero, mlb_Zero_Zero, ml_Fin_None, mlb_Fin_None, ml_Fin_Inf, mlb_Fin_Inf, ml_Fin_Zero, mlb_Fin_Zero]
    | zero t ht =>
      simp only [if_true, if_false, Bool.false_eq_true, float_shape_add.f, float_shape_add.j0, float_shape_add.j1, float_shape_add.j2, float_shape_add.j3, mq_0_0, mb_0_0, mn_0_0, mq_0_1, mb_0_1, mn_0_1, mq_0_2, mb_0_2, mn_0_2, mq_0_3, mb_0_3, mn_0_3, mq_1_0, mb_1_0, mn_1_0, mq_1_1, mb_1_1, mn_1_1, mq_1_2, mb_1_2, mn_1_2, mq_1_3, mb_1_3, mn_1_3, mq_2_0, mb_2_0, mn_2_0, mq_2_1, mb_2_1, mn_2_1, mq_2_2, mb_2_2, mn_2_2, mq_2_3, mb_2_3, mn_2_3, mq_3_0, mb_3_0, mn_3_0, mq_3_1, mb_3_1, mn_3_1, mq_3_2, mb_3_2, mn_3_2, mq_3_3, mb_3_3, mn_3_3, ml_None_None, mlb_None_None, ml_None_Inf, mlb_None_Inf, ml_None_Zero, mlb_None_Zero, ml_Inf_None, mlb_Inf_None, ml_Inf_Inf, mlb_Inf_Inf, ml_Inf_Zero, mlb_Inf_Zero, ml_Zero_None, mlb_Zero_None, ml_Zero_Inf, mlb_Zero_Inf, ml_Zero_Zero, mlb_Zero_Zero, ml_Fin_None, mlb_Fin_None, ml_Fin_Inf, mlb_Fin_Inf, ml_Fin_Zero, mlb_Fin_Zero]
      by_cases h : s = t
      · subst h; rfl
      · rw [show (s == t) = false by simpa using h, show (t == s) = false by simpa using Ne.symm h]; simp only [if_true, if_false, Bool.false_eq_true, float_shape_add.f, float_shape_add.j0, float_shape_add.j1, float_shape_add.j2, float_shape_add.j3, mq_0_0, mb_0_0, mn_0_0, mq_0_1, mb_0_1, mn_0_1, mq_0_2, mb_0_2, mn_0_2, mq_0_3, mb_0_3, mn_0_3, mq_1_0, mb_1_0, mn_1_0, mq_1_1, mb_1_1, mn_1_1, mq_1_2, mb_1_2, mn_1_2, mq_1_3, mb_1_3, mn_1_3, mq_2_0, mb_2_0, mn_2_0, mq_2_1, mb_2_1, mn_2_1, mq_2_2, mb_2_2, mn_2_2, mq_2_3, mb_2_3, mn_2_3, mq_3_0, mb_3_0, mn_3_0, mq_3_1, mb_3_1, mn_3_1, mq_3_2, mb_3_2, mn_3_2, mq_3_3, mb_3_3, mn_3_3, ml_None_None, mlb_None_None, ml_None_Inf, mlb_None_Inf, ml_None_Zero, mlb_None_Zero, ml_Inf_None, mlb_Inf_None, ml_Inf_Inf, mlb_Inf_Inf, ml_Inf_Zero, mlb_Inf_Zero, ml_Zero_None, mlb_Zero_None, ml_Zero_Inf, mlb_Zero_Inf, ml_Zero_Zero, mlb_Zero_Zero, ml_Fin_None, mlb_Fin_None, ml_Fin_Inf, mlb_Fin_Inf, ml_Fin_Zero, mlb_Fin_Zero]
    | fin t ht n f hn0 hn1 hf0 hf1 hly =>
      simp only [if_true, if_false, Bool.false_eq_true, float_shape_add.f, float_shape_add.j0, float_shape_add.j1, float_shape_add.j2, float_shape_add.j3, mq_0_0, mb_0_0, mn_0_0, mq_0_1, mb_0_1, mn_0_1, mq_0_2, mb_0_2, mn_0_2, mq_0_3, mb_0_3, mn_0_3, mq_1_0, mb_1_0, mn_1_0, mq_1_1, mb_1_1, mn_1_1, mq_1_2, mb_1_2, mn_1_2, mq_1_3, mb_1_3, mn_1_3, mq_2_0, mb_2_0, mn_2_0, mq_2_1, mb_2_1, mn_2_1, mq_2_2, mb_2_2, mn_2_2, mq_2_3, mb_2_3, mn_2_3, mq_3_0, mb_3_0, mn_3_0, mq_3_1, mb_3_1, mn_3_1, mq_3_2, mb_3_2, mn_3_2, mq_3_3, mb_3_3, mn_3_3, ml_None_None, mlb_None_None, ml_None_Inf, mlb_None_Inf, ml_None_Zero, mlb_None_Zero, ml_Inf_None, mlb_Inf_None, ml_Inf_Inf, mlb_Inf_Inf, ml_Inf_Zero, mlb_Inf_Zero, ml_Zero_None, mlb_Zero_None, ml_Zero_Inf, mlb_Zero_Inf, ml_Zero_Zero, mlb_Zero_Zero, ml_Fin_None, mlb_Fin_None, ml_Fin_Inf, mlb_Fin_Inf, ml_Fin_Zero, mlb_Fin_Zero]
  | fin s hs m e hm0 hm1 he0 he1 hlx =>
    cases vy with
    | none t ht =>
      simp only [if_true, if_false, Bool.false_eq_true, float_shape_add.f, float_shape_add.j0, float_shape_add.j1, float_shape_add.j2, float_shape_add.j3, mq_0_0, mb_0_0, mn_0_0, mq_0_1, mb_0_1, mn_0_1, mq_0_2, mb_0_2, mn_0_2, mq_0_3, mb_0_3, mn_0_3, mq_1_0, mb_1_0, mn_1_0, mq_1_1, mb_1_1, mn_1_1, mq_1_2, mb_1_2, mn_1_2, mq_1_3, mb_1_3, mn_1_3, mq_2_0, mb_2_0, mn_2_0, mq_2_1, mb_2_1, mn_2_1, mq_2_2, mb_2_2, mn_2_2, mq_2_3, mb_2_3, mn_2_3, mq_3_0, mb_3_0, mn_3_0, mq_3_1, mb_3_1, mn_3_1, mq_3_2, mb_3_2, mn_3_2, mq_3_3, mb_3_3, mn_3_3, ml_None_None, mlb_None_None, ml_None_Inf, mlb_None_Inf, ml_None_Zero, mlb_None_Zero, ml_Inf_None, mlb_Inf_None, ml_Inf_Inf, mlb_Inf_Inf, ml_Inf_Zero, mlb_Inf_Zero, ml_Zero_None, mlb_Zero_None, ml_Zero_Inf, mlb_Zero_Inf, ml_Zero_Zero, mlb_Zero_Zero, ml_Fin_None, mlb_Fin_None, ml_Fin_Inf, mlb_Fin_Inf, ml_Fin_Zero, mlb_Fin_Zero]
    | inf t ht =>
      simp only [if_true, if_false, Bool.false_eq_true, float_shape_add.f, float_shape_add.j0, float_shape_add.j1, float_shape_add.j2, float_shape_add.j3, mq_0_0, mb_0_0, mn_0_0, mq_0_1, mb_0_1, mn_0_1, mq_0_2, mb_0_2, mn_0_2, mq_0_3, mb_0_3, mn_0_3, mq_1_0, mb_1_0, mn_1_0, mq_1_1, mb_1_1, mn_1_1, mq_1_2, mb_1_2, mn_1_2, mq_1_3, mb_1_3, mn_1_3, mq_2_0, mb_2_0, mn_2_0, mq_2_1, mb_2_1, mn_2_1, mq_2_2, mb_2_2, mn_2_2, mq_2_3, mb_2_3, mn_2_3, mq_3_0, mb_3_0, mn_3_0, mq_3_1, mb_3_1, mn_3_1, mq_3_2, mb_3_2, mn_3_2, mq_3_3, mb_3_3, mn_3_3, ml_None_None, mlb_None_None, ml_None_Inf, mlb_None_Inf, ml_None_Zero, mlb_None_Zero, ml_Inf_None, mlb_Inf_None, ml_Inf_Inf, mlb_Inf_Inf, ml_Inf_Zero, mlb_Inf_Zero, ml_Zero_None, mlb_Zero_None, ml_Zero_Inf, mlb_Zero_Inf, ml_Zero_Zero, mlb_Zero_Zero, ml_Fin_None, mlb_Fin_None, ml_Fin_Inf, mlb_Fin_Inf, ml_Fin_Zero, mlb_Fin_Zero]
    | zero t ht =>
      simp only [if_true, if_false, Bool.false_eq_true, float_shape_add.f, float_shape_add.j0, float_shape_add.j1, float_shape_add.j2, float_shape_add.j3, mq_0_0, mb_0_0, mn_0_0, mq_0_1, mb_0_1, mn_0_1, mq_0_2, mb_0_2, mn_0_2, mq_0_3, mb_0_3, mn_0_3, mq_1_0, mb_1_0, mn_1_0, mq_1_1, mb_1_1, mn_1_1, mq_1_2, mb_1_2, mn_1_2, mq_1_3, mb_1_3, mn_1_3, mq_2_0, mb_2_0, mn_2_0, mq_2_1, mb_2_1, mn_2_1, mq_2_2, mb_2_2, mn_2_2, mq_2_3, mb_2_3, mn_2_3, mq_3_0, mb_3_0, mn_3_0, mq_3_1, mb_3_1, mn_3_1, mq_3_2, mb_3_2, mn_3_2, mq_3_3, mb_3_3, mn_3_3, ml_None_None, mlb_None_None, ml_None_Inf, mlb_None_Inf, ml_None_Zero, mlb_None_Zero, ml_Inf_None, mlb_Inf_None, ml_Inf_Inf, mlb_Inf_Inf, ml_Inf_Zero, mlb_Inf_Zero, ml_Zero_None, mlb_Zero_None, ml_Zero_Inf, mlb_Zero_Inf, ml_Zero_Zero, mlb_Zero_Zero, ml_Fin_None, mlb_Fin_None, ml_Fin_Inf, mlb_Fin_Inf, ml_Fin_Zero, mlb_Fin_Zero]
    | fin t ht n f hn0 hn1 hf0 hf1 hly =>
      simp only [if_true, if_false, Bool.false_eq_true, float_shape_add.f, float_shape_add.j0, float_shape_add.j1, float_shape_add.j2, float_shape_add.j3, mq_0_0, mb_0_0, mn_0_0, mq_0_1, mb_0_1, mn_0_1, mq_0_2, mb_0_2, mn_0_2, mq_0_3, mb_0_3, mn_0_3, mq_1_0, mb_1_0, mn_1_0, mq_1_1, mb_1_1, mn_1_1, mq_1_2, mb_1_2, mn_1_2, mq_1_3, mb_1_3, mn_1_3, mq_2_0, mb_2_0, mn_2_0, mq_2_1, mb_2_1, mn_2_1, mq_2_2, mb_2_2, mn_2_2, mq_2_3, mb_2_3, mn_2_3, mq_3_0, mb_3_0, mn_3_0, mq_3_1, mb_3_1, mn_3_1, mq_3_2, mb_3_2, mn_3_2, mq_3_3, mb_3_3, mn_3_3, ml_None_None, mlb_None_None, ml_None_Inf, mlb_None_Inf, ml_None_Zero, mlb_None_Zero, ml_Inf_None, mlb_Inf_None, ml_Inf_Inf, mlb_Inf_Inf, ml_Inf_Zero, mlb_Inf_Zero, ml_Zero_None, mlb_Zero_None, ml_Zero_Inf, mlb_Zero_Inf, ml_Zero_Zero, mlb_Zero_Zero, ml_Fin_None, mlb_Fin_None, ml_Fin_Inf, mlb_Fin_Inf, ml_Fin_Zero, mlb_Fin_Zero]
      have A := fun h1 h2 => psum_eq hp k (by omega) mode t s f e 1 1 n m hm ht hs hn1 hm1 hm0 h1 (by omega) (by omega) h2 (by omega)
      have B := fun h1 h2 => psum_eq hp k (by omega) mode s t e f 1 1 m n hm hs ht hm1 hn1 hn0 h1 (by omega) (by omega) h2 (by omega)
      have lx : e ≠ 2 - bias - p → 2 ^ (p - 1) ≤ m := fun hne => Nat.le_of_not_lt fun hh => hne (hlx hh)
      have ly : f ≠ 2 - bias - p → 2 ^ (p - 1) ≤ n := fun hne => Nat.le_of_not_lt fun hh => hne (hly hh)
      by_cases h1 : e < f
      · rw [if_pos h1, if_neg (by omega)]
      · by_cases h2 : f < e
        · rw [if_neg h1, if_pos h2]
        · have h3 : e = f := by omega
          rw [if_neg h1, if_neg h2, A (by omega) ly, B (by omega) lx]
          subst h3
          rw [show (e - e).toNat = 0 by omega, Nat.pow_zero, Nat.mul_one, Nat.mul_one, addv_comm p bias T mode t s]
/-- Two results, down and up: the same, a zero, or rounded alike. -/
def Trio (p : Nat) (bias T : Int) (A : Int → Option (Int × Int)) : Prop :=
  (∃ r : Int × Int, (r.2 = 0 ∨ r.2 = 1 ∨ r.2 = 2) ∧ (r.1 = qn p bias ∨ ∃ s : Int, (s = 0 ∨ s = 1) ∧ (r.1 = wrap64 (s * T + (2 * bias + 1) * ((2 ^ (p - 1) : Nat) : Int) + 0) ∨ r.1 = wrap64 (s * T))) ∧ ∀ mode, 0 ≤ mode ∧ mode ≤ 3 → A mode = some r) ∨
  (∀ mode, 0 ≤ mode ∧ mode ≤ 3 → A mode = some (wrap64 ((if mode = 2 then 1 else 0) * T), 0)) ∨
  ∃ (s e : Int) (N : Nat) (more : Bool), (s = 0 ∨ s = 1) ∧ N ≠ 0 ∧ ∀ mode, 0 ≤ mode ∧ mode ≤ 3 → A mode = some (pk p T s (R p bias mode s N e more))
theorem trio_addv {p : Nat} {bias T s t : Int} {M L : Nat} {low : Int} {A : Int → Option (Int × Int)} (hs : s = 0 ∨ s = 1) (ht : t = 0 ∨ t = 1) (h : ∀ mode, 0 ≤ mode ∧ mode ≤ 3 → A mode = some (addv p bias T mode s t M L low)) : Trio p bias T A := by
  unfold addv at h
  by_cases c : s = t
  · by_cases z : M + L = 0
    · refine .inr (.inl fun mode hm => ?_)
      rw [h mode hm, if_pos c, if_pos z]
    · refine .inr (.inr ⟨s, low, M + L, false, hs, z, fun mode hm => ?_⟩)
      rw [h mode hm, if_pos c, if_neg z]
  · by_cases z : M = L
    · refine .inr (.inl fun mode hm => ?_)
      rw [h mode hm, if_neg c, if_pos z]
    · by_cases g : L ≤ M
      · refine .inr (.inr ⟨s, low, M - L, false, hs, by omega, fun mode hm => ?_⟩)
        rw [h mode hm, if_neg c, if_neg z, if_pos g]
      · refine .inr (.inr ⟨t, low, L - M, false, ht, by omega, fun mode hm => ?_⟩)
        rw [h mode hm, if_neg c, if_neg z, if_neg g]
theorem add_trio {w bias T : Int} {p : Nat} (hp : PK p w bias T) (k : Nat) (hk : 41000 ≤ k) {x y : Int × Int × Int × Int × Bool} {x' y' : ByteArray × Int × List Int × Int} (vx : Vw p bias x x') (vy : Vw p bias y y') :
    Trio p bias T (fun mode => float_shape_add.f k (p : Int) w mode x.1 x.2.1 x.2.2.1 x.2.2.2.1 y.1 y.2.1 y.2.2.1 y.2.2.2.1) := by
  obtain ⟨k, rfl⟩ : ∃ m, k = m + 4 := ⟨k - 4, by omega⟩
  have hp0 := hp.p0; have hp1 := hp.p1; have hb0 := hp.b0; have hb1 := hp.b1
  have p53 : 2 ^ p ≤ 2 ^ 53 := Nat.pow_le_pow_right (by omega) hp1
  cases vx with
  | none s hs =>
    cases vy with
    | none t ht =>
      refine .inl ⟨(qn p bias, 0), by simp, .inl rfl, fun mode hm => ?_⟩; simp only [if_true, if_false, Bool.false_eq_true, float_shape_add.f, float_shape_add.j0, float_shape_add.j1, float_shape_add.j2, float_shape_add.j3, mq_0_0, mb_0_0, mn_0_0, mq_0_1, mb_0_1, mn_0_1, mq_0_2, mb_0_2, mn_0_2, mq_0_3, mb_0_3, mn_0_3, mq_1_0, mb_1_0, mn_1_0, mq_1_1, mb_1_1, mn_1_1, mq_1_2, mb_1_2, mn_1_2, mq_1_3, mb_1_3, mn_1_3, mq_2_0, mb_2_0, mn_2_0, mq_2_1, mb_2_1, mn_2_1, mq_2_2, mb_2_2, mn_2_2, mq_2_3, mb_2_3, mn_2_3, mq_3_0, mb_3_0, mn_3_0, mq_3_1, mb_3_1, mn_3_1, mq_3_2, mb_3_2, mn_3_2, mq_3_3, mb_3_3, mn_3_3, ml_None_None, mlb_None_None, ml_None_Inf, mlb_None_Inf, ml_None_Zero, mlb_None_Zero, ml_Inf_None, mlb_Inf_None, ml_Inf_Inf, mlb_Inf_Inf, ml_Inf_Zero, mlb_Inf_Zero, ml_Zero_None, mlb_Zero_None, ml_Zero_Inf, mlb_Zero_Inf, ml_Zero_Zero, mlb_Zero_Zero, ml_Fin_None, mlb_Fin_None, ml_Fin_Inf, mlb_Fin_Inf, ml_Fin_Zero, mlb_Fin_Zero]; rw [hp.qui, bs]
    | inf t ht =>
      refine .inl ⟨(qn p bias, 0), by simp, .inl rfl, fun mode hm => ?_⟩; simp only [if_true, if_false, Bool.false_eq_true, float_shape_add.f, float_shape_add.j0, float_shape_add.j1, float_shape_add.j2, float_shape_add.j3, mq_0_0, mb_0_0, mn_0_0, mq_0_1, mb_0_1, mn_0_1, mq_0_2, mb_0_2, mn_0_2, mq_0_3, mb_0_3, mn_0_3, mq_1_0, mb_1_0, mn_1_0, mq_1_1, mb_1_1, mn_1_1, mq_1_2, mb_1_2, mn_1_2, mq_1_3, mb_1_3, mn_1_3, mq_2_0, mb_2_0, mn_2_0, mq_2_1, mb_2_1, mn_2_1, mq_2_2, mb_2_2, mn_2_2, mq_2_3, mb_2_3, mn_2_3, mq_3_0, mb_3_0, mn_3_0, mq_3_1, mb_3_1, mn_3_1, mq_3_2, mb_3_2, mn_3_2, mq_3_3, mb_3_3, mn_3_3, ml_None_None, mlb_None_None, ml_None_Inf, mlb_None_Inf, ml_None_Zero, mlb_None_Zero, ml_Inf_None, mlb_Inf_None, ml_Inf_Inf, mlb_Inf_Inf, ml_Inf_Zero, mlb_Inf_Zero, ml_Zero_None, mlb_Zero_None, ml_Zero_Inf, mlb_Zero_Inf, ml_Zero_Zero, mlb_Zero_Zero, ml_Fin_None, mlb_Fin_None, ml_Fin_Inf, mlb_Fin_Inf, ml_Fin_Zero, mlb_Fin_Zero]; rw [hp.qui, bs]
    | zero t ht =>
      refine .inl ⟨(qn p bias, 0), by simp, .inl rfl, fun mode hm => ?_⟩; simp only [if_true, if_false, Bool.false_eq_true, float_shape_add.f, float_shape_add.j0, float_shape_add.j1, float_shape_add.j2, float_shape_add.j3, mq_0_0, mb_0_0, mn_0_0, mq_0_1, mb_0_1, mn_0_1, mq_0_2, mb_0_2, mn_0_2, mq_0_3, mb_0_3, mn_0_3, mq_1_0, mb_1_0, mn_1_0, mq_1_1, mb_1_1, mn_1_1, mq_1_2, mb_1_2, mn_1_2, mq_1_3, mb_1_3, mn_1_3, mq_2_0, mb_2_0, mn_2_0, mq_2_1, mb_2_1, mn_2_1, mq_2_2, mb_2_2, mn_2_2, mq_2_3, mb_2_3, mn_2_3, mq_3_0, mb_3_0, mn_3_0, mq_3_1, mb_3_1, mn_3_1, mq_3_2, mb_3_2, mn_3_2, mq_3_3, mb_3_3, mn_3_3, ml_None_None, mlb_None_None, ml_None_Inf, mlb_None_Inf, ml_None_Zero, mlb_None_Zero, ml_Inf_None, mlb_Inf_None, ml_Inf_Inf, mlb_Inf_Inf, ml_Inf_Zero, mlb_Inf_Zero, ml_Zero_None, mlb_Zero_None, ml_Zero_Inf, mlb_Zero_Inf, ml_Zero_Zero, mlb_Zero_Zero, ml_Fin_None, mlb_Fin_None, ml_Fin_Inf, mlb_Fin_Inf, ml_Fin_Zero, mlb_Fin_Zero]; rw [hp.qui, bs]
    | fin t ht n f hn0 hn1 hf0 hf1 hly =>
      refine .inl ⟨(qn p bias, 0), by simp, .inl rfl, fun mode hm => ?_⟩; simp only [if_true, if_false, Bool.false_eq_true, float_shape_add.f, float_shape_add.j0, float_shape_add.j1, float_shape_add.j2, float_shape_add.j3, mq_0_0, mb_0_0, mn_0_0, mq_0_1, mb_0_1, mn_0_1, mq_0_2, mb_0_2, mn_0_2, mq_0_3, mb_0_3, mn_0_3, mq_1_0, mb_1_0, mn_1_0, mq_1_1, mb_1_1, mn_1_1, mq_1_2, mb_1_2, mn_1_2, mq_1_3, mb_1_3, mn_1_3, mq_2_0, mb_2_0, mn_2_0, mq_2_1, mb_2_1, mn_2_1, mq_2_2, mb_2_2, mn_2_2, mq_2_3, mb_2_3, mn_2_3, mq_3_0, mb_3_0, mn_3_0, mq_3_1, mb_3_1, mn_3_1, mq_3_2, mb_3_2, mn_3_2, mq_3_3, mb_3_3, mn_3_3, ml_None_None, mlb_None_None, ml_None_Inf, mlb_None_Inf, ml_None_Zero, mlb_None_Zero, ml_Inf_None, mlb_Inf_None, ml_Inf_Inf, mlb_Inf_Inf, ml_Inf_Zero, mlb_Inf_Zero, ml_Zero_None, mlb_Zero_None, ml_Zero_Inf, mlb_Zero_Inf, ml_Zero_Zero, mlb_Zero_Zero, ml_Fin_None, mlb_Fin_None, ml_Fin_Inf, mlb_Fin_Inf, ml_Fin_Zero, mlb_Fin_Zero]; rw [hp.qui, bs]
  | inf s hs =>
    cases vy with
    | none t ht =>
      refine .inl ⟨(qn p bias, 0), by simp, .inl rfl, fun mode hm => ?_⟩; simp only [if_true, if_false, Bool.false_eq_true, float_shape_add.f, float_shape_add.j0, float_shape_add.j1, float_shape_add.j2, float_shape_add.j3, mq_0_0, mb_0_0, mn_0_0, mq_0_1, mb_0_1, mn_0_1, mq_0_2, mb_0_2, mn_0_2, mq_0_3, mb_0_3, mn_0_3, mq_1_0, mb_1_0, mn_1_0, mq_1_1, mb_1_1, mn_1_1, mq_1_2, mb_1_2, mn_1_2, mq_1_3, mb_1_3, mn_1_3, mq_2_0, mb_2_0, mn_2_0, mq_2_1, mb_2_1, mn_2_1, mq_2_2, mb_2_2, mn_2_2, mq_2_3, mb_2_3, mn_2_3, mq_3_0, mb_3_0, mn_3_0, mq_3_1, mb_3_1, mn_3_1, mq_3_2, mb_3_2, mn_3_2, mq_3_3, mb_3_3, mn_3_3, ml_None_None, mlb_None_None, ml_None_Inf, mlb_None_Inf, ml_None_Zero, mlb_None_Zero, ml_Inf_None, mlb_Inf_None, ml_Inf_Inf, mlb_Inf_Inf, ml_Inf_Zero, mlb_Inf_Zero, ml_Zero_None, mlb_Zero_None, ml_Zero_Inf, mlb_Zero_Inf, ml_Zero_Zero, mlb_Zero_Zero, ml_Fin_None, mlb_Fin_None, ml_Fin_Inf, mlb_Fin_Inf, ml_Fin_Zero, mlb_Fin_Zero]; rw [hp.qui, bs]
    | inf t ht =>
      by_cases h : s = t
      · subst h
        refine .inl ⟨(_, 0), by simp, .inr ⟨s, hs, .inl rfl⟩, fun mode hm => ?_⟩; simp only [if_true, if_false, Bool.false_eq_true, float_shape_add.f, float_shape_add.j0, float_shape_add.j1, float_shape_add.j2, float_shape_add.j3, mq_0_0, mb_0_0, mn_0_0, mq_0_1, mb_0_1, mn_0_1, mq_0_2, mb_0_2, mn_0_2, mq_0_3, mb_0_3, mn_0_3, mq_1_0, mb_1_0, mn_1_0, mq_1_1, mb_1_1, mn_1_1, mq_1_2, mb_1_2, mn_1_2, mq_1_3, mb_1_3, mn_1_3, mq_2_0, mb_2_0, mn_2_0, mq_2_1, mb_2_1, mn_2_1, mq_2_2, mb_2_2, mn_2_2, mq_2_3, mb_2_3, mn_2_3, mq_3_0, mb_3_0, mn_3_0, mq_3_1, mb_3_1, mn_3_1, mq_3_2, mb_3_2, mn_3_2, mq_3_3, mb_3_3, mn_3_3, ml_None_None, mlb_None_None, ml_None_Inf, mlb_None_Inf, ml_None_Zero, mlb_None_Zero, ml_Inf_None, mlb_Inf_None, ml_Inf_Inf, mlb_Inf_Inf, ml_Inf_Zero, mlb_Inf_Zero, ml_Zero_None, mlb_Zero_None, ml_Zero_Inf, mlb_Zero_Inf, ml_Zero_Zero, mlb_Zero_Zero, ml_Fin_None, mlb_Fin_None, ml_Fin_Inf, mlb_Fin_Inf, ml_Fin_Zero, mlb_Fin_Zero]; rw [show (s != s) = false by simp]; simp only [if_true, if_false, Bool.false_eq_true, float_shape_add.f, float_shape_add.j0, float_shape_add.j1, float_shape_add.j2, float_shape_add.j3, mq_0_0, mb_0_0, mn_0_0, mq_0_1, mb_0_1, mn_0_1, mq_0_2, mb_0_2, mn_0_2, mq_0_3, mb_0_3, mn_0_3, mq_1_0, mb_1_0, mn_1_0, mq_1_1, mb_1_1, mn_1_1, mq_1_2, mb_1_2, mn_1_2, mq_1_3, mb_1_3, mn_1_3, mq_2_0, mb_2_0, mn_2_0, mq_2_1, mb_2_1, mn_2_1, mq_2_2, mb_2_2, mn_2_2, mq_2_3, mb_2_3, mn_2_3, mq_3_0, mb_3_0, mn_3_0, mq_3_1, mb_3_1, mn_3_1, mq_3_2, mb_3_2, mn_3_2, mq_3_3, mb_3_3, mn_3_3, ml_None_None, mlb_None_None, ml_None_Inf, mlb_None_Inf, ml_None_Zero, mlb_None_Zero, ml_Inf_None, mlb_Inf_None, ml_Inf_Inf, mlb_Inf_Inf, ml_Inf_Zero, mlb_Inf_Zero, ml_Zero_None, mlb_Zero_None, ml_Zero_Inf, mlb_Zero_Inf, ml_Zero_Zero, mlb_Zero_Zero, ml_Fin_None, mlb_Fin_None, ml_Fin_Inf, mlb_Fin_Inf, ml_Fin_Zero, mlb_Fin_Zero]; rw [hp.inf s hs, bs]
      · refine .inl ⟨(qn p bias, 1), by simp, .inl rfl, fun mode hm => ?_⟩; simp only [if_true, if_false, Bool.false_eq_true, float_shape_add.f, float_shape_add.j0, float_shape_add.j1, float_shape_add.j2, float_shape_add.j3, mq_0_0, mb_0_0, mn_0_0, mq_0_1, mb_0_1, mn_0_1, mq_0_2, mb_0_2, mn_0_2, mq_0_3, mb_0_3, mn_0_3, mq_1_0, mb_1_0, mn_1_0, mq_1_1, mb_1_1, mn_1_1, mq_1_2, mb_1_2, mn_1_2, mq_1_3, mb_1_3, mn_1_3, mq_2_0, mb_2_0, mn_2_0, mq_2_1, mb_2_1, mn_2_1, mq_2_2, mb_2_2, mn_2_2, mq_2_3, mb_2_3, mn_2_3, mq_3_0, mb_3_0, mn_3_0, mq_3_1, mb_3_1, mn_3_1, mq_3_2, mb_3_2, mn_3_2, mq_3_3, mb_3_3, mn_3_3, ml_None_None, mlb_None_None, ml_None_Inf, mlb_None_Inf, ml_None_Zero, mlb_None_Zero, ml_Inf_None, mlb_Inf_None, ml_Inf_Inf, mlb_Inf_Inf, ml_Inf_Zero, mlb_Inf_Zero, ml_Zero_None, mlb_Zero_None, ml_Zero_Inf, mlb_Zero_Inf, ml_Zero_Zero, mlb_Zero_Zero, ml_Fin_None, mlb_Fin_None, ml_Fin_Inf, mlb_Fin_Inf, ml_Fin_Zero, mlb_Fin_Zero]; rw [show (s != t) = true by simpa using h]; simp only [if_true, if_false, Bool.false_eq_true, float_shape_add.f, float_shape_add.j0, float_shape_add.j1, float_shape_add.j2, float_shape_add.j3, mq_0_0, mb_0_0, mn_0_0, mq_0_1, mb_0_1, mn_0_1, mq_0_2, mb_0_2, mn_0_2, mq_0_3, mb_0_3, mn_0_3, mq_1_0, mb_1_0, mn_1_0, mq_1_1, mb_1_1, mn_1_1, mq_1_2, mb_1_2, mn_1_2, mq_1_3, mb_1_3, mn_1_3, mq_2_0, mb_2_0, mn_2_0, mq_2_1, mb_2_1, mn_2_1, mq_2_2, mb_2_2, mn_2_2, mq_2_3, mb_2_3, mn_2_3, mq_3_0, mb_3_0, mn_3_0, mq_3_1, mb_3_1, mn_3_1, mq_3_2, mb_3_2, mn_3_2, mq_3_3, mb_3_3, mn_3_3, ml_None_None, mlb_None_None, ml_None_Inf, mlb_None_Inf, ml_None_Zero, mlb_None_Zero, ml_Inf_None, mlb_Inf_None, ml_Inf_Inf, mlb_Inf_Inf, ml_Inf_Zero, mlb_Inf_Zero, ml_Zero_None, mlb_Zero_None, ml_Zero_Inf, mlb_Zero_Inf, ml_Zero_Zero, mlb_Zero_Zero, ml_Fin_None, mlb_Fin_None, ml_Fin_Inf, mlb_Fin_Inf, ml_Fin_Zero, mlb_Fin_Zero]; rw [hp.qui, bs]
    | zero t ht =>
      refine .inl ⟨(_, 0), by simp, .inr ⟨s, hs, .inl rfl⟩, fun mode hm => ?_⟩; simp only [if_true, if_false, Bool.false_eq_true, float_shape_add.f, float_shape_add.j0, float_shape_add.j1, float_shape_add.j2, float_shape_add.j3, mq_0_0, mb_0_0, mn_0_0, mq_0_1, mb_0_1, mn_0_1, mq_0_2, mb_0_2, mn_0_2, mq_0_3, mb_0_3, mn_0_3, mq_1_0, mb_1_0, mn_1_0, mq_1_1, mb_1_1, mn_1_1, mq_1_2, mb_1_2, mn_1_2, mq_1_3, mb_1_3, mn_1_3, mq_2_0, mb_2_0, mn_2_0, mq_2_1, mb_2_1, mn_2_1, mq_2_2, mb_2_2, mn_2_2, mq_2_3, mb_2_3, mn_2_3, mq_3_0, mb_3_0, mn_3_0, mq_3_1, mb_3_1, mn_3_1, mq_3_2, mb_3_2, mn_3_2, mq_3_3, mb_3_3, mn_3_3, ml_None_None, mlb_None_None, ml_None_Inf, mlb_None_Inf, ml_None_Zero, mlb_None_Zero, ml_Inf_None, mlb_Inf_None, ml_Inf_Inf, mlb_Inf_Inf, ml_Inf_Zero, mlb_Inf_Zero, ml_Zero_None, mlb_Zero_None, ml_Zero_Inf, mlb_Zero_Inf, ml_Zero_Zero, mlb_Zero_Zero, ml_Fin_None, mlb_Fin_None, ml_Fin_Inf, mlb_Fin_Inf, ml_Fin_Zero, mlb_Fin_Zero]; rw [hp.inf s hs, bs]
    | fin t ht n f hn0 hn1 hf0 hf1 hly =>
      refine .inl ⟨(_, 0), by simp, .inr ⟨s, hs, .inl rfl⟩, fun mode hm => ?_⟩; simp only [if_true, if_false, Bool.false_eq_true, float_shape_add.f, float_shape_add.j0, float_shape_add.j1, float_shape_add.j2, float_shape_add.j3, mq_0_0, mb_0_0, mn_0_0, mq_0_1, mb_0_1, mn_0_1, mq_0_2, mb_0_2, mn_0_2, mq_0_3, mb_0_3, mn_0_3, mq_1_0, mb_1_0, mn_1_0, mq_1_1, mb_1_1, mn_1_1, mq_1_2, mb_1_2, mn_1_2, mq_1_3, mb_1_3, mn_1_3, mq_2_0, mb_2_0, mn_2_0, mq_2_1, mb_2_1, mn_2_1, mq_2_2, mb_2_2, mn_2_2, mq_2_3, mb_2_3, mn_2_3, mq_3_0, mb_3_0, mn_3_0, mq_3_1, mb_3_1, mn_3_1, mq_3_2, mb_3_2, mn_3_2, mq_3_3, mb_3_3, mn_3_3, ml_None_None, mlb_None_None, ml_None_Inf, mlb_None_Inf, ml_None_Zero, mlb_None_Zero, ml_Inf_None, mlb_Inf_None, ml_Inf_Inf, mlb_Inf_Inf, ml_Inf_Zero, mlb_Inf_Zero, ml_Zero_None, mlb_Zero_None, ml_Zero_Inf, mlb_Zero_Inf, ml_Zero_Zero, mlb_Zero_Zero, ml_Fin_None, mlb_Fin_None, ml_Fin_Inf, mlb_Fin_Inf, ml_Fin_Zero, mlb_Fin_Zero]; rw [hp.inf s hs, bs]
  | zero s hs =>
    cases vy with
    | none t ht =>
      refine .inl ⟨(qn p bias, 0), by simp, .inl rfl, fun mode hm => ?_⟩; simp only [if_true, if_false, Bool.false_eq_true, float_shape_add.f, float_shape_add.j0, float_shape_add.j1, float_shape_add.j2, float_shape_add.j3, mq_0_0, mb_0_0, mn_0_0, mq_0_1, mb_0_1, mn_0_1, mq_0_2, mb_0_2, mn_0_2, mq_0_3, mb_0_3, mn_0_3, mq_1_0, mb_1_0, mn_1_0, mq_1_1, mb_1_1, mn_1_1, mq_1_2, mb_1_2, mn_1_2, mq_1_3, mb_1_3, mn_1_3, mq_2_0, mb_2_0, mn_2_0, mq_2_1, mb_2_1, mn_2_1, mq_2_2, mb_2_2, mn_2_2, mq_2_3, mb_2_3, mn_2_3, mq_3_0, mb_3_0, mn_3_0, mq_3_1, mb_3_1, mn_3_1, mq_3_2, mb_3_2, mn_3_2, mq_3_3, mb_3_3, mn_3_3, ml_None_None, mlb_None_None, ml_None_Inf, mlb_None_Inf, ml_None_Zero, mlb_None_Zero, ml_Inf_None, mlb_Inf_None, ml_Inf_Inf, mlb_Inf_Inf, ml_Inf_Zero, mlb_Inf_Zero, ml_Zero_None, mlb_Zero_None, ml_Zero_Inf, mlb_Zero_Inf, ml_Zero_Zero, mlb_Zero_Zero, ml_Fin_None, mlb_Fin_None, ml_Fin_Inf, mlb_Fin_Inf, ml_Fin_Zero, mlb_Fin_Zero]; rw [hp.qui, bs]
    | inf t ht =>
      refine .inl ⟨(_, 0), by simp, .inr ⟨t, ht, .inl rfl⟩, fun mode hm => ?_⟩; simp only [if_true, if_false, Bool.false_eq_true, float_shape_add.f, float_shape_add.j0, float_shape_add.j1, float_shape_add.j2, float_shape_add.j3, mq_0_0, mb_0_0, mn_0_0, mq_0_1, mb_0_1, mn_0_1, mq_0_2, mb_0_2, mn_0_2, mq_0_3, mb_0_3, mn_0_3, mq_1_0, mb_1_0, mn_1_0, mq_1_1, mb_1_1, mn_1_1, mq_1_2, mb_1_2, mn_1_2, mq_1_3, mb_1_3, mn_1_3, mq_2_0, mb_2_0, mn_2_0, mq_2_1, mb_2_1, mn_2_1, mq_2_2, mb_2_2, mn_2_2, mq_2_3, mb_2_3, mn_2_3, mq_3_0, mb_3_0, mn_3_0, mq_3_1, mb_3_1, mn_3_1, mq_3_2, mb_3_2, mn_3_2, mq_3_3, mb_3_3, mn_3_3, ml_None_None, mlb_None_None, ml_None_Inf, mlb_None_Inf, ml_None_Zero, mlb_None_Zero, ml_Inf_None, mlb_Inf_None, ml_Inf_Inf, mlb_Inf_Inf, ml_Inf_Zero, mlb_Inf_Zero, ml_Zero_None, mlb_Zero_None, ml_Zero_Inf, mlb_Zero_Inf, ml_Zero_Zero, mlb_Zero_Zero, ml_Fin_None, mlb_Fin_None, ml_Fin_Inf, mlb_Fin_Inf, ml_Fin_Zero, mlb_Fin_Zero]; rw [hp.inf t ht, bs]
    | zero t ht =>
      by_cases h : s = t
      · subst h
        refine .inl ⟨(_, 0), by simp, .inr ⟨s, hs, .inr rfl⟩, fun mode hm => ?_⟩; simp only [if_true, if_false, Bool.false_eq_true, float_shape_add.f, float_shape_add.j0, float_shape_add.j1, float_shape_add.j2, float_shape_add.j3, mq_0_0, mb_0_0, mn_0_0, mq_0_1, mb_0_1, mn_0_1, mq_0_2, mb_0_2, mn_0_2, mq_0_3, mb_0_3, mn_0_3, mq_1_0, mb_1_0, mn_1_0, mq_1_1, mb_1_1, mn_1_1, mq_1_2, mb_1_2, mn_1_2, mq_1_3, mb_1_3, mn_1_3, mq_2_0, mb_2_0, mn_2_0, mq_2_1, mb_2_1, mn_2_1, mq_2_2, mb_2_2, mn_2_2, mq_2_3, mb_2_3, mn_2_3, mq_3_0, mb_3_0, mn_3_0, mq_3_1, mb_3_1, mn_3_1, mq_3_2, mb_3_2, mn_3_2, mq_3_3, mb_3_3, mn_3_3, ml_None_None, mlb_None_None, ml_None_Inf, mlb_None_Inf, ml_None_Zero, mlb_None_Zero, ml_Inf_None, mlb_Inf_None, ml_Inf_Inf, mlb_Inf_Inf, ml_Inf_Zero, mlb_Inf_Zero, ml_Zero_None, mlb_Zero_None, ml_Zero_Inf, mlb_Zero_Inf, ml_Zero_Zero, mlb_Zero_Zero, ml_Fin_None, mlb_Fin_None, ml_Fin_Inf, mlb_Fin_Inf, ml_Fin_Zero, mlb_Fin_Zero]; rw [show (s == s) = true by simp, if_pos rfl, hp.zer s hs, bs]
      · refine .inr (.inl fun mode hm => ?_); simp only [if_true, if_false, Bool.false_eq_true, float_shape_add.f, float_shape_add.j0, float_shape_add.j1, float_shape_add.j2, float_shape_add.j3, mq_0_0, mb_0_0, mn_0_0, mq_0_1, mb_0_1, mn_0_1, mq_0_2, mb_0_2, mn_0_2, mq_0_3, mb_0_3, mn_0_3, mq_1_0, mb_1_0, mn_1_0, mq_1_1, mb_1_1, mn_1_1, mq_1_2, mb_1_2, mn_1_2, mq_1_3, mb_1_3, mn_1_3, mq_2_0, mb_2_0, mn_2_0, mq_2_1, mb_2_1, mn_2_1, mq_2_2, mb_2_2, mn_2_2, mq_2_3, mb_2_3, mn_2_3, mq_3_0, mb_3_0, mn_3_0, mq_3_1, mb_3_1, mn_3_1, mq_3_2, mb_3_2, mn_3_2, mq_3_3, mb_3_3, mn_3_3, ml_None_None, mlb_None_None, ml_None_Inf, mlb_None_Inf, ml_None_Zero, mlb_None_Zero, ml_Inf_None, mlb_Inf_None, ml_Inf_Inf, mlb_Inf_Inf, ml_Inf_Zero, mlb_Inf_Zero, ml_Zero_None, mlb_Zero_None, ml_Zero_Inf, mlb_Zero_Inf, ml_Zero_Zero, mlb_Zero_Zero, ml_Fin_None, mlb_Fin_None, ml_Fin_Inf, mlb_Fin_Inf, ml_Fin_Zero, mlb_Fin_Zero]; rw [show (s == t) = false by simpa using h]; simp only [if_true, if_false, Bool.false_eq_true, float_shape_add.f, float_shape_add.j0, float_shape_add.j1, float_shape_add.j2, float_shape_add.j3, mq_0_0, mb_0_0, mn_0_0, mq_0_1, mb_0_1, mn_0_1, mq_0_2, mb_0_2, mn_0_2, mq_0_3, mb_0_3, mn_0_3, mq_1_0, mb_1_0, mn_1_0, mq_1_1, mb_1_1, mn_1_1, mq_1_2, mb_1_2, mn_1_2, mq_1_3, mb_1_3, mn_1_3, mq_2_0, mb_2_0, mn_2_0, mq_2_1, mb_2_1, mn_2_1, mq_2_2, mb_2_2, mn_2_2, mq_2_3, mb_2_3, mn_2_3, mq_3_0, mb_3_0, mn_3_0, mq_3_1, mb_3_1, mn_3_1, mq_3_2, mb_3_2, mn_3_2, mq_3_3, mb_3_3, mn_3_3, ml_None_None, mlb_None_None, ml_None_Inf, mlb_None_Inf, ml_None_Zero, mlb_None_Zero, ml_Inf_None, mlb_Inf_None, ml_Inf_Inf, mlb_Inf_Inf, ml_Inf_Zero, mlb_Inf_Zero, ml_Zero_None, mlb_Zero_None, ml_Zero_Inf, mlb_Zero_Inf, ml_Zero_Zero, mlb_Zero_Zero, ml_Fin_None, mlb_Fin_None, ml_Fin_Inf, mlb_Fin_Inf, ml_Fin_Zero, mlb_Fin_Zero]; rw [hp.non mode, bs]
    | fin t ht n f hn0 hn1 hf0 hf1 hly =>
      refine .inr (.inr ⟨t, f, n, false, ht, hn0, fun mode hm => ?_⟩); simp only [if_true, if_false, Bool.false_eq_true, float_shape_add.f, float_shape_add.j0, float_shape_add.j1, float_shape_add.j2, float_shape_add.j3, mq_0_0, mb_0_0, mn_0_0, mq_0_1, mb_0_1, mn_0_1, mq_0_2, mb_0_2, mn_0_2, mq_0_3, mb_0_3, mn_0_3, mq_1_0, mb_1_0, mn_1_0, mq_1_1, mb_1_1, mn_1_1, mq_1_2, mb_1_2, mn_1_2, mq_1_3, mb_1_3, mn_1_3, mq_2_0, mb_2_0, mn_2_0, mq_2_1, mb_2_1, mn_2_1, mq_2_2, mb_2_2, mn_2_2, mq_2_3, mb_2_3, mn_2_3, mq_3_0, mb_3_0, mn_3_0, mq_3_1, mb_3_1, mn_3_1, mq_3_2, mb_3_2, mn_3_2, mq_3_3, mb_3_3, mn_3_3, ml_None_None, mlb_None_None, ml_None_Inf, mlb_None_Inf, ml_None_Zero, mlb_None_Zero, ml_Inf_None, mlb_Inf_None, ml_Inf_Inf, mlb_Inf_Inf, ml_Inf_Zero, mlb_Inf_Zero, ml_Zero_None, mlb_Zero_None, ml_Zero_Inf, mlb_Zero_Inf, ml_Zero_Zero, mlb_Zero_Zero, ml_Fin_None, mlb_Fin_None, ml_Fin_Inf, mlb_Fin_Inf, ml_Fin_Zero, mlb_Fin_Zero]
      have e4 := round_eq hp k (by omega) mode t f false n 0 n hm ht hn0 (by omega) (by omega) (by omega) (by omega) (by omega) (by simp)
      have e4' : float_shape_round.f k (p : Int) w mode t 0 (n : Int) f false = _ := e4
      rw [e4', bs]
  | fin s hs m e hm0 hm1 he0 he1 hlx =>
    cases vy with
    | none t ht =>
      refine .inl ⟨(qn p bias, 0), by simp, .inl rfl, fun mode hm => ?_⟩; simp only [if_true, if_false, Bool.false_eq_true, float_shape_add.f, float_shape_add.j0, float_shape_add.j1, float_shape_add.j2, float_shape_add.j3, mq_0_0, mb_0_0, mn_0_0, mq_0_1, mb_0_1, mn_0_1, mq_0_2, mb_0_2, mn_0_2, mq_0_3, mb_0_3, mn_0_3, mq_1_0, mb_1_0, mn_1_0, mq_1_1, mb_1_1, mn_1_1, mq_1_2, mb_1_2, mn_1_2, mq_1_3, mb_1_3, mn_1_3, mq_2_0, mb_2_0, mn_2_0, mq_2_1, mb_2_1, mn_2_1, mq_2_2, mb_2_2, mn_2_2, mq_2_3, mb_2_3, mn_2_3, mq_3_0, mb_3_0, mn_3_0, mq_3_1, mb_3_1, mn_3_1, mq_3_2, mb_3_2, mn_3_2, mq_3_3, mb_3_3, mn_3_3, ml_None_None, mlb_None_None, ml_None_Inf, mlb_None_Inf, ml_None_Zero, mlb_None_Zero, ml_Inf_None, mlb_Inf_None, ml_Inf_Inf, mlb_Inf_Inf, ml_Inf_Zero, mlb_Inf_Zero, ml_Zero_None, mlb_Zero_None, ml_Zero_Inf, mlb_Zero_Inf, ml_Zero_Zero, mlb_Zero_Zero, ml_Fin_None, mlb_Fin_None, ml_Fin_Inf, mlb_Fin_Inf, ml_Fin_Zero, mlb_Fin_Zero]; rw [hp.qui, bs]
    | inf t ht =>
      refine .inl ⟨(_, 0), by simp, .inr ⟨t, ht, .inl rfl⟩, fun mode hm => ?_⟩; simp only [if_true, if_false, Bool.false_eq_true, float_shape_add.f, float_shape_add.j0, float_shape_add.j1, float_shape_add.j2, float_shape_add.j3, mq_0_0, mb_0_0, mn_0_0, mq_0_1, mb_0_1, mn_0_1, mq_0_2, mb_0_2, mn_0_2, mq_0_3, mb_0_3, mn_0_3, mq_1_0, mb_1_0, mn_1_0, mq_1_1, mb_1_1, mn_1_1, mq_1_2, mb_1_2, mn_1_2, mq_1_3, mb_1_3, mn_1_3, mq_2_0, mb_2_0, mn_2_0, mq_2_1, mb_2_1, mn_2_1, mq_2_2, mb_2_2, mn_2_2, mq_2_3, mb_2_3, mn_2_3, mq_3_0, mb_3_0, mn_3_0, mq_3_1, mb_3_1, mn_3_1, mq_3_2, mb_3_2, mn_3_2, mq_3_3, mb_3_3, mn_3_3, ml_None_None, mlb_None_None, ml_None_Inf, mlb_None_Inf, ml_None_Zero, mlb_None_Zero, ml_Inf_None, mlb_Inf_None, ml_Inf_Inf, mlb_Inf_Inf, ml_Inf_Zero, mlb_Inf_Zero, ml_Zero_None, mlb_Zero_None, ml_Zero_Inf, mlb_Zero_Inf, ml_Zero_Zero, mlb_Zero_Zero, ml_Fin_None, mlb_Fin_None, ml_Fin_Inf, mlb_Fin_Inf, ml_Fin_Zero, mlb_Fin_Zero]; rw [hp.inf t ht, bs]
    | zero t ht =>
      refine .inr (.inr ⟨s, e, m, false, hs, hm0, fun mode hm => ?_⟩); simp only [if_true, if_false, Bool.false_eq_true, float_shape_add.f, float_shape_add.j0, float_shape_add.j1, float_shape_add.j2, float_shape_add.j3, mq_0_0, mb_0_0, mn_0_0, mq_0_1, mb_0_1, mn_0_1, mq_0_2, mb_0_2, mn_0_2, mq_0_3, mb_0_3, mn_0_3, mq_1_0, mb_1_0, mn_1_0, mq_1_1, mb_1_1, mn_1_1, mq_1_2, mb_1_2, mn_1_2, mq_1_3, mb_1_3, mn_1_3, mq_2_0, mb_2_0, mn_2_0, mq_2_1, mb_2_1, mn_2_1, mq_2_2, mb_2_2, mn_2_2, mq_2_3, mb_2_3, mn_2_3, mq_3_0, mb_3_0, mn_3_0, mq_3_1, mb_3_1, mn_3_1, mq_3_2, mb_3_2, mn_3_2, mq_3_3, mb_3_3, mn_3_3, ml_None_None, mlb_None_None, ml_None_Inf, mlb_None_Inf, ml_None_Zero, mlb_None_Zero, ml_Inf_None, mlb_Inf_None, ml_Inf_Inf, mlb_Inf_Inf, ml_Inf_Zero, mlb_Inf_Zero, ml_Zero_None, mlb_Zero_None, ml_Zero_Inf, mlb_Zero_Inf, ml_Zero_Zero, mlb_Zero_Zero, ml_Fin_None, mlb_Fin_None, ml_Fin_Inf, mlb_Fin_Inf, ml_Fin_Zero, mlb_Fin_Zero]
      have e4 := round_eq hp k (by omega) mode s e false m 0 m hm hs hm0 (by omega) (by omega) (by omega) (by omega) (by omega) (by simp)
      have e4' : float_shape_round.f k (p : Int) w mode s 0 (m : Int) e false = _ := e4
      rw [e4', bs]
    | fin t ht n f hn0 hn1 hf0 hf1 hly =>
      have lx : e ≠ 2 - bias - p → 2 ^ (p - 1) ≤ m := fun hne => Nat.le_of_not_lt fun hh => hne (hlx hh)
      have ly : f ≠ 2 - bias - p → 2 ^ (p - 1) ≤ n := fun hne => Nat.le_of_not_lt fun hh => hne (hly hh)
      by_cases h1 : e < f
      · refine trio_addv ht hs (M := n * 2 ^ (f - e).toNat) (L := m) (low := e) fun mode hm => ?_
        simp only [if_true, if_false, Bool.false_eq_true, float_shape_add.f, float_shape_add.j0, float_shape_add.j1, float_shape_add.j2, float_shape_add.j3, mq_0_0, mb_0_0, mn_0_0, mq_0_1, mb_0_1, mn_0_1, mq_0_2, mb_0_2, mn_0_2, mq_0_3, mb_0_3, mn_0_3, mq_1_0, mb_1_0, mn_1_0, mq_1_1, mb_1_1, mn_1_1, mq_1_2, mb_1_2, mn_1_2, mq_1_3, mb_1_3, mn_1_3, mq_2_0, mb_2_0, mn_2_0, mq_2_1, mb_2_1, mn_2_1, mq_2_2, mb_2_2, mn_2_2, mq_2_3, mb_2_3, mn_2_3, mq_3_0, mb_3_0, mn_3_0, mq_3_1, mb_3_1, mn_3_1, mq_3_2, mb_3_2, mn_3_2, mq_3_3, mb_3_3, mn_3_3, ml_None_None, mlb_None_None, ml_None_Inf, mlb_None_Inf, ml_None_Zero, mlb_None_Zero, ml_Inf_None, mlb_Inf_None, ml_Inf_Inf, mlb_Inf_Inf, ml_Inf_Zero, mlb_Inf_Zero, ml_Zero_None, mlb_Zero_None, ml_Zero_Inf, mlb_Zero_Inf, ml_Zero_Zero, mlb_Zero_Zero, ml_Fin_None, mlb_Fin_None, ml_Fin_Inf, mlb_Fin_Inf, ml_Fin_Zero, mlb_Fin_Zero]
        rw [if_pos h1, psum_eq hp k (by omega) mode t s f e 1 1 n m hm ht hs hn1 hm1 hm0 (by omega) (by omega) (by omega) ly (by omega), bs]
      · refine trio_addv hs ht (M := m * 2 ^ (e - f).toNat) (L := n) (low := f) fun mode hm => ?_
        simp only [if_true, if_false, Bool.false_eq_true, float_shape_add.f, float_shape_add.j0, float_shape_add.j1, float_shape_add.j2, float_shape_add.j3, mq_0_0, mb_0_0, mn_0_0, mq_0_1, mb_0_1, mn_0_1, mq_0_2, mb_0_2, mn_0_2, mq_0_3, mb_0_3, mn_0_3, mq_1_0, mb_1_0, mn_1_0, mq_1_1, mb_1_1, mn_1_1, mq_1_2, mb_1_2, mn_1_2, mq_1_3, mb_1_3, mn_1_3, mq_2_0, mb_2_0, mn_2_0, mq_2_1, mb_2_1, mn_2_1, mq_2_2, mb_2_2, mn_2_2, mq_2_3, mb_2_3, mn_2_3, mq_3_0, mb_3_0, mn_3_0, mq_3_1, mb_3_1, mn_3_1, mq_3_2, mb_3_2, mn_3_2, mq_3_3, mb_3_3, mn_3_3, ml_None_None, mlb_None_None, ml_None_Inf, mlb_None_Inf, ml_None_Zero, mlb_None_Zero, ml_Inf_None, mlb_Inf_None, ml_Inf_Inf, mlb_Inf_Inf, ml_Inf_Zero, mlb_Inf_Zero, ml_Zero_None, mlb_Zero_None, ml_Zero_Inf, mlb_Zero_Inf, ml_Zero_Zero, mlb_Zero_Zero, ml_Fin_None, mlb_Fin_None, ml_Fin_Inf, mlb_Fin_Inf, ml_Fin_Zero, mlb_Fin_Zero]
        rw [if_neg h1, psum_eq hp k (by omega) mode s t e f 1 1 m n hm hs ht hm1 hn1 hn0 (by omega) (by omega) (by omega) lx (by omega), bs]
/-- The size of what was rounded. -/
def mg (p : Nat) (x : Int × Nat × Int) : Int := x.1 * ((2 ^ (p - 1) : Nat) : Int) + x.2.1
theorem spl_bd (p : Nat) (hp : 1 ≤ p) (lst : Int) (N : Nat) (hN : N ≠ 0) (e : Int) (more : Bool) : (spl N e (quant p lst N e) more).1 < 2 ^ p ∧ ((spl N e (quant p lst N e) more).1 < 2 ^ (p - 1) → quant p lst N e = lst) ∧ lst ≤ quant p lst N e := by
  have hb := blen_pos hN
  have hq : quant p lst N e = max (e + blen N - p) lst := rfl
  generalize quant p lst N e = q at *
  unfold spl
  by_cases c : q ≤ e
  · rw [if_pos c]
    dsimp only
    have b := blen_mul_pow hN (e - q).toNat
    refine ⟨blen_le.1 (by omega), fun h => ?_, by omega⟩
    have := blen_le.2 h
    omega
  · rw [if_neg c]
    dsimp only
    have b := blen_div_pow N (q - e).toNat
    refine ⟨blen_le.1 (by omega), fun h => ?_, by omega⟩
    have := blen_le.2 h
    omega
def finM (p : Nat) (bias : Int) (mode sign : Int) (tiny : Bool) (q : Int) (M1 c : Nat) : Int × Nat × Int :=
  if (if M1 = 2 ^ p then 2 ^ (p - 1) else M1) < 2 ^ (p - 1) then (0, (if M1 = 2 ^ p then 2 ^ (p - 1) else M1), (if 0 < c then (if tiny then 24 else 16) else 0))
  else if (if M1 = 2 ^ p then q + 1 else q) + p - 1 + bias < 2 * bias + 1 then ((if M1 = 2 ^ p then q + 1 else q) + p - 1 + bias, (if M1 = 2 ^ p then 2 ^ (p - 1) else M1) - 2 ^ (p - 1), (if 0 < c then (if tiny then 24 else 16) else 0))
  else if mode = 1 ∨ (mode = 2 ∧ sign = 0) ∨ (mode = 3 ∧ sign = 1) then (2 * bias, 2 ^ (p - 1) - 1, 20)
  else (2 * bias + 1, 0, 20)
theorem fin_eq (p : Nat) (bias : Int) (mode sign : Int) (tiny : Bool) (q : Int) (M c : Nat) : fin p bias mode sign tiny q M c = finM p bias mode sign tiny q (if away mode sign (M % 2 == 1) c then M + 1 else M) c := rfl
theorem fin_step (p : Nat) (hp : 1 ≤ p) (bias sg : Int) (hb : 1 ≤ bias) (tiny : Bool) (q : Int) (M c : Nat) (hM : M < 2 ^ p) (hq : M < 2 ^ (p - 1) → q = 2 - bias - p) (hq0 : 2 - bias - p ≤ q) (dn up : Int)
    (hd : ∀ odd, away dn sg odd c = false) (hu : ∀ odd, away up sg odd c = decide (0 < c)) (od : dn = 1 ∨ (dn = 2 ∧ sg = 0) ∨ (dn = 3 ∧ sg = 1)) (ou : ¬ (up = 1 ∨ (up = 2 ∧ sg = 0) ∨ (up = 3 ∧ sg = 1))) :
    ((fin p bias dn sg tiny q M c = fin p bias up sg tiny q M c ∧ (fin p bias dn sg tiny q M c).2.2 = 0) ∨ mg p (fin p bias up sg tiny q M c) = mg p (fin p bias dn sg tiny q M c) + 1) ∧
    0 ≤ mg p (fin p bias dn sg tiny q M c) ∧ mg p (fin p bias up sg tiny q M c) ≤ (2 * bias + 1) * ((2 ^ (p - 1) : Nat) : Int) := by
  have e2 : 2 ^ p = 2 * 2 ^ (p - 1) := by rw [← Nat.pow_succ']; congr 1; omega
  have pp := Nat.two_pow_pos (p - 1)
  rw [fin_eq, fin_eq, hd, hu, show (if (false : Bool) = true then M + 1 else M) = M from rfl]
  unfold finM mg
  rw [if_pos od, if_neg ou]
  rw [e2] at hM ⊢
  rw [if_neg (show ¬ M = 2 * 2 ^ (p - 1) by omega), if_neg (show ¬ M = 2 * 2 ^ (p - 1) by omega)]
  generalize 2 ^ (p - 1) = P at *
  have hE : (2 * bias + 1) * (P : Int) = 2 * bias * P + P := by rw [Int.add_mul, Int.one_mul]
  have hE0 : 0 ≤ 2 * bias * (P : Int) := Int.mul_nonneg (by omega) (by omega)
  have mono : ∀ x y : Int, x ≤ y → x * (P : Int) ≤ y * P := fun x y h => Int.mul_le_mul_of_nonneg_right h (by omega)
  have pos : ∀ x : Int, 0 ≤ x → 0 ≤ x * (P : Int) := fun x h => Int.mul_nonneg h (by omega)
  by_cases c0 : 0 < c
  · rw [decide_eq_true c0, show (if (true : Bool) = true then M + 1 else M) = M + 1 from rfl, if_pos c0]
    by_cases m1 : M + 1 = 2 * P
    · rw [if_pos m1, if_pos m1, if_neg (show ¬ P < P by omega), if_neg (show ¬ M < P by omega)]
      have hx : (q + 1 + p - 1 + bias) = (q + p - 1 + bias) + 1 := by omega
      rw [hx]
      generalize hX : q + p - 1 + bias = X at *
      have hs : (X + 1) * (P : Int) = X * P + P := by rw [Int.add_mul, Int.one_mul]
      by_cases o1 : X + 1 < 2 * bias + 1
      · have := mono (X + 1) (2 * bias) (by omega)
        have := pos X (by omega)
        rw [if_pos o1, if_pos (show X < 2 * bias + 1 by omega)]
        refine ⟨.inr ?_, ?_, ?_⟩ <;> (dsimp only; omega)
      · rw [if_neg o1]
        by_cases o2 : X < 2 * bias + 1
        · rw [if_pos o2]
          have : X = 2 * bias := by omega
          subst this
          refine ⟨.inr ?_, ?_, ?_⟩ <;> (dsimp only; omega)
        · rw [if_neg o2]
          refine ⟨.inr ?_, ?_, ?_⟩ <;> (dsimp only; omega)
    · rw [if_neg m1, if_neg m1]
      by_cases m2 : M + 1 < P
      · rw [if_pos m2, if_pos (show M < P by omega)]
        have := mono 1 (2 * bias + 1) (by omega)
        refine ⟨.inr ?_, ?_, ?_⟩ <;> (dsimp only; omega)
      · rw [if_neg m2]
        by_cases m3 : M < P
        · have hq' := hq m3
          rw [if_pos m3, if_pos (show q + p - 1 + bias < 2 * bias + 1 by omega)]
          have : q + p - 1 + bias = 1 := by omega
          rw [this]
          have := mono 1 (2 * bias + 1) (by omega)
          refine ⟨.inr ?_, ?_, ?_⟩ <;> (dsimp only; omega)
        · rw [if_neg m3]
          generalize hX : q + p - 1 + bias = X at *
          by_cases o1 : X < 2 * bias + 1
          · have := mono X (2 * bias) (by omega)
            have := pos X (by omega)
            rw [if_pos o1, if_pos o1]
            refine ⟨.inr ?_, ?_, ?_⟩ <;> (dsimp only; omega)
          · rw [if_neg o1, if_neg o1]
            refine ⟨.inr ?_, ?_, ?_⟩ <;> (dsimp only; omega)
  · rw [decide_eq_false c0, show (if (false : Bool) = true then M + 1 else M) = M from rfl, if_neg c0, if_neg (show ¬ M = 2 * P by omega), if_neg (show ¬ M = 2 * P by omega)]
    by_cases m3 : M < P
    · rw [if_pos m3, if_pos m3]
      have := mono 1 (2 * bias + 1) (by omega)
      refine ⟨.inl ⟨rfl, rfl⟩, ?_, ?_⟩ <;> (dsimp only; omega)
    · rw [if_neg m3, if_neg m3]
      generalize hX : q + p - 1 + bias = X at *
      by_cases o1 : X < 2 * bias + 1
      · have := mono X (2 * bias) (by omega)
        have := pos X (by omega)
        rw [if_pos o1, if_pos o1]
        refine ⟨.inl ⟨rfl, rfl⟩, ?_, ?_⟩ <;> (dsimp only; omega)
      · rw [if_neg o1, if_neg o1]
        refine ⟨.inr ?_, ?_, ?_⟩ <;> (dsimp only; omega)

/-- A kind, for the modes. -/
structure MK (V : Int → Prop) (kind : Int) (p : Nat) (w bias T P W l o E : Int) : Prop where
  nk : NK V kind (p : Int) w T P W l o E
  pk : PK p w bias T
  hE : E = (2 * bias + 1) * ((2 ^ (p - 1) : Nat) : Int)
  hT : T ≤ 9223372036854775808
  two : ∀ (k : Nat) (mode a b : Int), 0 ≤ mode → mode < 4 → V a → V b → float_two.f (k + 3) kind mode a b = some (twv p w (rdv P W l o (wd a)) (rdv P W l o (wd b)))
  view : ∀ a : Int, Vw p bias (rdv P W l o (wd a)) (tkv P W l o (wd a))
  qv : V (qn p bias)
  q3 : (rdv P W l o (wd (qn p bias))).1 = 3
section
variable {V : Int → Prop} {kind w bias T P W l o E : Int} {p : Nat} (H : MK V kind p w bias T P W l o E)
include H
theorem pk_nj {s : Int} (hs : s = 0 ∨ s = 1) {x : Int × Nat × Int} (h0 : 0 ≤ mg p x) (h1 : mg p x ≤ E) : (pk p T s x).1 = nj T (decide (s = 1)) (if s = 1 then -mg p x else mg p x) := by
  have e0 := H.nk.e0; have e1 := H.nk.e1; have eT := H.nk.eT; have hT := H.hT
  unfold pk
  dsimp only
  have hm : ∀ z : Int, s * T + x.1 * ((2 ^ (p - 1) : Nat) : Int) + x.2.1 = s * T + mg p x := fun _ => by unfold mg; omega
  rw [hm 0]
  generalize mg p x = y at *
  rcases hs with rfl | rfl
  · rw [Int.zero_mul, Int.zero_add, w64_id (by omega) (by omega), if_neg (by decide)]
    unfold nj
    by_cases c : y = 0
    · rw [if_neg (by omega), if_pos c, c]; rfl
    · rw [if_neg (by omega), if_neg c]
  · rw [Int.one_mul, if_pos rfl]
    unfold nj
    by_cases c : y = 0
    · rw [if_neg (by omega), if_pos (by omega), c, Int.add_zero]; rfl
    · rw [if_pos (by omega), Int.neg_neg, w64_id (n := y) (by omega) (by omega)]
theorem cmp_nj (k : Nat) (u1 u2 : Bool) {y1 y2 : Int} (a0 : -E ≤ y1) (a1 : y1 ≤ E) (b0 : -E ≤ y2) (b1 : y2 ≤ E) : float_Compare.f (k + 6) kind (nj T u1 y1) (nj T u2 y2) = some (cmp3 y1 y2) := by
  obtain ⟨v1, q1, r1⟩ := H.nk.vn u1 y1 a0 a1
  obtain ⟨v2, q2, r2⟩ := H.nk.vn u2 y2 b0 b1
  rw [H.nk.cmp k _ _ v1 v2 r1 r2, q1, q2]
theorem nj_ne (u1 u2 : Bool) {y1 y2 : Int} (a0 : -E ≤ y1) (a1 : y1 ≤ E) (b0 : -E ≤ y2) (b1 : y2 ≤ E) (h : nj T u1 y1 = nj T u2 y2) : y1 = y2 := by
  have q1 := (H.nk.vn u1 y1 a0 a1).2.1
  have q2 := (H.nk.vn u2 y2 b0 b1).2.1
  rw [h] at q1
  rw [← q1, q2]
theorem cmp_q (k : Nat) : float_Compare.f (k + 6) kind (qn p bias) (qn p bias) = some (2, 0) := by
  unfold float_Compare.f
  rw [show k + 6 = (k + 3) + 3 from rfl, H.nk.two (k + 3) _ _ H.qv H.qv, bs]
  have hok : (twv (p : Int) w (rdv P W l o (wd (qn p bias))) (rdv P W l o (wd (qn p bias)))).2.2.2.2.2.2.2.2.2.2 = true := by simp only [twv, rdv_ok]; rfl
  rw [if_pos hok, if_pos (show (twv (p : Int) w (rdv P W l o (wd (qn p bias))) (rdv P W l o (wd (qn p bias)))).2.2.1 = 3 from H.q3)]
  simp only [float_Compare.j0, if_true]
/-- What is asked of two results. -/
def Pair (k : Nat) (kind : Int) (r2 r3 : Int × Int) : Prop := ∃ c, float_Compare.f (k + 6) kind r2.1 r3.1 = some (c, 0) ∧ c ≠ 1 ∧ (r2.1 = r3.1 → Go.bits .and .i64 (Go.bits .or .i64 r2.2 r3.2) 16 = 0)
omit H in
theorem cmp3_le {a b : Int} (h : a ≤ b) : ∃ c, cmp3 a b = (c, 0) ∧ c ≠ 1 := by
  unfold cmp3
  by_cases g : a < b
  · rw [if_pos g]; exact ⟨_, rfl, by decide⟩
  · rw [if_neg g, if_neg (by omega)]; exact ⟨_, rfl, by decide⟩
theorem trio_pair (k : Nat) {A : Int → Option (Int × Int)} (h : Trio p bias T A) : ∃ r2 r3, A 2 = some r2 ∧ A 3 = some r3 ∧ Pair k kind r2 r3 := by
  have e0 := H.nk.e0; have e1 := H.nk.e1; have eT := H.nk.eT; have hT := H.hT
  have hb0 := H.pk.b0
  have hp0 := H.pk.p0
  have fl0 : Go.bits .and .i64 (Go.bits .or .i64 0 0) 16 = 0 := by decide +kernel
  have njz : ∀ s : Int, s = 0 ∨ s = 1 → wrap64 (s * T) = nj T (decide (s = 1)) 0 := by
    intro s hs
    rcases hs with rfl | rfl
    · rw [Int.zero_mul, show decide ((0 : Int) = 1) = false by decide]; show wrap64 0 = 0; decide +kernel
    · rw [Int.one_mul]; rfl
  rcases h with ⟨r, hf, hv, hA⟩ | hA | ⟨s, e, N, more, hs, hN, hA⟩
  · refine ⟨r, r, hA 2 (by decide), hA 3 (by decide), ?_⟩
    have hfl : Go.bits .and .i64 (Go.bits .or .i64 r.2 r.2) 16 = 0 := by rcases hf with hf | hf | hf <;> rw [hf] <;> decide +kernel
    rcases hv with hv | ⟨s, hs, hv | hv⟩
    · refine ⟨2, by rw [hv]; exact cmp_q H k, by decide, fun _ => hfl⟩
    · have e : r.1 = nj T (decide (s = 1)) (if s = 1 then -E else E) := by
        have g := pk_nj H hs (x := (2 * bias + 1, 0, 0)) (by unfold mg; dsimp only; rw [← H.hE]; omega) (by unfold mg; dsimp only; rw [← H.hE]; omega)
        rw [hv, show mg p (2 * bias + 1, 0, 0) = E by unfold mg; dsimp only; rw [← H.hE]; omega] at *
        exact g
      refine ⟨0, ?_, by decide, fun _ => hfl⟩
      rw [e]
      rcases hs with rfl | rfl
      · rw [if_neg (by decide), cmp_nj H k _ _ (by omega) (by omega) (by omega) (by omega)]; unfold cmp3; simp
      · rw [if_pos rfl, cmp_nj H k _ _ (by omega) (by omega) (by omega) (by omega)]; unfold cmp3; simp
    · refine ⟨0, ?_, by decide, fun _ => hfl⟩
      rw [hv, njz s hs, cmp_nj H k _ _ (by omega) (by omega) (by omega) (by omega)]; rfl
  · refine ⟨_, _, hA 2 (by decide), hA 3 (by decide), 0, ?_, by decide, fun _ => fl0⟩
    dsimp only
    rw [if_pos rfl, if_neg (by decide), njz 1 (.inr rfl), njz 0 (.inl rfl), cmp_nj H k _ _ (by omega) (by omega) (by omega) (by omega)]; rfl
  · refine ⟨_, _, hA 2 (by decide), hA 3 (by decide), ?_⟩
    obtain ⟨m1, m2, m3⟩ := spl_bd p (by omega) (2 - bias - p) N hN e more
    have key : ∀ dn up : Int, (∀ odd c, away dn s odd c = false) → (∀ odd c, away up s odd c = decide (0 < c)) → (dn = 1 ∨ (dn = 2 ∧ s = 0) ∨ (dn = 3 ∧ s = 1)) → (¬ (up = 1 ∨ (up = 2 ∧ s = 0) ∨ (up = 3 ∧ s = 1))) →
        ((R p bias dn s N e more = R p bias up s N e more ∧ (R p bias dn s N e more).2.2 = 0) ∨ mg p (R p bias up s N e more) = mg p (R p bias dn s N e more) + 1) ∧ 0 ≤ mg p (R p bias dn s N e more) ∧ mg p (R p bias up s N e more) ≤ E := by
      intro dn up h1 h2 h3 h4
      rw [H.hE]
      exact fin_step p (by omega) bias s (by omega) _ _ _ _ m1 m2 m3 dn up (fun odd => h1 odd _) (fun odd => h2 odd _) h3 h4
    rcases hs with rfl | rfl
    · obtain ⟨a1, a2, a3⟩ := key 2 3 (fun odd c => by unfold away; simp) (fun odd c => by unfold away; simp) (.inr (.inl ⟨rfl, rfl⟩)) (by decide)
      generalize R p bias 2 0 N e more = x2 at *
      generalize R p bias 3 0 N e more = x3 at *
      have le : mg p x2 ≤ mg p x3 := by rcases a1 with ⟨rfl, _⟩ | h <;> omega
      have g2 := pk_nj H (.inl rfl) (x := x2) a2 (by omega)
      have g3 := pk_nj H (.inl rfl) (x := x3) (by omega) a3
      rw [if_neg (by decide)] at g2 g3
      obtain ⟨c, hc, hc1⟩ := cmp3_le le
      refine ⟨c, by rw [g2, g3, cmp_nj H k _ _ (by omega) (by omega) (by omega) (by omega), hc], hc1, fun heq => ?_⟩
      rw [g2, g3] at heq
      have := nj_ne H _ _ (by omega) (by omega) (by omega) (by omega) heq
      rcases a1 with ⟨rfl, hz⟩ | h
      · show Go.bits .and .i64 (Go.bits .or .i64 x2.2.2 x2.2.2) 16 = 0
        rw [hz]; exact fl0
      · omega
    · obtain ⟨a1, a2, a3⟩ := key 3 2 (fun odd c => by unfold away; simp) (fun odd c => by unfold away; simp) (.inr (.inr ⟨rfl, rfl⟩)) (by decide)
      generalize R p bias 2 1 N e more = x2 at *
      generalize R p bias 3 1 N e more = x3 at *
      have le : mg p x3 ≤ mg p x2 := by rcases a1 with ⟨rfl, _⟩ | h <;> omega
      have g2 := pk_nj H (.inr rfl) (x := x2) (by omega) a3
      have g3 := pk_nj H (.inr rfl) (x := x3) a2 (by omega)
      rw [if_pos rfl] at g2 g3
      obtain ⟨c, hc, hc1⟩ := cmp3_le (show -mg p x2 ≤ -mg p x3 by omega)
      refine ⟨c, by rw [g2, g3, cmp_nj H k _ _ (by omega) (by omega) (by omega) (by omega), hc], hc1, fun heq => ?_⟩
      rw [g2, g3] at heq
      have := nj_ne H _ _ (by omega) (by omega) (by omega) (by omega) heq
      rcases a1 with ⟨rfl, hz⟩ | h
      · show Go.bits .and .i64 (Go.bits .or .i64 x3.2.2 x3.2.2) 16 = 0
        rw [hz]; exact fl0
      · omega
end
theorem xcomm {s t : Int} (hs : s = 0 ∨ s = 1) (ht : t = 0 ∨ t = 1) : Go.bits .xor .i64 s t = Go.bits .xor .i64 t s := by
  rcases hs with rfl | rfl <;> rcases ht with rfl | rfl <;> rfl
theorem mul64c (m n : Int) : bits_Mul64.f m n = bits_Mul64.f n m := by
  unfold bits_Mul64.f
  by_cases h : (0 ≤ m ∧ m ≤ 18446744073709551615) ∧ 0 ≤ n ∧ n ≤ 18446744073709551615
  · rw [if_pos h, if_pos ⟨h.2, h.1⟩, Nat.mul_comm]
  · rw [if_neg h, if_neg (fun g => h ⟨g.2, g.1⟩)]
section
variable {V : Int → Prop} {kind w bias T P W l o E : Int} {p : Nat} (H : MK V kind p w bias T P W l o E)
include H
theorem flag_ok (a b : Int) : (twv (p : Int) w (rdv P W l o (wd a)) (rdv P W l o (wd b))).2.2.2.2.2.2.2.2.2.2 = true := by have _ := H.nk.e0; simp only [twv, rdv_ok]; rfl
theorem mul_swap (k : Nat) (mode a b : Int) (m0 : 0 ≤ mode) (m1 : mode < 4) (ha : V a) (hb : V b) : float_Mul.f (k + 6) kind mode a b = float_Mul.f (k + 6) kind mode b a := by
  unfold float_Mul.f
  rw [show k + 6 = (k + 3) + 3 from rfl, H.two (k + 3) mode a b m0 m1 ha hb, bs, H.two (k + 3) mode b a m0 m1 hb ha, bs, if_pos (flag_ok H a b), if_pos (flag_ok H b a)]
  have vx := H.view a
  have vy := H.view b
  generalize rdv P W l o (wd a) = x at *
  generalize rdv P W l o (wd b) = y at *
  generalize tkv P W l o (wd a) = x' at *
  generalize tkv P W l o (wd b) = y' at *
  cases vx with
  | none s hs =>
    cases vy with
    | none t ht => simp only [twv, if_true, if_false, Bool.false_eq_true, float_Mul.j0, float_Mul.j1, float_Mul.j2, float_Mul.j3, mq_0_0, mb_0_0, mn_0_0, mq_0_1, mb_0_1, mn_0_1, mq_0_2, mb_0_2, mn_0_2, mq_0_3, mb_0_3, mn_0_3, mq_1_0, mb_1_0, mn_1_0, mq_1_1, mb_1_1, mn_1_1, mq_1_2, mb_1_2, mn_1_2, mq_1_3, mb_1_3, mn_1_3, mq_2_0, mb_2_0, mn_2_0, mq_2_1, mb_2_1, mn_2_1, mq_2_2, mb_2_2, mn_2_2, mq_2_3, mb_2_3, mn_2_3, mq_3_0, mb_3_0, mn_3_0, mq_3_1, mb_3_1, mn_3_1, mq_3_2, mb_3_2, mn_3_2, mq_3_3, mb_3_3, mn_3_3, ml_None_None, mlb_None_None, ml_None_Inf, mlb_None_Inf, ml_None_Zero, mlb_None_Zero, ml_Inf_None, mlb_Inf_None, ml_Inf_Inf, mlb_Inf_Inf, ml_Inf_Zero, mlb_Inf_Zero, ml_Zero_None, mlb_Zero_None, ml_Zero_Inf, mlb_Zero_Inf, ml_Zero_Zero, mlb_Zero_Zero, ml_Fin_None, mlb_Fin_None, ml_Fin_Inf, mlb_Fin_Inf, ml_Fin_Zero, mlb_Fin_Zero]
    | inf t ht => simp only [twv, if_true, if_false, Bool.false_eq_true, float_Mul.j0, float_Mul.j1, float_Mul.j2, float_Mul.j3, mq_0_0, mb_0_0, mn_0_0, mq_0_1, mb_0_1, mn_0_1, mq_0_2, mb_0_2, mn_0_2, mq_0_3, mb_0_3, mn_0_3, mq_1_0, mb_1_0, mn_1_0, mq_1_1, mb_1_1, mn_1_1, mq_1_2, mb_1_2, mn_1_2, mq_1_3, mb_1_3, mn_1_3, mq_2_0, mb_2_0, mn_2_0, mq_2_1, mb_2_1, mn_2_1, mq_2_2, mb_2_2, mn_2_2, mq_2_3, mb_2_3, mn_2_3, mq_3_0, mb_3_0, mn_3_0, mq_3_1, mb_3_1, mn_3_1, mq_3_2, mb_3_2, mn_3_2, mq_3_3, mb_3_3, mn_3_3, ml_None_None, mlb_None_None, ml_None_Inf, mlb_None_Inf, ml_None_Zero, mlb_None_Zero, ml_Inf_None, mlb_Inf_None, ml_Inf_Inf, mlb_Inf_Inf, ml_Inf_Zero, mlb_Inf_Zero, ml_Zero_None, mlb_Zero_None, ml_Zero_Inf, mlb_Zero_Inf, ml_Zero_Zero, mlb_Zero_Zero, ml_Fin_None, mlb_Fin_None, ml_Fin_Inf, mlb_Fin_Inf, ml_Fin_Zero, mlb_Fin_Zero]
    | zero t ht => simp only [twv, if_true, if_false, Bool.false_eq_true, float_Mul.j0, float_Mul.j1, float_Mul.j2, float_Mul.j3, mq_0_0, mb_0_0, mn_0_0, mq_0_1, mb_0_1, mn_0_1, mq_0_2, mb_0_2, mn_0_2, mq_0_3, mb_0_3, mn_0_3, mq_1_0, mb_1_0, mn_1_0, mq_1_1, mb_1_1, mn_1_1, mq_1_2, mb_1_2, mn_1_2, mq_1_3, mb_1_3, mn_1_3, mq_2_0, mb_2_0, mn_2_0, mq_2_1, mb_2_1, mn_2_1, mq_2_2, mb_2_2, mn_2_2, mq_2_3, mb_2_3, mn_2_3, mq_3_0, mb_3_0, mn_3_0, mq_3_1, mb_3_1, mn_3_1, mq_3_2, mb_3_2, mn_3_2, mq_3_3, mb_3_3, mn_3_3, ml_None_None, mlb_None_None, ml_None_Inf, mlb_None_Inf, ml_None_Zero, mlb_None_Zero, ml_Inf_None, mlb_Inf_None, ml_Inf_Inf, mlb_Inf_Inf, ml_Inf_Zero, mlb_Inf_Zero, ml_Zero_None, mlb_Zero_None, ml_Zero_Inf, mlb_Zero_Inf, ml_Zero_Zero, mlb_Zero_Zero, ml_Fin_None, mlb_Fin_None, ml_Fin_Inf, mlb_Fin_Inf, ml_Fin_Zero, mlb_Fin_Zero]
    | fin t ht n f hn0 hn1 hf0 hf1 hly => simp only [twv, if_true, if_false, Bool.false_eq_true, float_Mul.j0, float_Mul.j1, float_Mul.j2, float_Mul.j3, mq_0_0, mb_0_0, mn_0_0, mq_0_1, mb_0_1, mn_0_1, mq_0_2, mb_0_2, mn_0_2, mq_0_3, mb_0_3, mn_0_3, mq_1_0, mb_1_0, mn_1_0, mq_1_1, mb_1_1, mn_1_1, mq_1_2, mb_1_2, mn_1_2, mq_1_3, mb_1_3, mn_1_3, mq_2_0, mb_2_0, mn_2_0, mq_2_1, mb_2_1, mn_2_1, mq_2_2, mb_2_2, mn_2_2, mq_2_3, mb_2_3, mn_2_3, mq_3_0, mb_3_0, mn_3_0, mq_3_1, mb_3_1, mn_3_1, mq_3_2, mb_3_2, mn_3_2, mq_3_3, mb_3_3, mn_3_3, ml_None_None, mlb_None_None, ml_None_Inf, mlb_None_Inf, ml_None_Zero, mlb_None_Zero, ml_Inf_None, mlb_Inf_None, ml_Inf_Inf, mlb_Inf_Inf, ml_Inf_Zero, mlb_Inf_Zero, ml_Zero_None, mlb_Zero_None, ml_Zero_Inf, mlb_Zero_Inf, ml_Zero_Zero, mlb_Zero_Zero, ml_Fin_None, mlb_Fin_None, ml_Fin_Inf, mlb_Fin_Inf, ml_Fin_Zero, mlb_Fin_Zero]
  | inf s hs =>
    cases vy with
    | none t ht => simp only [twv, if_true, if_false, Bool.false_eq_true, float_Mul.j0, float_Mul.j1, float_Mul.j2, float_Mul.j3, mq_0_0, mb_0_0, mn_0_0, mq_0_1, mb_0_1, mn_0_1, mq_0_2, mb_0_2, mn_0_2, mq_0_3, mb_0_3, mn_0_3, mq_1_0, mb_1_0, mn_1_0, mq_1_1, mb_1_1, mn_1_1, mq_1_2, mb_1_2, mn_1_2, mq_1_3, mb_1_3, mn_1_3, mq_2_0, mb_2_0, mn_2_0, mq_2_1, mb_2_1, mn_2_1, mq_2_2, mb_2_2, mn_2_2, mq_2_3, mb_2_3, mn_2_3, mq_3_0, mb_3_0, mn_3_0, mq_3_1, mb_3_1, mn_3_1, mq_3_2, mb_3_2, mn_3_2, mq_3_3, mb_3_3, mn_3_3, ml_None_None, mlb_None_None, ml_None_Inf, mlb_None_Inf, ml_None_Zero, mlb_None_Zero, ml_Inf_None, mlb_Inf_None, ml_Inf_Inf, mlb_Inf_Inf, ml_Inf_Zero, mlb_Inf_Zero, ml_Zero_None, mlb_Zero_None, ml_Zero_Inf, mlb_Zero_Inf, ml_Zero_Zero, mlb_Zero_Zero, ml_Fin_None, mlb_Fin_None, ml_Fin_Inf, mlb_Fin_Inf, ml_Fin_Zero, mlb_Fin_Zero]
    | inf t ht => (simp only [twv, if_true, if_false, Bool.false_eq_true, float_Mul.j0, float_Mul.j1, float_Mul.j2, float_Mul.j3, mq_0_0, mb_0_0, mn_0_0, mq_0_1, mb_0_1, mn_0_1, mq_0_2, mb_0_2, mn_0_2, mq_0_3, mb_0_3, mn_0_3, mq_1_0, mb_1_0, mn_1_0, mq_1_1, mb_1_1, mn_1_1, mq_1_2, mb_1_2, mn_1_2, mq_1_3, mb_1_3, mn_1_3, mq_2_0, mb_2_0, mn_2_0, mq_2_1, mb_2_1, mn_2_1, mq_2_2, mb_2_2, mn_2_2, mq_2_3, mb_2_3, mn_2_3, mq_3_0, mb_3_0, mn_3_0, mq_3_1, mb_3_1, mn_3_1, mq_3_2, mb_3_2, mn_3_2, mq_3_3, mb_3_3, mn_3_3, ml_None_None, mlb_None_None, ml_None_Inf, mlb_None_Inf, ml_None_Zero, mlb_None_Zero, ml_Inf_None, mlb_Inf_None, ml_Inf_Inf, mlb_Inf_Inf, ml_Inf_Zero, mlb_Inf_Zero, ml_Zero_None, mlb_Zero_None, ml_Zero_Inf, mlb_Zero_Inf, ml_Zero_Zero, mlb_Zero_Zero, ml_Fin_None, mlb_Fin_None, ml_Fin_Inf, mlb_Fin_Inf, ml_Fin_Zero, mlb_Fin_Zero]); (try rw [xcomm hs ht])
    | zero t ht => (simp only [twv, if_true, if_false, Bool.false_eq_true, float_Mul.j0, float_Mul.j1, float_Mul.j2, float_Mul.j3, mq_0_0, mb_0_0, mn_0_0, mq_0_1, mb_0_1, mn_0_1, mq_0_2, mb_0_2, mn_0_2, mq_0_3, mb_0_3, mn_0_3, mq_1_0, mb_1_0, mn_1_0, mq_1_1, mb_1_1, mn_1_1, mq_1_2, mb_1_2, mn_1_2, mq_1_3, mb_1_3, mn_1_3, mq_2_0, mb_2_0, mn_2_0, mq_2_1, mb_2_1, mn_2_1, mq_2_2, mb_2_2, mn_2_2, mq_2_3, mb_2_3, mn_2_3, mq_3_0, mb_3_0, mn_3_0, mq_3_1, mb_3_1, mn_3_1, mq_3_2, mb_3_2, mn_3_2, mq_3_3, mb_3_3, mn_3_3, ml_None_None, mlb_None_None, ml_None_Inf, mlb_None_Inf, ml_None_Zero, mlb_None_Zero, ml_Inf_None, mlb_Inf_None, ml_Inf_Inf, mlb_Inf_Inf, ml_Inf_Zero, mlb_Inf_Zero, ml_Zero_None, mlb_Zero_None, ml_Zero_Inf, mlb_Zero_Inf, ml_Zero_Zero, mlb_Zero_Zero, ml_Fin_None, mlb_Fin_None, ml_Fin_Inf, mlb_Fin_Inf, ml_Fin_Zero, mlb_Fin_Zero]); (try rw [xcomm hs ht])
    | fin t ht n f hn0 hn1 hf0 hf1 hly => (simp only [twv, if_true, if_false, Bool.false_eq_true, float_Mul.j0, float_Mul.j1, float_Mul.j2, float_Mul.j3, mq_0_0, mb_0_0, mn_0_0, mq_0_1, mb_0_1, mn_0_1, mq_0_2, mb_0_2, mn_0_2, mq_0_3, mb_0_3, mn_0_3, mq_1_0, mb_1_0, mn_1_0, mq_1_1, mb_1_1, mn_1_1, mq_1_2, mb_1_2, mn_1_2, mq_1_3, mb_1_3, mn_1_3, mq_2_0, mb_2_0, mn_2_0, mq_2_1, mb_2_1, mn_2_1, mq_2_2, mb_2_2, mn_2_2, mq_2_3, mb_2_3, mn_2_3, mq_3_0, mb_3_0, mn_3_0, mq_3_1, mb_3_1, mn_3_1, mq_3_2, mb_3_2, mn_3_2, mq_3_3, mb_3_3, mn_3_3, ml_None_None, mlb_None_None, ml_None_Inf, mlb_None_Inf, ml_None_Zero, mlb_None_Zero, ml_Inf_None, mlb_Inf_None, ml_Inf_Inf, mlb_Inf_Inf, ml_Inf_Zero, mlb_Inf_Zero, ml_Zero_None, mlb_Zero_None, ml_Zero_Inf, mlb_Zero_Inf, ml_Zero_Zero, mlb_Zero_Zero, ml_Fin_None, mlb_Fin_None, ml_Fin_Inf, mlb_Fin_Inf, ml_Fin_Zero, mlb_Fin_Zero]); (try rw [xcomm hs ht])
  | zero s hs =>
    cases vy with
    | none t ht => simp only [twv, if_true, if_false, Bool.false_eq_true, float_Mul.j0, float_Mul.j1, float_Mul.j2, float_Mul.j3, mq_0_0, mb_0_0, mn_0_0, mq_0_1, mb_0_1, mn_0_1, mq_0_2, mb_0_2, mn_0_2, mq_0_3, mb_0_3, mn_0_3, mq_1_0, mb_1_0, mn_1_0, mq_1_1, mb_1_1, mn_1_1, mq_1_2, mb_1_2, mn_1_2, mq_1_3, mb_1_3, mn_1_3, mq_2_0, mb_2_0, mn_2_0, mq_2_1, mb_2_1, mn_2_1, mq_2_2, mb_2_2, mn_2_2, mq_2_3, mb_2_3, mn_2_3, mq_3_0, mb_3_0, mn_3_0, mq_3_1, mb_3_1, mn_3_1, mq_3_2, mb_3_2, mn_3_2, mq_3_3, mb_3_3, mn_3_3, ml_None_None, mlb_None_None, ml_None_Inf, mlb_None_Inf, ml_None_Zero, mlb_None_Zero, ml_Inf_None, mlb_Inf_None, ml_Inf_Inf, mlb_Inf_Inf, ml_Inf_Zero, mlb_Inf_Zero, ml_Zero_None, mlb_Zero_None, ml_Zero_Inf, mlb_Zero_Inf, ml_Zero_Zero, mlb_Zero_Zero, ml_Fin_None, mlb_Fin_None, ml_Fin_Inf, mlb_Fin_Inf, ml_Fin_Zero, mlb_Fin_Zero]
    | inf t ht => (simp only [twv, if_true, if_false, Bool.false_eq_true, float_Mul.j0, float_Mul.j1, float_Mul.j2, float_Mul.j3, mq_0_0, mb_0_0, mn_0_0, mq_0_1, mb_0_1, mn_0_1, mq_0_2, mb_0_2, mn_0_2, mq_0_3, mb_0_3, mn_0_3, mq_1_0, mb_1_0, mn_1_0, mq_1_1, mb_1_1, mn_1_1, mq_1_2, mb_1_2, mn_1_2, mq_1_3, mb_1_3, mn_1_3, mq_2_0, mb_2_0, mn_2_0, mq_2_1, mb_2_1, mn_2_1, mq_2_2, mb_2_2, mn_2_2, mq_2_3, mb_2_3, mn_2_3, mq_3_0, mb_3_0, mn_3_0, mq_3_1, mb_3_1, mn_3_1, mq_3_2, mb_3_2, mn_3_2, mq_3_3, mb_3_3, mn_3_3, ml_None_None, mlb_None_None, ml_None_Inf, mlb_None_Inf, ml_None_Zero, mlb_None_Zero, ml_Inf_None, mlb_Inf_None, ml_Inf_Inf, mlb_Inf_Inf, ml_Inf_Zero, mlb_Inf_Zero, ml_Zero_None, mlb_Zero_None, ml_Zero_Inf, mlb_Zero_Inf, ml_Zero_Zero, mlb_Zero_Zero, ml_Fin_None, mlb_Fin_None, ml_Fin_Inf, mlb_Fin_Inf, ml_Fin_Zero, mlb_Fin_Zero]); (try rw [xcomm hs ht])
    | zero t ht => (simp only [twv, if_true, if_false, Bool.false_eq_true, float_Mul.j0, float_Mul.j1, float_Mul.j2, float_Mul.j3, mq_0_0, mb_0_0, mn_0_0, mq_0_1, mb_0_1, mn_0_1, mq_0_2, mb_0_2, mn_0_2, mq_0_3, mb_0_3, mn_0_3, mq_1_0, mb_1_0, mn_1_0, mq_1_1, mb_1_1, mn_1_1, mq_1_2, mb_1_2, mn_1_2, mq_1_3, mb_1_3, mn_1_3, mq_2_0, mb_2_0, mn_2_0, mq_2_1, mb_2_1, mn_2_1, mq_2_2, mb_2_2, mn_2_2, mq_2_3, mb_2_3, mn_2_3, mq_3_0, mb_3_0, mn_3_0, mq_3_1, mb_3_1, mn_3_1, mq_3_2, mb_3_2, mn_3_2, mq_3_3, mb_3_3, mn_3_3, ml_None_None, mlb_None_None, ml_None_Inf, mlb_None_Inf, ml_None_Zero, mlb_None_Zero, ml_Inf_None, mlb_Inf_None, ml_Inf_Inf, mlb_Inf_Inf, ml_Inf_Zero, mlb_Inf_Zero, ml_Zero_None, mlb_Zero_None, ml_Zero_Inf, mlb_Zero_Inf, ml_Zero_Zero, mlb_Zero_Zero, ml_Fin_None, mlb_Fin_None, ml_Fin_Inf, mlb_Fin_Inf, ml_Fin_Zero, mlb_Fin_Zero]); (try rw [xcomm hs ht])
    | fin t ht n f hn0 hn1 hf0 hf1 hly => (simp only [twv, if_true, if_false, Bool.false_eq_true, float_Mul.j0, float_Mul.j1, float_Mul.j2, float_Mul.j3, mq_0_0, mb_0_0, mn_0_0, mq_0_1, mb_0_1, mn_0_1, mq_0_2, mb_0_2, mn_0_2, mq_0_3, mb_0_3, mn_0_3, mq_1_0, mb_1_0, mn_1_0, mq_1_1, mb_1_1, mn_1_1, mq_1_2, mb_1_2, mn_1_2, mq_1_3, mb_1_3, mn_1_3, mq_2_0, mb_2_0, mn_2_0, mq_2_1, mb_2_1, mn_2_1, mq_2_2, mb_2_2, mn_2_2, mq_2_3, mb_2_3, mn_2_3, mq_3_0, mb_3_0, mn_3_0, mq_3_1, mb_3_1, mn_3_1, mq_3_2, mb_3_2, mn_3_2, mq_3_3, mb_3_3, mn_3_3, ml_None_None, mlb_None_None, ml_None_Inf, mlb_None_Inf, ml_None_Zero, mlb_None_Zero, ml_Inf_None, mlb_Inf_None, ml_Inf_Inf, mlb_Inf_Inf, ml_Inf_Zero, mlb_Inf_Zero, ml_Zero_None, mlb_Zero_None, ml_Zero_Inf, mlb_Zero_Inf, ml_Zero_Zero, mlb_Zero_Zero, ml_Fin_None, mlb_Fin_None, ml_Fin_Inf, mlb_Fin_Inf, ml_Fin_Zero, mlb_Fin_Zero]); (try rw [xcomm hs ht])
  | fin s hs m e hm0 hm1 he0 he1 hlx =>
    cases vy with
    | none t ht => simp only [twv, if_true, if_false, Bool.false_eq_true, float_Mul.j0, float_Mul.j1, float_Mul.j2, float_Mul.j3, mq_0_0, mb_0_0, mn_0_0, mq_0_1, mb_0_1, mn_0_1, mq_0_2, mb_0_2, mn_0_2, mq_0_3, mb_0_3, mn_0_3, mq_1_0, mb_1_0, mn_1_0, mq_1_1, mb_1_1, mn_1_1, mq_1_2, mb_1_2, mn_1_2, mq_1_3, mb_1_3, mn_1_3, mq_2_0, mb_2_0, mn_2_0, mq_2_1, mb_2_1, mn_2_1, mq_2_2, mb_2_2, mn_2_2, mq_2_3, mb_2_3, mn_2_3, mq_3_0, mb_3_0, mn_3_0, mq_3_1, mb_3_1, mn_3_1, mq_3_2, mb_3_2, mn_3_2, mq_3_3, mb_3_3, mn_3_3, ml_None_None, mlb_None_None, ml_None_Inf, mlb_None_Inf, ml_None_Zero, mlb_None_Zero, ml_Inf_None, mlb_Inf_None, ml_Inf_Inf, mlb_Inf_Inf, ml_Inf_Zero, mlb_Inf_Zero, ml_Zero_None, mlb_Zero_None, ml_Zero_Inf, mlb_Zero_Inf, ml_Zero_Zero, mlb_Zero_Zero, ml_Fin_None, mlb_Fin_None, ml_Fin_Inf, mlb_Fin_Inf, ml_Fin_Zero, mlb_Fin_Zero]
    | inf t ht => (simp only [twv, if_true, if_false, Bool.false_eq_true, float_Mul.j0, float_Mul.j1, float_Mul.j2, float_Mul.j3, mq_0_0, mb_0_0, mn_0_0, mq_0_1, mb_0_1, mn_0_1, mq_0_2, mb_0_2, mn_0_2, mq_0_3, mb_0_3, mn_0_3, mq_1_0, mb_1_0, mn_1_0, mq_1_1, mb_1_1, mn_1_1, mq_1_2, mb_1_2, mn_1_2, mq_1_3, mb_1_3, mn_1_3, mq_2_0, mb_2_0, mn_2_0, mq_2_1, mb_2_1, mn_2_1, mq_2_2, mb_2_2, mn_2_2, mq_2_3, mb_2_3, mn_2_3, mq_3_0, mb_3_0, mn_3_0, mq_3_1, mb_3_1, mn_3_1, mq_3_2, mb_3_2, mn_3_2, mq_3_3, mb_3_3, mn_3_3, ml_None_None, mlb_None_None, ml_None_Inf, mlb_None_Inf, ml_None_Zero, mlb_None_Zero, ml_Inf_None, mlb_Inf_None, ml_Inf_Inf, mlb_Inf_Inf, ml_Inf_Zero, mlb_Inf_Zero, ml_Zero_None, mlb_Zero_None, ml_Zero_Inf, mlb_Zero_Inf, ml_Zero_Zero, mlb_Zero_Zero, ml_Fin_None, mlb_Fin_None, ml_Fin_Inf, mlb_Fin_Inf, ml_Fin_Zero, mlb_Fin_Zero]); (try rw [xcomm hs ht])
    | zero t ht => (simp only [twv, if_true, if_false, Bool.false_eq_true, float_Mul.j0, float_Mul.j1, float_Mul.j2, float_Mul.j3, mq_0_0, mb_0_0, mn_0_0, mq_0_1, mb_0_1, mn_0_1, mq_0_2, mb_0_2, mn_0_2, mq_0_3, mb_0_3, mn_0_3, mq_1_0, mb_1_0, mn_1_0, mq_1_1, mb_1_1, mn_1_1, mq_1_2, mb_1_2, mn_1_2, mq_1_3, mb_1_3, mn_1_3, mq_2_0, mb_2_0, mn_2_0, mq_2_1, mb_2_1, mn_2_1, mq_2_2, mb_2_2, mn_2_2, mq_2_3, mb_2_3, mn_2_3, mq_3_0, mb_3_0, mn_3_0, mq_3_1, mb_3_1, mn_3_1, mq_3_2, mb_3_2, mn_3_2, mq_3_3, mb_3_3, mn_3_3, ml_None_None, mlb_None_None, ml_None_Inf, mlb_None_Inf, ml_None_Zero, mlb_None_Zero, ml_Inf_None, mlb_Inf_None, ml_Inf_Inf, mlb_Inf_Inf, ml_Inf_Zero, mlb_Inf_Zero, ml_Zero_None, mlb_Zero_None, ml_Zero_Inf, mlb_Zero_Inf, ml_Zero_Zero, mlb_Zero_Zero, ml_Fin_None, mlb_Fin_None, ml_Fin_Inf, mlb_Fin_Inf, ml_Fin_Zero, mlb_Fin_Zero]); (try rw [xcomm hs ht])
    | fin t ht n f hn0 hn1 hf0 hf1 hly => (simp only [twv, if_true, if_false, Bool.false_eq_true, float_Mul.j0, float_Mul.j1, float_Mul.j2, float_Mul.j3, mq_0_0, mb_0_0, mn_0_0, mq_0_1, mb_0_1, mn_0_1, mq_0_2, mb_0_2, mn_0_2, mq_0_3, mb_0_3, mn_0_3, mq_1_0, mb_1_0, mn_1_0, mq_1_1, mb_1_1, mn_1_1, mq_1_2, mb_1_2, mn_1_2, mq_1_3, mb_1_3, mn_1_3, mq_2_0, mb_2_0, mn_2_0, mq_2_1, mb_2_1, mn_2_1, mq_2_2, mb_2_2, mn_2_2, mq_2_3, mb_2_3, mn_2_3, mq_3_0, mb_3_0, mn_3_0, mq_3_1, mb_3_1, mn_3_1, mq_3_2, mb_3_2, mn_3_2, mq_3_3, mb_3_3, mn_3_3, ml_None_None, mlb_None_None, ml_None_Inf, mlb_None_Inf, ml_None_Zero, mlb_None_Zero, ml_Inf_None, mlb_Inf_None, ml_Inf_Inf, mlb_Inf_Inf, ml_Inf_Zero, mlb_Inf_Zero, ml_Zero_None, mlb_Zero_None, ml_Zero_Inf, mlb_Zero_Inf, ml_Zero_Zero, mlb_Zero_Zero, ml_Fin_None, mlb_Fin_None, ml_Fin_Inf, mlb_Fin_Inf, ml_Fin_Zero, mlb_Fin_Zero]); (try rw [xcomm hs ht]); rw [mul64c (m : Int) n, Int.add_comm e f]
theorem div_trio (k : Nat) (hk : 41000 ≤ k) (a b : Int) (ha : V a) (hb : V b) : ∃ A, Trio p bias T A ∧ ∀ mode, 0 ≤ mode ∧ mode ≤ 3 → float_Div.f (k + 6) kind mode a b = (A mode).bind fun r => some (r.1, r.2, 0) := by
  have hp := H.pk
  have hp1 := hp.p1; have kb0 := hp.b0; have kb1 := hp.b1; have hp0 := hp.p0
  have open_ : ∀ mode, 0 ≤ mode ∧ mode ≤ 3 → float_Div.f (k + 6) kind mode a b = (if (rdv P W l o (wd a)).1 = 3 then (float_Div.j0 (k + 6) mode (Go.bits .xor .i64 (rdv P W l o (wd a)).2.1 (rdv P W l o (wd b)).2.1) true (p : Int) w (rdv P W l o (wd a)).1 (rdv P W l o (wd a)).2.1 (rdv P W l o (wd a)).2.2.1 (rdv P W l o (wd a)).2.2.2.1 (rdv P W l o (wd b)).1 (rdv P W l o (wd b)).2.1 (rdv P W l o (wd b)).2.2.1 (rdv P W l o (wd b)).2.2.2.1) else (float_Div.j0 (k + 6) mode (Go.bits .xor .i64 (rdv P W l o (wd a)).2.1 (rdv P W l o (wd b)).2.1) ((rdv P W l o (wd b)).1 == 3) (p : Int) w (rdv P W l o (wd a)).1 (rdv P W l o (wd a)).2.1 (rdv P W l o (wd a)).2.2.1 (rdv P W l o (wd a)).2.2.2.1 (rdv P W l o (wd b)).1 (rdv P W l o (wd b)).2.1 (rdv P W l o (wd b)).2.2.1 (rdv P W l o (wd b)).2.2.2.1)) := by
    intro mode hm
    unfold float_Div.f
    rw [show k + 6 = (k + 3) + 3 from rfl, H.two (k + 3) mode a b hm.1 (by omega) ha hb, bs, if_pos (flag_ok H a b)]
    by_cases c : (rdv P W l o (wd a)).1 = 3
    · rw [if_pos c]; exact if_pos c
    · rw [if_neg c]; exact if_neg c
  have vx := H.view a
  have vy := H.view b
  generalize rdv P W l o (wd a) = x at *
  generalize rdv P W l o (wd b) = y at *
  generalize tkv P W l o (wd a) = x' at *
  generalize tkv P W l o (wd b) = y' at *
  cases vx with
  | none s hs =>
    cases vy with
    | none t ht =>
      dsimp only at open_
      refine ⟨fun _ => some (qn p bias, 0), .inl ⟨(qn p bias, 0), by simp, .inl rfl, fun _ _ => rfl⟩, fun mode hm => ?_⟩; rw [open_ mode hm]; simp only [twv, if_true, if_false, Bool.false_eq_true, float_Div.j0, float_Div.j1, float_Div.j2, mq_0_0, mb_0_0, mn_0_0, mq_0_1, mb_0_1, mn_0_1, mq_0_2, mb_0_2, mn_0_2, mq_0_3, mb_0_3, mn_0_3, mq_1_0, mb_1_0, mn_1_0, mq_1_1, mb_1_1, mn_1_1, mq_1_2, mb_1_2, mn_1_2, mq_1_3, mb_1_3, mn_1_3, mq_2_0, mb_2_0, mn_2_0, mq_2_1, mb_2_1, mn_2_1, mq_2_2, mb_2_2, mn_2_2, mq_2_3, mb_2_3, mn_2_3, mq_3_0, mb_3_0, mn_3_0, mq_3_1, mb_3_1, mn_3_1, mq_3_2, mb_3_2, mn_3_2, mq_3_3, mb_3_3, mn_3_3, ml_None_None, mlb_None_None, ml_None_Inf, mlb_None_Inf, ml_None_Zero, mlb_None_Zero, ml_Inf_None, mlb_Inf_None, ml_Inf_Inf, mlb_Inf_Inf, ml_Inf_Zero, mlb_Inf_Zero, ml_Zero_None, mlb_Zero_None, ml_Zero_Inf, mlb_Zero_Inf, ml_Zero_Zero, mlb_Zero_Zero, ml_Fin_None, mlb_Fin_None, ml_Fin_Inf, mlb_Fin_Inf, ml_Fin_Zero, mlb_Fin_Zero]; rw [hp.qui, bs]; rfl
    | inf t ht =>
      dsimp only at open_
      refine ⟨fun _ => some (qn p bias, 0), .inl ⟨(qn p bias, 0), by simp, .inl rfl, fun _ _ => rfl⟩, fun mode hm => ?_⟩; rw [open_ mode hm]; simp only [twv, if_true, if_false, Bool.false_eq_true, float_Div.j0, float_Div.j1, float_Div.j2, mq_0_0, mb_0_0, mn_0_0, mq_0_1, mb_0_1, mn_0_1, mq_0_2, mb_0_2, mn_0_2, mq_0_3, mb_0_3, mn_0_3, mq_1_0, mb_1_0, mn_1_0, mq_1_1, mb_1_1, mn_1_1, mq_1_2, mb_1_2, mn_1_2, mq_1_3, mb_1_3, mn_1_3, mq_2_0, mb_2_0, mn_2_0, mq_2_1, mb_2_1, mn_2_1, mq_2_2, mb_2_2, mn_2_2, mq_2_3, mb_2_3, mn_2_3, mq_3_0, mb_3_0, mn_3_0, mq_3_1, mb_3_1, mn_3_1, mq_3_2, mb_3_2, mn_3_2, mq_3_3, mb_3_3, mn_3_3, ml_None_None, mlb_None_None, ml_None_Inf, mlb_None_Inf, ml_None_Zero, mlb_None_Zero, ml_Inf_None, mlb_Inf_None, ml_Inf_Inf, mlb_Inf_Inf, ml_Inf_Zero, mlb_Inf_Zero, ml_Zero_None, mlb_Zero_None, ml_Zero_Inf, mlb_Zero_Inf, ml_Zero_Zero, mlb_Zero_Zero, ml_Fin_None, mlb_Fin_None, ml_Fin_Inf, mlb_Fin_Inf, ml_Fin_Zero, mlb_Fin_Zero]; rw [hp.qui, bs]; rfl
    | zero t ht =>
      dsimp only at open_
      refine ⟨fun _ => some (qn p bias, 0), .inl ⟨(qn p bias, 0), by simp, .inl rfl, fun _ _ => rfl⟩, fun mode hm => ?_⟩; rw [open_ mode hm]; simp only [twv, if_true, if_false, Bool.false_eq_true, float_Div.j0, float_Div.j1, float_Div.j2, mq_0_0, mb_0_0, mn_0_0, mq_0_1, mb_0_1, mn_0_1, mq_0_2, mb_0_2, mn_0_2, mq_0_3, mb_0_3, mn_0_3, mq_1_0, mb_1_0, mn_1_0, mq_1_1, mb_1_1, mn_1_1, mq_1_2, mb_1_2, mn_1_2, mq_1_3, mb_1_3, mn_1_3, mq_2_0, mb_2_0, mn_2_0, mq_2_1, mb_2_1, mn_2_1, mq_2_2, mb_2_2, mn_2_2, mq_2_3, mb_2_3, mn_2_3, mq_3_0, mb_3_0, mn_3_0, mq_3_1, mb_3_1, mn_3_1, mq_3_2, mb_3_2, mn_3_2, mq_3_3, mb_3_3, mn_3_3, ml_None_None, mlb_None_None, ml_None_Inf, mlb_None_Inf, ml_None_Zero, mlb_None_Zero, ml_Inf_None, mlb_Inf_None, ml_Inf_Inf, mlb_Inf_Inf, ml_Inf_Zero, mlb_Inf_Zero, ml_Zero_None, mlb_Zero_None, ml_Zero_Inf, mlb_Zero_Inf, ml_Zero_Zero, mlb_Zero_Zero, ml_Fin_None, mlb_Fin_None, ml_Fin_Inf, mlb_Fin_Inf, ml_Fin_Zero, mlb_Fin_Zero]; rw [hp.qui, bs]; rfl
    | fin t ht n f hn0 hn1 hf0 hf1 hly =>
      dsimp only at open_
      refine ⟨fun _ => some (qn p bias, 0), .inl ⟨(qn p bias, 0), by simp, .inl rfl, fun _ _ => rfl⟩, fun mode hm => ?_⟩; rw [open_ mode hm]; simp only [twv, if_true, if_false, Bool.false_eq_true, float_Div.j0, float_Div.j1, float_Div.j2, mq_0_0, mb_0_0, mn_0_0, mq_0_1, mb_0_1, mn_0_1, mq_0_2, mb_0_2, mn_0_2, mq_0_3, mb_0_3, mn_0_3, mq_1_0, mb_1_0, mn_1_0, mq_1_1, mb_1_1, mn_1_1, mq_1_2, mb_1_2, mn_1_2, mq_1_3, mb_1_3, mn_1_3, mq_2_0, mb_2_0, mn_2_0, mq_2_1, mb_2_1, mn_2_1, mq_2_2, mb_2_2, mn_2_2, mq_2_3, mb_2_3, mn_2_3, mq_3_0, mb_3_0, mn_3_0, mq_3_1, mb_3_1, mn_3_1, mq_3_2, mb_3_2, mn_3_2, mq_3_3, mb_3_3, mn_3_3, ml_None_None, mlb_None_None, ml_None_Inf, mlb_None_Inf, ml_None_Zero, mlb_None_Zero, ml_Inf_None, mlb_Inf_None, ml_Inf_Inf, mlb_Inf_Inf, ml_Inf_Zero, mlb_Inf_Zero, ml_Zero_None, mlb_Zero_None, ml_Zero_Inf, mlb_Zero_Inf, ml_Zero_Zero, mlb_Zero_Zero, ml_Fin_None, mlb_Fin_None, ml_Fin_Inf, mlb_Fin_Inf, ml_Fin_Zero, mlb_Fin_Zero]; rw [hp.qui, bs]; rfl
  | inf s hs =>
    cases vy with
    | none t ht =>
      dsimp only at open_
      refine ⟨fun _ => some (qn p bias, 0), .inl ⟨(qn p bias, 0), by simp, .inl rfl, fun _ _ => rfl⟩, fun mode hm => ?_⟩; rw [open_ mode hm]; simp only [twv, if_true, if_false, Bool.false_eq_true, float_Div.j0, float_Div.j1, float_Div.j2, mq_0_0, mb_0_0, mn_0_0, mq_0_1, mb_0_1, mn_0_1, mq_0_2, mb_0_2, mn_0_2, mq_0_3, mb_0_3, mn_0_3, mq_1_0, mb_1_0, mn_1_0, mq_1_1, mb_1_1, mn_1_1, mq_1_2, mb_1_2, mn_1_2, mq_1_3, mb_1_3, mn_1_3, mq_2_0, mb_2_0, mn_2_0, mq_2_1, mb_2_1, mn_2_1, mq_2_2, mb_2_2, mn_2_2, mq_2_3, mb_2_3, mn_2_3, mq_3_0, mb_3_0, mn_3_0, mq_3_1, mb_3_1, mn_3_1, mq_3_2, mb_3_2, mn_3_2, mq_3_3, mb_3_3, mn_3_3, ml_None_None, mlb_None_None, ml_None_Inf, mlb_None_Inf, ml_None_Zero, mlb_None_Zero, ml_Inf_None, mlb_Inf_None, ml_Inf_Inf, mlb_Inf_Inf, ml_Inf_Zero, mlb_Inf_Zero, ml_Zero_None, mlb_Zero_None, ml_Zero_Inf, mlb_Zero_Inf, ml_Zero_Zero, mlb_Zero_Zero, ml_Fin_None, mlb_Fin_None, ml_Fin_Inf, mlb_Fin_Inf, ml_Fin_Zero, mlb_Fin_Zero]; rw [hp.qui, bs]; rfl
    | inf t ht =>
      dsimp only at open_
      refine ⟨fun _ => some (qn p bias, 1), .inl ⟨(qn p bias, 1), by simp, .inl rfl, fun _ _ => rfl⟩, fun mode hm => ?_⟩; rw [open_ mode hm]; simp only [twv, if_true, if_false, Bool.false_eq_true, float_Div.j0, float_Div.j1, float_Div.j2, mq_0_0, mb_0_0, mn_0_0, mq_0_1, mb_0_1, mn_0_1, mq_0_2, mb_0_2, mn_0_2, mq_0_3, mb_0_3, mn_0_3, mq_1_0, mb_1_0, mn_1_0, mq_1_1, mb_1_1, mn_1_1, mq_1_2, mb_1_2, mn_1_2, mq_1_3, mb_1_3, mn_1_3, mq_2_0, mb_2_0, mn_2_0, mq_2_1, mb_2_1, mn_2_1, mq_2_2, mb_2_2, mn_2_2, mq_2_3, mb_2_3, mn_2_3, mq_3_0, mb_3_0, mn_3_0, mq_3_1, mb_3_1, mn_3_1, mq_3_2, mb_3_2, mn_3_2, mq_3_3, mb_3_3, mn_3_3, ml_None_None, mlb_None_None, ml_None_Inf, mlb_None_Inf, ml_None_Zero, mlb_None_Zero, ml_Inf_None, mlb_Inf_None, ml_Inf_Inf, mlb_Inf_Inf, ml_Inf_Zero, mlb_Inf_Zero, ml_Zero_None, mlb_Zero_None, ml_Zero_Inf, mlb_Zero_Inf, ml_Zero_Zero, mlb_Zero_Zero, ml_Fin_None, mlb_Fin_None, ml_Fin_Inf, mlb_Fin_Inf, ml_Fin_Zero, mlb_Fin_Zero]; rw [hp.qui, bs]; rfl
    | zero t ht =>
      obtain ⟨sg1, _, hsg⟩ := sgn hs ht
      dsimp only at open_
      rw [sg1] at open_
      generalize (if s = t then (0 : Int) else 1) = sg at *
      refine ⟨fun _ => some (wrap64 (sg * T + (2 * bias + 1) * ((2 ^ (p - 1) : Nat) : Int) + 0), 0), .inl ⟨(wrap64 (sg * T + (2 * bias + 1) * ((2 ^ (p - 1) : Nat) : Int) + 0), 0), by simp, .inr ⟨sg, hsg, .inl rfl⟩, fun _ _ => rfl⟩, fun mode hm => ?_⟩; rw [open_ mode hm]; simp only [twv, if_true, if_false, Bool.false_eq_true, float_Div.j0, float_Div.j1, float_Div.j2, mq_0_0, mb_0_0, mn_0_0, mq_0_1, mb_0_1, mn_0_1, mq_0_2, mb_0_2, mn_0_2, mq_0_3, mb_0_3, mn_0_3, mq_1_0, mb_1_0, mn_1_0, mq_1_1, mb_1_1, mn_1_1, mq_1_2, mb_1_2, mn_1_2, mq_1_3, mb_1_3, mn_1_3, mq_2_0, mb_2_0, mn_2_0, mq_2_1, mb_2_1, mn_2_1, mq_2_2, mb_2_2, mn_2_2, mq_2_3, mb_2_3, mn_2_3, mq_3_0, mb_3_0, mn_3_0, mq_3_1, mb_3_1, mn_3_1, mq_3_2, mb_3_2, mn_3_2, mq_3_3, mb_3_3, mn_3_3, ml_None_None, mlb_None_None, ml_None_Inf, mlb_None_Inf, ml_None_Zero, mlb_None_Zero, ml_Inf_None, mlb_Inf_None, ml_Inf_Inf, mlb_Inf_Inf, ml_Inf_Zero, mlb_Inf_Zero, ml_Zero_None, mlb_Zero_None, ml_Zero_Inf, mlb_Zero_Inf, ml_Zero_Zero, mlb_Zero_Zero, ml_Fin_None, mlb_Fin_None, ml_Fin_Inf, mlb_Fin_Inf, ml_Fin_Zero, mlb_Fin_Zero]; rw [hp.inf sg hsg, bs]; rfl
    | fin t ht n f hn0 hn1 hf0 hf1 hly =>
      obtain ⟨sg1, _, hsg⟩ := sgn hs ht
      dsimp only at open_
      rw [sg1] at open_
      generalize (if s = t then (0 : Int) else 1) = sg at *
      refine ⟨fun _ => some (wrap64 (sg * T + (2 * bias + 1) * ((2 ^ (p - 1) : Nat) : Int) + 0), 0), .inl ⟨(wrap64 (sg * T + (2 * bias + 1) * ((2 ^ (p - 1) : Nat) : Int) + 0), 0), by simp, .inr ⟨sg, hsg, .inl rfl⟩, fun _ _ => rfl⟩, fun mode hm => ?_⟩; rw [open_ mode hm]; simp only [twv, if_true, if_false, Bool.false_eq_true, float_Div.j0, float_Div.j1, float_Div.j2, mq_0_0, mb_0_0, mn_0_0, mq_0_1, mb_0_1, mn_0_1, mq_0_2, mb_0_2, mn_0_2, mq_0_3, mb_0_3, mn_0_3, mq_1_0, mb_1_0, mn_1_0, mq_1_1, mb_1_1, mn_1_1, mq_1_2, mb_1_2, mn_1_2, mq_1_3, mb_1_3, mn_1_3, mq_2_0, mb_2_0, mn_2_0, mq_2_1, mb_2_1, mn_2_1, mq_2_2, mb_2_2, mn_2_2, mq_2_3, mb_2_3, mn_2_3, mq_3_0, mb_3_0, mn_3_0, mq_3_1, mb_3_1, mn_3_1, mq_3_2, mb_3_2, mn_3_2, mq_3_3, mb_3_3, mn_3_3, ml_None_None, mlb_None_None, ml_None_Inf, mlb_None_Inf, ml_None_Zero, mlb_None_Zero, ml_Inf_None, mlb_Inf_None, ml_Inf_Inf, mlb_Inf_Inf, ml_Inf_Zero, mlb_Inf_Zero, ml_Zero_None, mlb_Zero_None, ml_Zero_Inf, mlb_Zero_Inf, ml_Zero_Zero, mlb_Zero_Zero, ml_Fin_None, mlb_Fin_None, ml_Fin_Inf, mlb_Fin_Inf, ml_Fin_Zero, mlb_Fin_Zero]; rw [hp.inf sg hsg, bs]; rfl
  | zero s hs =>
    cases vy with
    | none t ht =>
      dsimp only at open_
      refine ⟨fun _ => some (qn p bias, 0), .inl ⟨(qn p bias, 0), by simp, .inl rfl, fun _ _ => rfl⟩, fun mode hm => ?_⟩; rw [open_ mode hm]; simp only [twv, if_true, if_false, Bool.false_eq_true, float_Div.j0, float_Div.j1, float_Div.j2, mq_0_0, mb_0_0, mn_0_0, mq_0_1, mb_0_1, mn_0_1, mq_0_2, mb_0_2, mn_0_2, mq_0_3, mb_0_3, mn_0_3, mq_1_0, mb_1_0, mn_1_0, mq_1_1, mb_1_1, mn_1_1, mq_1_2, mb_1_2, mn_1_2, mq_1_3, mb_1_3, mn_1_3, mq_2_0, mb_2_0, mn_2_0, mq_2_1, mb_2_1, mn_2_1, mq_2_2, mb_2_2, mn_2_2, mq_2_3, mb_2_3, mn_2_3, mq_3_0, mb_3_0, mn_3_0, mq_3_1, mb_3_1, mn_3_1, mq_3_2, mb_3_2, mn_3_2, mq_3_3, mb_3_3, mn_3_3, ml_None_None, mlb_None_None, ml_None_Inf, mlb_None_Inf, ml_None_Zero, mlb_None_Zero, ml_Inf_None, mlb_Inf_None, ml_Inf_Inf, mlb_Inf_Inf, ml_Inf_Zero, mlb_Inf_Zero, ml_Zero_None, mlb_Zero_None, ml_Zero_Inf, mlb_Zero_Inf, ml_Zero_Zero, mlb_Zero_Zero, ml_Fin_None, mlb_Fin_None, ml_Fin_Inf, mlb_Fin_Inf, ml_Fin_Zero, mlb_Fin_Zero]; rw [hp.qui, bs]; rfl
    | inf t ht =>
      obtain ⟨sg1, _, hsg⟩ := sgn hs ht
      dsimp only at open_
      rw [sg1] at open_
      generalize (if s = t then (0 : Int) else 1) = sg at *
      refine ⟨fun _ => some (wrap64 (sg * T), 0), .inl ⟨(wrap64 (sg * T), 0), by simp, .inr ⟨sg, hsg, .inr rfl⟩, fun _ _ => rfl⟩, fun mode hm => ?_⟩; rw [open_ mode hm]; simp only [twv, if_true, if_false, Bool.false_eq_true, float_Div.j0, float_Div.j1, float_Div.j2, mq_0_0, mb_0_0, mn_0_0, mq_0_1, mb_0_1, mn_0_1, mq_0_2, mb_0_2, mn_0_2, mq_0_3, mb_0_3, mn_0_3, mq_1_0, mb_1_0, mn_1_0, mq_1_1, mb_1_1, mn_1_1, mq_1_2, mb_1_2, mn_1_2, mq_1_3, mb_1_3, mn_1_3, mq_2_0, mb_2_0, mn_2_0, mq_2_1, mb_2_1, mn_2_1, mq_2_2, mb_2_2, mn_2_2, mq_2_3, mb_2_3, mn_2_3, mq_3_0, mb_3_0, mn_3_0, mq_3_1, mb_3_1, mn_3_1, mq_3_2, mb_3_2, mn_3_2, mq_3_3, mb_3_3, mn_3_3, ml_None_None, mlb_None_None, ml_None_Inf, mlb_None_Inf, ml_None_Zero, mlb_None_Zero, ml_Inf_None, mlb_Inf_None, ml_Inf_Inf, mlb_Inf_Inf, ml_Inf_Zero, mlb_Inf_Zero, ml_Zero_None, mlb_Zero_None, ml_Zero_Inf, mlb_Zero_Inf, ml_Zero_Zero, mlb_Zero_Zero, ml_Fin_None, mlb_Fin_None, ml_Fin_Inf, mlb_Fin_Inf, ml_Fin_Zero, mlb_Fin_Zero]; rw [hp.zer sg hsg, bs]; rfl
    | zero t ht =>
      dsimp only at open_
      refine ⟨fun _ => some (qn p bias, 1), .inl ⟨(qn p bias, 1), by simp, .inl rfl, fun _ _ => rfl⟩, fun mode hm => ?_⟩; rw [open_ mode hm]; simp only [twv, if_true, if_false, Bool.false_eq_true, float_Div.j0, float_Div.j1, float_Div.j2, mq_0_0, mb_0_0, mn_0_0, mq_0_1, mb_0_1, mn_0_1, mq_0_2, mb_0_2, mn_0_2, mq_0_3, mb_0_3, mn_0_3, mq_1_0, mb_1_0, mn_1_0, mq_1_1, mb_1_1, mn_1_1, mq_1_2, mb_1_2, mn_1_2, mq_1_3, mb_1_3, mn_1_3, mq_2_0, mb_2_0, mn_2_0, mq_2_1, mb_2_1, mn_2_1, mq_2_2, mb_2_2, mn_2_2, mq_2_3, mb_2_3, mn_2_3, mq_3_0, mb_3_0, mn_3_0, mq_3_1, mb_3_1, mn_3_1, mq_3_2, mb_3_2, mn_3_2, mq_3_3, mb_3_3, mn_3_3, ml_None_None, mlb_None_None, ml_None_Inf, mlb_None_Inf, ml_None_Zero, mlb_None_Zero, ml_Inf_None, mlb_Inf_None, ml_Inf_Inf, mlb_Inf_Inf, ml_Inf_Zero, mlb_Inf_Zero, ml_Zero_None, mlb_Zero_None, ml_Zero_Inf, mlb_Zero_Inf, ml_Zero_Zero, mlb_Zero_Zero, ml_Fin_None, mlb_Fin_None, ml_Fin_Inf, mlb_Fin_Inf, ml_Fin_Zero, mlb_Fin_Zero]; rw [hp.qui, bs]; rfl
    | fin t ht n f hn0 hn1 hf0 hf1 hly =>
      obtain ⟨sg1, _, hsg⟩ := sgn hs ht
      dsimp only at open_
      rw [sg1] at open_
      generalize (if s = t then (0 : Int) else 1) = sg at *
      refine ⟨fun _ => some (wrap64 (sg * T), 0), .inl ⟨(wrap64 (sg * T), 0), by simp, .inr ⟨sg, hsg, .inr rfl⟩, fun _ _ => rfl⟩, fun mode hm => ?_⟩; rw [open_ mode hm]; simp only [twv, if_true, if_false, Bool.false_eq_true, float_Div.j0, float_Div.j1, float_Div.j2, mq_0_0, mb_0_0, mn_0_0, mq_0_1, mb_0_1, mn_0_1, mq_0_2, mb_0_2, mn_0_2, mq_0_3, mb_0_3, mn_0_3, mq_1_0, mb_1_0, mn_1_0, mq_1_1, mb_1_1, mn_1_1, mq_1_2, mb_1_2, mn_1_2, mq_1_3, mb_1_3, mn_1_3, mq_2_0, mb_2_0, mn_2_0, mq_2_1, mb_2_1, mn_2_1, mq_2_2, mb_2_2, mn_2_2, mq_2_3, mb_2_3, mn_2_3, mq_3_0, mb_3_0, mn_3_0, mq_3_1, mb_3_1, mn_3_1, mq_3_2, mb_3_2, mn_3_2, mq_3_3, mb_3_3, mn_3_3, ml_None_None, mlb_None_None, ml_None_Inf, mlb_None_Inf, ml_None_Zero, mlb_None_Zero, ml_Inf_None, mlb_Inf_None, ml_Inf_Inf, mlb_Inf_Inf, ml_Inf_Zero, mlb_Inf_Zero, ml_Zero_None, mlb_Zero_None, ml_Zero_Inf, mlb_Zero_Inf, ml_Zero_Zero, mlb_Zero_Zero, ml_Fin_None, mlb_Fin_None, ml_Fin_Inf, mlb_Fin_Inf, ml_Fin_Zero, mlb_Fin_Zero]; rw [hp.zer sg hsg, bs]; rfl
  | fin s hs m e hm0 hm1 he0 he1 hlx =>
    cases vy with
    | none t ht =>
      dsimp only at open_
      refine ⟨fun _ => some (qn p bias, 0), .inl ⟨(qn p bias, 0), by simp, .inl rfl, fun _ _ => rfl⟩, fun mode hm => ?_⟩; rw [open_ mode hm]; simp only [twv, if_true, if_false, Bool.false_eq_true, float_Div.j0, float_Div.j1, float_Div.j2, mq_0_0, mb_0_0, mn_0_0, mq_0_1, mb_0_1, mn_0_1, mq_0_2, mb_0_2, mn_0_2, mq_0_3, mb_0_3, mn_0_3, mq_1_0, mb_1_0, mn_1_0, mq_1_1, mb_1_1, mn_1_1, mq_1_2, mb_1_2, mn_1_2, mq_1_3, mb_1_3, mn_1_3, mq_2_0, mb_2_0, mn_2_0, mq_2_1, mb_2_1, mn_2_1, mq_2_2, mb_2_2, mn_2_2, mq_2_3, mb_2_3, mn_2_3, mq_3_0, mb_3_0, mn_3_0, mq_3_1, mb_3_1, mn_3_1, mq_3_2, mb_3_2, mn_3_2, mq_3_3, mb_3_3, mn_3_3, ml_None_None, mlb_None_None, ml_None_Inf, mlb_None_Inf, ml_None_Zero, mlb_None_Zero, ml_Inf_None, mlb_Inf_None, ml_Inf_Inf, mlb_Inf_Inf, ml_Inf_Zero, mlb_Inf_Zero, ml_Zero_None, mlb_Zero_None, ml_Zero_Inf, mlb_Zero_Inf, ml_Zero_Zero, mlb_Zero_Zero, ml_Fin_None, mlb_Fin_None, ml_Fin_Inf, mlb_Fin_Inf, ml_Fin_Zero, mlb_Fin_Zero]; rw [hp.qui, bs]; rfl
    | inf t ht =>
      obtain ⟨sg1, _, hsg⟩ := sgn hs ht
      dsimp only at open_
      rw [sg1] at open_
      generalize (if s = t then (0 : Int) else 1) = sg at *
      refine ⟨fun _ => some (wrap64 (sg * T), 0), .inl ⟨(wrap64 (sg * T), 0), by simp, .inr ⟨sg, hsg, .inr rfl⟩, fun _ _ => rfl⟩, fun mode hm => ?_⟩; rw [open_ mode hm]; simp only [twv, if_true, if_false, Bool.false_eq_true, float_Div.j0, float_Div.j1, float_Div.j2, mq_0_0, mb_0_0, mn_0_0, mq_0_1, mb_0_1, mn_0_1, mq_0_2, mb_0_2, mn_0_2, mq_0_3, mb_0_3, mn_0_3, mq_1_0, mb_1_0, mn_1_0, mq_1_1, mb_1_1, mn_1_1, mq_1_2, mb_1_2, mn_1_2, mq_1_3, mb_1_3, mn_1_3, mq_2_0, mb_2_0, mn_2_0, mq_2_1, mb_2_1, mn_2_1, mq_2_2, mb_2_2, mn_2_2, mq_2_3, mb_2_3, mn_2_3, mq_3_0, mb_3_0, mn_3_0, mq_3_1, mb_3_1, mn_3_1, mq_3_2, mb_3_2, mn_3_2, mq_3_3, mb_3_3, mn_3_3, ml_None_None, mlb_None_None, ml_None_Inf, mlb_None_Inf, ml_None_Zero, mlb_None_Zero, ml_Inf_None, mlb_Inf_None, ml_Inf_Inf, mlb_Inf_Inf, ml_Inf_Zero, mlb_Inf_Zero, ml_Zero_None, mlb_Zero_None, ml_Zero_Inf, mlb_Zero_Inf, ml_Zero_Zero, mlb_Zero_Zero, ml_Fin_None, mlb_Fin_None, ml_Fin_Inf, mlb_Fin_Inf, ml_Fin_Zero, mlb_Fin_Zero]; rw [hp.zer sg hsg, bs]; rfl
    | zero t ht =>
      obtain ⟨sg1, _, hsg⟩ := sgn hs ht
      dsimp only at open_
      rw [sg1] at open_
      generalize (if s = t then (0 : Int) else 1) = sg at *
      refine ⟨fun _ => some (wrap64 (sg * T + (2 * bias + 1) * ((2 ^ (p - 1) : Nat) : Int) + 0), 2), .inl ⟨(wrap64 (sg * T + (2 * bias + 1) * ((2 ^ (p - 1) : Nat) : Int) + 0), 2), by simp, .inr ⟨sg, hsg, .inl rfl⟩, fun _ _ => rfl⟩, fun mode hm => ?_⟩; rw [open_ mode hm]; simp only [twv, if_true, if_false, Bool.false_eq_true, float_Div.j0, float_Div.j1, float_Div.j2, mq_0_0, mb_0_0, mn_0_0, mq_0_1, mb_0_1, mn_0_1, mq_0_2, mb_0_2, mn_0_2, mq_0_3, mb_0_3, mn_0_3, mq_1_0, mb_1_0, mn_1_0, mq_1_1, mb_1_1, mn_1_1, mq_1_2, mb_1_2, mn_1_2, mq_1_3, mb_1_3, mn_1_3, mq_2_0, mb_2_0, mn_2_0, mq_2_1, mb_2_1, mn_2_1, mq_2_2, mb_2_2, mn_2_2, mq_2_3, mb_2_3, mn_2_3, mq_3_0, mb_3_0, mn_3_0, mq_3_1, mb_3_1, mn_3_1, mq_3_2, mb_3_2, mn_3_2, mq_3_3, mb_3_3, mn_3_3, ml_None_None, mlb_None_None, ml_None_Inf, mlb_None_Inf, ml_None_Zero, mlb_None_Zero, ml_Inf_None, mlb_Inf_None, ml_Inf_Inf, mlb_Inf_Inf, ml_Inf_Zero, mlb_Inf_Zero, ml_Zero_None, mlb_Zero_None, ml_Zero_Inf, mlb_Zero_Inf, ml_Zero_Zero, mlb_Zero_Zero, ml_Fin_None, mlb_Fin_None, ml_Fin_Inf, mlb_Fin_Inf, ml_Fin_Zero, mlb_Fin_Zero]; rw [hp.inf sg hsg, bs]; rfl
    | fin t ht n f hn0 hn1 hf0 hf1 hly =>
      obtain ⟨sg1, _, hsg⟩ := sgn hs ht
      dsimp only at open_
      rw [sg1] at open_
      generalize (if s = t then (0 : Int) else 1) = sg at *
      have hm53 : m < 2 ^ 53 := Nat.lt_of_lt_of_le hm1 (Nat.pow_le_pow_right (by omega) hp1)
      have hn53 : n < 2 ^ 53 := Nat.lt_of_lt_of_le hn1 (Nat.pow_le_pow_right (by omega) hp1)
      have q := fun mode hm => pdiv_eq hp (k + 3) (by omega) mode sg s t e f m n hm hsg hm0 hn0 hm53 hn53 (by omega) (by omega) (by omega) (by omega)
      obtain ⟨v, E0, c0, c1, c2, _⟩ := q 0 (by decide)
      have qq : m * 2 ^ v / n ≠ 0 := by intro h0; rw [h0] at c2; simp [blen_zero] at c2
      refine ⟨fun mode => some (pk p T sg (R p bias mode sg (m * 2 ^ v / n) E0 (decide (m * 2 ^ v % n ≠ 0)))), .inr (.inr ⟨sg, E0, m * 2 ^ v / n, _, hsg, qq, fun _ _ => rfl⟩), fun mode hm => ?_⟩
      obtain ⟨v', E', d0, d1, d2, d3⟩ := q mode hm
      obtain rfl : v' = v := by omega
      obtain rfl : E' = E0 := by omega
      unfold pDiv at d3
      rw [open_ mode hm]
      simp only [twv, if_true, if_false, Bool.false_eq_true, float_Div.j0, float_Div.j1, float_Div.j2, mq_0_0, mb_0_0, mn_0_0, mq_0_1, mb_0_1, mn_0_1, mq_0_2, mb_0_2, mn_0_2, mq_0_3, mb_0_3, mn_0_3, mq_1_0, mb_1_0, mn_1_0, mq_1_1, mb_1_1, mn_1_1, mq_1_2, mb_1_2, mn_1_2, mq_1_3, mb_1_3, mn_1_3, mq_2_0, mb_2_0, mn_2_0, mq_2_1, mb_2_1, mn_2_1, mq_2_2, mb_2_2, mn_2_2, mq_2_3, mb_2_3, mn_2_3, mq_3_0, mb_3_0, mn_3_0, mq_3_1, mb_3_1, mn_3_1, mq_3_2, mb_3_2, mn_3_2, mq_3_3, mb_3_3, mn_3_3, ml_None_None, mlb_None_None, ml_None_Inf, mlb_None_Inf, ml_None_Zero, mlb_None_Zero, ml_Inf_None, mlb_Inf_None, ml_Inf_Inf, mlb_Inf_Inf, ml_Inf_Zero, mlb_Inf_Zero, ml_Zero_None, mlb_Zero_None, ml_Zero_Inf, mlb_Zero_Inf, ml_Zero_Zero, mlb_Zero_Zero, ml_Fin_None, mlb_Fin_None, ml_Fin_Inf, mlb_Fin_Inf, ml_Fin_Zero, mlb_Fin_Zero]
      exact d3
omit H in
theorem trio_some {A : Int → Option (Int × Int)} (h : Trio p bias T A) (mode : Int) (hm : 0 ≤ mode ∧ mode ≤ 3) : ∃ r, A mode = some r := by
  rcases h with ⟨r, _, _, hA⟩ | hA | ⟨s, e, N, more, _, _, hA⟩ <;> exact ⟨_, hA mode hm⟩
theorem add_open (k : Nat) (mode a b : Int) (hm : 0 ≤ mode ∧ mode ≤ 3) (ha : V a) (hb : V b) : float_Add.f (k + 6) kind mode a b = (float_shape_add.f (k + 6) (p : Int) w mode (rdv P W l o (wd a)).1 (rdv P W l o (wd a)).2.1 (rdv P W l o (wd a)).2.2.1 (rdv P W l o (wd a)).2.2.2.1 (rdv P W l o (wd b)).1 (rdv P W l o (wd b)).2.1 (rdv P W l o (wd b)).2.2.1 (rdv P W l o (wd b)).2.2.2.1).bind fun r => some (r.1, r.2, 0) := by
  unfold float_Add.f
  rw [show k + 6 = (k + 3) + 3 from rfl, H.two (k + 3) mode a b hm.1 (by omega) ha hb, bs, if_pos (flag_ok H a b)]
  rfl
theorem between_of (k : Nat) (hk : 42000 ≤ k) (a b : Int) (ha : V a) (hb : V b) : quadratlaw01_between.f (k + 6) kind a b = some true := by
  obtain ⟨r2, r3, h2, h3, c, hc, hc1, hr⟩ := trio_pair H k (add_trio H.pk (k + 6) (by omega) (H.view a) (H.view b))
  obtain ⟨A, hA, hdiv⟩ := div_trio H k (by omega) a b ha hb
  obtain ⟨q2, q3, g2, g3, d, hd, hd1, hq⟩ := trio_pair H k hA
  unfold quadratlaw01_between.f
  rw [add_open H k 2 a b (by decide) ha hb, h2, bs, bs, add_open H k 3 a b (by decide) ha hb, h3, bs, bs, hdiv 2 (by decide), g2, bs, bs, hdiv 3 (by decide), g3, bs, bs, hc, bs, hd, bs, if_neg hc1, if_neg hd1]
  by_cases e1 : r2.1 = r3.1
  · rw [if_pos e1, if_pos (hr e1)]
    by_cases e2 : q2.1 = q3.1
    · rw [if_pos e2, hq e2]; rfl
    · rw [if_neg e2]
  · rw [if_neg e1]
    by_cases e2 : q2.1 = q3.1
    · rw [if_pos e2, hq e2]; rfl
    · rw [if_neg e2]
theorem modes_step (k : Nat) (hk : 110000 ≤ k) (mode a b : Int) (m0 : 0 ≤ mode) (m1 : mode < 4) (ha : V a) (hb : V b) (a0 : -9223372036854775808 ≤ a) (a1 : a < 9223372036854775808) (b0 : -9223372036854775808 ≤ b) (b1 : b < 9223372036854775808) :
    quadratlaw01_FloatModes.l0 (k + 6 + 1) kind a b mode = quadratlaw01_FloatModes.l0 (k + 6) kind a b (mode + 1) := by
  obtain ⟨r, hr⟩ := trio_some (add_trio H.pk (k + 6) (by omega) (H.view a) (H.view b)) mode ⟨m0, by omega⟩
  obtain ⟨q, hq, _⟩ := mul_eq (k + 6) (by omega) kind mode a b a0 a1 b0 b1
  have hc := add_comm2 H.pk (k + 6) (by omega) mode ⟨m0, by omega⟩ (H.view a) (H.view b)
  simp only [quadratlaw01_FloatModes.l0]
  rw [if_pos m1, add_open H k mode a b ⟨m0, by omega⟩ ha hb, hr, bs, bs, add_open H k mode b a ⟨m0, by omega⟩ hb ha, ← hc, hr, bs, bs, hq, bs, ← mul_swap H k mode a b m0 m1 ha hb, hq, bs, if_pos rfl, if_pos rfl, if_pos rfl, if_pos rfl, w64_id (by omega) (by omega)]
theorem modes_all (k : Nat) (hk : 120000 ≤ k) (a b : Int) (ha : V a) (hb : V b) (a0 : -9223372036854775808 ≤ a) (a1 : a < 9223372036854775808) (b0 : -9223372036854775808 ≤ b) (b1 : b < 9223372036854775808) :
    quadratlaw01_FloatModes.l0 (k + 20) kind a b 0 = some true := by
  rw [modes_step H (k + 13) (by omega) 0 a b (by decide) (by decide) ha hb a0 a1 b0 b1, show k + 13 + 6 = (k + 12) + 6 + 1 from rfl,
    modes_step H (k + 12) (by omega) (0 + 1) a b (by decide) (by decide) ha hb a0 a1 b0 b1, show k + 12 + 6 = (k + 11) + 6 + 1 from rfl,
    modes_step H (k + 11) (by omega) (0 + 1 + 1) a b (by decide) (by decide) ha hb a0 a1 b0 b1, show k + 11 + 6 = (k + 10) + 6 + 1 from rfl,
    modes_step H (k + 10) (by omega) (0 + 1 + 1 + 1) a b (by decide) (by decide) ha hb a0 a1 b0 b1, show k + 10 + 6 = (k + 15) + 1 from rfl]
  simp only [quadratlaw01_FloatModes.l0]
  rw [if_neg (by decide), show k + 15 = (k + 9) + 6 from rfl, between_of H (k + 9) (by omega) a b ha hb, bs, if_pos rfl, show k + 9 + 6 = (k - 85) + 100 by omega, awake (k - 85), bs]
end
theorem mo_awake (k : Nat) (kind a b : Int) : quadratlaw01_FloatModes.j0 (k + 101) kind a b true = some true := by
  simp only [quadratlaw01_FloatModes.j0]; rw [if_pos trivial, awake k, bs]
/-- The law, by what the kind says of both. -/
theorem modes_of (k : Nat) (kind a b : Int) (va vb : Bool) (h1 : float_Valid.f (k + 101) kind a = some va) (h2 : float_Valid.f (k + 101) kind b = some vb) (h : va = true → vb = true → quadratlaw01_FloatModes.l0 (k + 100) kind a b 0 = some true) : quadratlaw01_FloatModes.f (k + 101) kind a b = some true := by
  unfold quadratlaw01_FloatModes.f
  rw [h1, bs]
  cases va with
  | false => rw [if_neg (by decide)]; exact mo_awake k kind a b
  | true =>
    rw [if_pos rfl, h2, bs]
    cases vb with
    | false => exact mo_awake k kind a b
    | true => simp only [quadratlaw01_FloatModes.j0]; rw [if_neg (by decide)]; exact h rfl rfl
theorem mk_2 : MK V2 2 11 5 15 32768 1024 32 (-24) (-25) 31744 where
  nk := nk_2
  pk := pk_2
  hE := by decide +kernel
  hT := by decide
  two := fun k mode a b m0 m1 ha hb => two_2 k mode a b m0 m1 ha.1 ha.2 hb.1 hb.2
  view := fun a => view_2 (wd a) (wd_bd a).1 (wd_bd a).2
  qv := by unfold V2; decide +kernel
  q3 := by decide +kernel
theorem mk_4 : MK V4 4 24 8 127 2147483648 8388608 256 (-149) (-150) 2139095040 where
  nk := nk_4
  pk := pk_4
  hE := by decide +kernel
  hT := by decide
  two := fun k mode a b m0 m1 ha hb => two_4 k mode a b m0 m1 ha.1 ha.2 hb.1 hb.2
  view := fun a => view_4 (wd a) (wd_bd a).1 (wd_bd a).2
  qv := by unfold V4; decide +kernel
  q3 := by decide +kernel
theorem mk_8 : MK V8 8 53 11 1023 9223372036854775808 4503599627370496 2048 (-1074) (-1075) 9218868437227405312 where
  nk := nk_8
  pk := pk_8
  hE := by decide +kernel
  hT := by decide
  two := fun k mode a b m0 m1 ha hb => two_8 k mode a b m0 m1
  view := fun a => view_8 (wd a) (wd_bd a).1 (wd_bd a).2
  qv := by unfold V8; decide +kernel
  q3 := by decide +kernel
theorem FloatModes (kind a b : Int) (a0 : -9223372036854775808 ≤ a) (a1 : a < 9223372036854775808) (b0 : -9223372036854775808 ≤ b) (b1 : b < 9223372036854775808) : ∃ k, quadratlaw01_FloatModes.f k kind a b = some true := by
  refine ⟨200101, ?_⟩
  obtain ⟨va, h1, g1⟩ := fvalid (200000 + 98) kind a a0 a1
  obtain ⟨vb, h2, g2⟩ := fvalid (200000 + 98) kind b b0 b1
  refine modes_of 200000 kind a b va vb h1 h2 fun ea eb => ?_
  subst ea; subst eb
  by_cases k2 : kind = 2
  · subst k2
    rw [valid_2] at g1 g2
    exact modes_all mk_2 200080 (by omega) a b (show 0 ≤ a ∧ a < 65536 by simpa using g1) (show 0 ≤ b ∧ b < 65536 by simpa using g2) a0 a1 b0 b1
  by_cases k4 : kind = 4
  · subst k4
    rw [valid_4] at g1 g2
    exact modes_all mk_4 200080 (by omega) a b (show 0 ≤ a ∧ a < 4294967296 by simpa using g1) (show 0 ≤ b ∧ b < 4294967296 by simpa using g2) a0 a1 b0 b1
  by_cases k8 : kind = 8
  · subst k8; exact modes_all mk_8 200080 (by omega) a b ⟨a0, a1⟩ ⟨b0, b1⟩ a0 a1 b0 b1
  rw [valid_none kind a k2 k4 k8] at g1
  cases g1
end Go.Proofs.Ytgpnmifejgdipaa.Pf
