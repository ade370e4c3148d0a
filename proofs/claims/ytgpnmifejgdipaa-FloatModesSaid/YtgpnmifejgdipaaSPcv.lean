/-
  FloatConverts: Convert is what the reference says. By the session's own hand.
-/
import Derived.Test.YtgpnmifejgdipaaSPfi
import Derived.Test.YtgpnmifejgdipaaSPaw
import Derived.Test.YtgpnmifejgdipaaDf
set_option linter.unusedVariables false
set_option linter.unusedSimpArgs false
set_option linter.unusedVariables false
namespace Go.Proofs.Ytgpnmifejgdipaa.Pf
open Go.RowKit Go.Proofs.Ytgpnmifejgdipaa.My Go.Proofs.Ytgpnmifejgdipaa.RM Go.Proofs.YtgpnmifejgdipaaW.PrintWords Go.Proofs.YtgpnmifejgdipaaW.PrintLast Go.Proofs.YtgpnmifejgdipaaW.PrintMore
theorem cNo : sNone.toList = [110, 111, 110, 101] := by decide +kernel
theorem cIn : sInf.toList = [105, 110, 102, 105, 110, 105, 116, 101] := by decide +kernel
theorem cZe : sZero.toList = [122, 101, 114, 111] := by decide +kernel
theorem cFi : sFin.toList = [102, 105, 110, 105, 116, 101] := by decide +kernel
theorem convert_eq (k : Nat) (hk : 100200 ≤ k) (kind tk mode a : Int) (h0 : -9223372036854775808 ≤ a) (h1 : a < 9223372036854775808) :
    ∃ r, float_Convert.f k kind tk mode a = some r ∧ quadratref01_Convert.f k kind tk mode a = some r := by
  obtain ⟨k, rfl⟩ : ∃ m, k = m + 73 := ⟨k - 73, by omega⟩
  unfold float_Convert.f quadratref01_Convert.f
  rcases ask (k + 1) kind mode a a h0 h1 h0 h1 with ⟨hq, p, w, x1, x2, x3, x4, y1, y2, y3, y4, ht⟩ | ⟨hq, hm, p, w, bias, T, x, y, x', y', hr, hp, hof, ht, hx, hy, vx, vy, _, _⟩
  · refine ⟨(0, 0, 2), ?_, ?_⟩
    · rw [show k + 73 = k + 1 + 72 from rfl, ht, bs]
      rcases kinds tk with ⟨p', w', _, _, _, _, hof'⟩ | ⟨_, p', w', hof'⟩ <;> (rw [hof', bs, if_neg (by simp)]; simp only [float_Convert.j0, if_true])
    · rw [hq, bs, if_neg (by simp)]; simp only [quadratref01_Convert.j0, if_true]
  · have hx2 : quadratref01_taken.f (k + 72) kind a = some x' := by
      rcases ask k kind mode a a h0 h1 h0 h1 with ⟨hq', _⟩ | ⟨_, _, _, _, _, _, _, _, x'', _, _, _, _, _, hx'', _, _, _, _, _⟩
      · rw [hq] at hq'; cases hq'
      · have := quadratref01_taken.mono kind a (k + 72) _ hx''
        rw [show k + 72 + 1 = k + 1 + 72 from rfl, hx] at this
        cases this; exact hx''
    rw [show k + 73 = k + 1 + 72 from rfl, ht, bs, hq, bs, if_pos rfl]
    have hb : (x.2.2.2.2 && y.2.2.2.2) = true := by cases vx <;> cases vy <;> rfl
    rcases kinds tk with ⟨p', w', bias', T', hr', hp', hof'⟩ | ⟨hd', p', w', hof'⟩
    · have hp0 := hp'.p0
      have hr1 := hr.b1
      have hp1 := hr.p1
      rw [hof', bs, hr'.dig, bs]
      have e1 : (((p' : Int)) == 0) = false := by simp; omega
      rw [e1]
      rw [if_pos (show (twv (p : Int) w x y).2.2.2.2.2.2.2.2.2.2 = true from hb)]
      simp only [twv]
      clear hb
      cases vx with
      | none s hs =>
        simp only [show k + 1 + 72 = (k + 72) + 1 from rfl, float_Convert.j0, quadratref01_Convert.j0, Bool.not_true, Bool.false_eq_true, if_false, hx2, bs]
        rw [if_pos trivial, hp'.qui, bs, cNo, if_pos rfl, hr'.qui, bs]
        exact ⟨_, rfl, rfl⟩
      | inf s hs =>
        simp only [show k + 1 + 72 = (k + 72) + 1 from rfl, float_Convert.j0, quadratref01_Convert.j0, Bool.not_true, Bool.false_eq_true, if_false, hx2, bs]
        rw [if_neg (by decide), if_pos trivial, hp'.inf s hs, bs, cIn, if_neg (by decide), if_pos rfl, hr'.inf s hs, bs]
        exact ⟨_, rfl, rfl⟩
      | zero s hs =>
        simp only [show k + 1 + 72 = (k + 72) + 1 from rfl, float_Convert.j0, quadratref01_Convert.j0, Bool.not_true, Bool.false_eq_true, if_false, hx2, bs]
        rw [if_neg (by decide), if_neg (by decide), if_pos trivial, hp'.zer s hs, bs, cZe, if_neg (by decide), if_neg (by decide), if_pos rfl, hr'.zer s hs, bs]
        exact ⟨_, rfl, rfl⟩
      | fin s hs m e hm0 hm1 he0 he1 hl =>
        have hb : blen m ≤ p := blen_le.2 hm1
        have hmw : m < 18446744073709551616 := Nat.lt_of_lt_of_le hm1 (Nat.le_trans (Nat.pow_le_pow_right (by omega) hp1) (by decide))
        simp only [show k + 1 + 72 = (k + 72) + 1 from rfl, float_Convert.j0, quadratref01_Convert.j0, Bool.not_true, Bool.false_eq_true, if_false, hx2, bs]
        have e4 := round_eq hp' (k + 72) (by omega) mode s e false m 0 m hm hs hm0 (by omega) (by omega) (by omega) (by omega) (by omega) (by simp)
        have e5 := rounded_eq hr' (k + 72) (by omega) mode s e false m hm hs hm0 (by omega) (by omega) (by omega)
        rw [if_neg (by decide), if_neg (by decide), if_neg (by decide), cFi, if_neg (by decide), if_neg (by decide), if_neg (by decide), e5, bs]
        have e4' : float_shape_round.f (k + 72) (p' : Int) w' mode s 0 (m : Int) e false = _ := e4
        rw [e4', bs]
        exact ⟨_, rfl, rfl⟩
    · rw [hof', bs, hd', bs]
      refine ⟨(0, 0, 2), ?_, ?_⟩
      · rw [if_pos (show (twv (p : Int) w x y).2.2.2.2.2.2.2.2.2.2 = true from hb)]
        simp only [show k + 1 + 72 = (k + 72) + 1 from rfl, float_Convert.j0, Bool.not_false, if_true]
      · simp only [show k + 1 + 72 = (k + 72) + 1 from rfl, quadratref01_Convert.j0, beq_self_eq_true, if_true]
theorem FloatConverts (kind tk mode a b : Int) (h0 : -9223372036854775808 ≤ a) (h1 : a < 9223372036854775808) : ∃ k, quadratlaw01_FloatConverts.f k kind tk mode a b = some true := by
  refine ⟨200000, ?_⟩
  obtain ⟨r, h1, h2⟩ := convert_eq 200000 (by omega) kind tk mode a h0 h1
  unfold quadratlaw01_FloatConverts.f
  have ha : quadratlaw01_Awake.f 200000 = some true := awake 199900
  rw [h1, bs, h2, bs, if_pos rfl, if_pos rfl, if_pos rfl, ha, bs]
end Go.Proofs.Ytgpnmifejgdipaa.Pf
