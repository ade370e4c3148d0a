/-
  There and back: to a greater kind and back; made of its parts. By the session's own hand.
-/
import Derived.Test.YtgpnmifejgdipaaDoorSPbk
import Derived.Test.YtgpnmifejgdipaaDoorDf
set_option linter.unusedVariables false
set_option linter.unusedSimpArgs false
namespace Go.Proofs.YtgpnmifejgdipaaDoor.Pf
open Go.RowKit Go.Proofs.YtgpnmifejgdipaaDoor.My Go.Proofs.YtgpnmifejgdipaaDoor.RM Go.Proofs.YtgpnmifejgdipaaDoorW.PrintWords Go.Proofs.YtgpnmifejgdipaaDoorW.PrintLast Go.Proofs.YtgpnmifejgdipaaDoorW.PrintMore

theorem fl_flags (p : Nat) (bias : Int) (m : Nat) (x : Int) : (fl p bias m x).2.2 = 0 := by unfold fl; split <;> rfl
theorem conv_fin {w bias T : Int} {p : Nat} (hp : PK p w bias T) (k : Nat) (hk : 40000 ≤ k) (mode s x : Int) (m : Nat) (hm : 0 ≤ mode ∧ mode ≤ 3) (hs : s = 0 ∨ s = 1) (hm0 : m ≠ 0) (hmw : m < 18446744073709551616) (x0 : -8000 ≤ x) (x1 : x ≤ 8000) :
    float_Convert.j0 (k + 1) mode false 1 s (m : Int) x (p : Int) w = some ((pk p T s (R p bias mode s m x false)).1, (pk p T s (R p bias mode s m x false)).2, 0) := by
  simp only [float_Convert.j0, Bool.false_eq_true, if_false]
  rw [if_neg (by decide), if_neg (by decide), if_neg (by decide)]
  have e4 := round_eq hp k hk mode s x false m 0 m hm hs hm0 (by omega) (by omega) hmw x0 x1 (by simp)
  have e4' : float_shape_round.f k (p : Int) w mode s 0 (m : Int) x false = _ := e4
  rw [e4', bs]
section
variable {V V' : Int → Prop} {kind tk w w' bias bias' T T' P P' W W' l l' o o' : Int} {p p' : Nat} (H : BK V kind p w bias T P W l o) (H' : BK V' tk p' w' bias' T' P' W' l' o')
include H H'
theorem conv_open (k : Nat) (mode a : Int) (m0 : 0 ≤ mode) (m1 : mode < 4) (ha : V a) {y : Int × Int × Int × Int × Bool} (hy : rdv P W l o (wd a) = y) (h5 : y.2.2.2.2 = true) : float_Convert.f (k + 3) kind tk mode a = float_Convert.j0 (k + 3) mode false y.1 y.2.1 y.2.2.1 y.2.2.2.1 (p' : Int) w' := by
  unfold float_Convert.f
  rw [H.two k mode a a m0 m1 ha ha, bs, H'.of, bs, hy]
  rw [if_pos (show (twv (p : Int) w y y).2.2.2.2.2.2.2.2.2.2 = true by simp only [twv, h5]; rfl)]
  simp only [twv, Bool.not_true]
theorem there (hpp : p ≤ p') (hbb : bias ≤ bias') (k : Nat) (hk : 40000 ≤ k) (mode a : Int) (m0 : 0 ≤ mode) (m1 : mode < 4) (ha : V a) :
    ∃ b c, float_Convert.f (k + 3) kind tk mode a = some (b, 0, 0) ∧ float_Convert.f (k + 3) tk kind mode b = some (c, 0, 0) ∧ ((rdv P W l o (wd a)).1 = 3 ∨ c = a) := by
  have hm : 0 ≤ mode ∧ mode ≤ 3 := ⟨m0, by omega⟩
  have hp0 := H.pkk.p0; have hp1 := H.pkk.p1; have hb0 := H.pkk.b0; have hb1 := H.pkk.b1
  have hp0' := H'.pkk.p0; have hp1' := H'.pkk.p1; have hb0' := H'.pkk.b0; have hb1' := H'.pkk.b1
  have hv := H.view a
  generalize hx : rdv P W l o (wd a) = x at hv
  generalize tkv P W l o (wd a) = x' at hv
  cases hv with
  | none s hs =>
    obtain ⟨q1, q2⟩ := H'.rqui
    refine ⟨qn p' bias', qn p bias, ?_, ?_, .inl rfl⟩
    · rw [conv_open H H' k mode a m0 m1 ha hx rfl]
      simp only [float_Convert.j0, Bool.false_eq_true, if_false]
      rw [if_pos trivial, H'.pkk.qui, bs]
    · rw [conv_open H' H k mode _ m0 m1 q1 q2 rfl]
      simp only [float_Convert.j0, Bool.false_eq_true, if_false]
      rw [if_pos trivial, H.pkk.qui, bs]
  | inf s hs =>
    obtain ⟨q1, q2⟩ := H'.rinf s hs
    refine ⟨wrap64 (s * T' + (2 * bias' + 1) * ((2 ^ (p' - 1) : Nat) : Int) + 0), _, ?_, ?_, .inr (H.inf a s _ _ ha hx)⟩
    · rw [conv_open H H' k mode a m0 m1 ha hx rfl]
      simp only [float_Convert.j0, Bool.false_eq_true, if_false]
      rw [if_neg (by decide), if_pos trivial, H'.pkk.inf s hs, bs]
    · rw [conv_open H' H k mode _ m0 m1 q1 q2 rfl]
      simp only [float_Convert.j0, Bool.false_eq_true, if_false]
      rw [if_neg (by decide), if_pos trivial, H.pkk.inf s hs, bs]
  | zero s hs =>
    obtain ⟨q1, q2⟩ := H'.rzer s hs
    refine ⟨wrap64 (s * T'), _, ?_, ?_, .inr (H.zer a s _ _ ha hx)⟩
    · rw [conv_open H H' k mode a m0 m1 ha hx rfl]
      simp only [float_Convert.j0, Bool.false_eq_true, if_false]
      rw [if_neg (by decide), if_neg (by decide), if_pos trivial, H'.pkk.zer s hs, bs]
    · rw [conv_open H' H k mode _ m0 m1 q1 q2 rfl]
      simp only [float_Convert.j0, Bool.false_eq_true, if_false]
      rw [if_neg (by decide), if_neg (by decide), if_pos trivial, H.pkk.zer s hs, bs]
  | fin s hs m e hm0 hm1 he0 he1 hl =>
    have hb : blen m ≤ p := blen_le.2 hm1
    have hbp := blen_pos hm0
    obtain ⟨q, hq⟩ : ∃ q : Int, q = max (e + blen m - p') (2 - bias' - p') := ⟨_, rfl⟩
    have hqe : q ≤ e := by omega
    obtain ⟨m2, hm2⟩ : ∃ m2 : Nat, m2 = m * 2 ^ (e - q).toNat := ⟨_, rfl⟩
    have hm20 : m2 ≠ 0 := by rw [hm2]; exact Nat.mul_ne_zero hm0 (Nat.pos_iff_ne_zero.1 (Nat.two_pow_pos _))
    have hb2 : blen m2 = blen m + (e - q).toNat := by rw [hm2, blen_mul_pow hm0]
    have hm21 : m2 < 2 ^ p' := blen_le.1 (by omega)
    have hl2 : m2 < 2 ^ (p' - 1) → q = 2 - bias' - p' := fun h => by
      have := blen_le.2 h
      omega
    have hw : ∀ {j n : Nat}, j ≤ 53 → n < 2 ^ j → n < 18446744073709551616 := fun hj hn => Nat.lt_of_lt_of_le hn (Nat.le_trans (Nat.pow_le_pow_right (by omega) hj) (by decide))
    have r1 := R_exact p' (by omega) bias' mode s m e m2 q hm20 hm21 (by omega) (by omega) hl2 (.inl ⟨hqe, hm2⟩)
    have r2 := R_exact p (by omega) bias mode s m2 q m e hm0 hm1 he0 he1 hl (.inr ⟨hqe, hm2⟩)
    obtain ⟨v1, v2⟩ := H'.rd s m2 q hs hm20 hm21 (by omega) (by omega) hl2
    refine ⟨(pk p' T' s (fl p' bias' m2 q)).1, _, ?_, ?_, .inr (H.wrd a s m e ha hx _ rfl)⟩
    · rw [conv_open H H' k mode a m0 m1 ha hx rfl]
      dsimp only
      rw [conv_fin H'.pkk (k + 2) (by omega) mode s e m hm hs hm0 (hw hp1 hm1) (by omega) (by omega), r1]
      rw [show (pk p' T' s (fl p' bias' m2 q)).2 = 0 from fl_flags ..]
    · rw [conv_open H' H k mode _ m0 m1 v1 v2 rfl]
      dsimp only
      rw [conv_fin H.pkk (k + 2) (by omega) mode s q m2 hm hs hm20 (hw hp1' hm21) (by omega) (by omega), r2]
      rw [show (pk p T s (fl p bias m e)).2 = 0 from fl_flags ..]
end
section
variable {V : Int → Prop} {kind w bias T P W l o : Int} {p : Nat} (H : BK V kind p w bias T P W l o)
include H
theorem make_zero (k : Nat) (mode s e : Int) (m0 : 0 ≤ mode) (m1 : mode < 4) (hs : s = 0 ∨ s = 1) (e0 : -2000 ≤ e) (e1 : e ≤ 2000) : float_Make.f (k + 1) kind mode s 0 e = some (wrap64 (s * T), 0, 0) := by
  unfold float_Make.f
  rw [H.of, bs, if_pos rfl, if_neg (by omega), if_neg (by omega), if_neg (by omega), if_neg (by omega), if_neg (by decide), if_neg (by omega), decide_eq_false (by omega)]
  simp only [float_Make.j0, Bool.false_eq_true, if_false]
  rw [if_pos trivial, H.pkk.zer s hs, bs]
theorem make_fin (k : Nat) (hk : 40000 ≤ k) (mode s e : Int) (N : Nat) (m0 : 0 ≤ mode) (m1 : mode < 4) (hs : s = 0 ∨ s = 1) (hN : N ≠ 0) (hN1 : N < 9223372036854775808) (e0 : -2000 ≤ e) (e1 : e ≤ 2000) :
    float_Make.f (k + 1) kind mode s (N : Int) e = some ((pk p T s (R p bias mode s N e false)).1, (pk p T s (R p bias mode s N e false)).2, 0) := by
  unfold float_Make.f
  rw [H.of, bs, if_pos rfl, if_neg (by omega), if_neg (by omega), if_neg (by omega), if_neg (by omega), if_neg (by omega), if_neg (by omega), decide_eq_false (by omega)]
  simp only [float_Make.j0, Bool.false_eq_true, if_false]
  rw [if_neg (by omega)]
  have e1' : IntKind.u64.wrap (N : Int) = (N : Int) := by rw [wrap_u64]; omega
  have e4 := round_eq H.pkk k hk mode s e false N 0 N ⟨m0, by omega⟩ hs hN (by omega) (by omega) (by omega) (by omega) (by omega) (by simp)
  have e4' : float_shape_round.f k (p : Int) w mode s 0 (N : Int) e false = _ := e4
  rw [e1', e4', bs]
/-- Made of an odd number and what it is to be multiplied by. -/
theorem made (k : Nat) (hk : 40000 ≤ k) (mode a s x : Int) (m N n : Nat) (m0 : 0 ≤ mode) (m1 : mode < 4) (ha : V a) (h : rdv P W l o (wd a) = (1, s, (m : Int), x, true)) (hn : m = N * 2 ^ n) : float_Make.f (k + 1) kind mode s (N : Int) (x + n) = some (a, 0, 0) := by
  have hp0 := H.pkk.p0; have hp1 := H.pkk.p1; have hb0 := H.pkk.b0; have hb1 := H.pkk.b1
  have hv := H.view a
  rw [h] at hv
  generalize tkv P W l o (wd a) = x' at hv
  generalize hmm : (m : Int) = mm at hv
  cases hv with
  | fin s hs m' e hm0 hm1 he0 he1 hl =>
    obtain rfl : m = m' := by omega
    have hN : N ≠ 0 := by rintro rfl; simp at hn; exact hm0 hn
    have hb : blen m ≤ p := blen_le.2 hm1
    have hbN : blen m = blen N + n := by rw [hn, blen_mul_pow hN]
    have hNp := blen_pos hN
    have hN1 : N < 2 ^ 53 := blen_le.1 (by omega)
    have hN2 : (2 : Nat) ^ 53 = 9007199254740992 := by decide
    rw [make_fin H k hk mode s (x + n) N m0 m1 hs hN (by omega) (by omega) (by omega)]
    rw [R_exact p (by omega) bias mode s N (x + n) m x hm0 hm1 he0 he1 hl (.inl ⟨by omega, by rw [show (x + (n : Int) - x).toNat = n by omega]; exact hn⟩)]
    rw [H.wrd a s m x ha h _ rfl, show (pk p T s (fl p bias m x)).2 = 0 from fl_flags ..]
end
end Go.Proofs.YtgpnmifejgdipaaDoor.Pf
