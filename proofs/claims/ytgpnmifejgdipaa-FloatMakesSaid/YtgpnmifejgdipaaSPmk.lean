/-
  FloatMakes: Make is what the reference says. By the session's own hand.
-/
import Derived.Test.YtgpnmifejgdipaaSPfi
import Derived.Test.YtgpnmifejgdipaaSPaw
import Derived.Test.YtgpnmifejgdipaaDf
set_option linter.unusedVariables false
namespace Go.Proofs.Ytgpnmifejgdipaa.Pf
open Go.RowKit Go.Proofs.Ytgpnmifejgdipaa.My Go.Proofs.Ytgpnmifejgdipaa.RM Go.Proofs.YtgpnmifejgdipaaW.PrintWords Go.Proofs.YtgpnmifejgdipaaW.PrintLast Go.Proofs.YtgpnmifejgdipaaW.PrintMore
theorem make_bad (k : Nat) (kind mode s m e : Int) (p w : Int) (x : Bool) (hx : x = true) : float_Make.j0 (k + 1) mode s m e x p w = some (0, 0, 2) ∧ quadratref01_Make.j0 (k + 1) kind mode s m e x = some (0, 0, 2) := by
  subst hx; exact ⟨by simp only [float_Make.j0, if_true], by simp only [quadratref01_Make.j0, if_true]⟩
theorem make_eq (k : Nat) (hk : 100200 ≤ k) (kind mode s m e : Int) (h0 : -9223372036854775808 ≤ m) (h1 : m < 9223372036854775808) :
    ∃ r, float_Make.f k kind mode s m e = some r ∧ quadratref01_Make.f k kind mode s m e = some r := by
  obtain ⟨k, rfl⟩ : ∃ m, k = m + 1 := ⟨k - 1, by omega⟩
  unfold float_Make.f quadratref01_Make.f
  rcases kinds kind with ⟨p, w, bias, T, hr, hp, hof⟩ | ⟨hd, p, w, hof⟩
  · have hp0 := hp.p0
    rw [hof, bs, hr.dig, bs, if_pos rfl, if_neg (show ¬ (p : Int) = 0 by omega)]
    have bad := fun (x : Bool) (hx : x = true) => make_bad k kind mode s m e p w x hx
    by_cases hm : mode < 0 ∨ 4 ≤ mode
    · refine ⟨(0, 0, 2), ?_, ?_⟩
      · by_cases hm0 : mode < 0
        · rw [if_pos hm0]; exact (bad true rfl).1
        · rw [if_neg hm0, if_pos (by omega)]; exact (bad true rfl).1
      · rw [isMode_bad mode hm, bs, if_neg (by simp)]; exact (bad true rfl).2
    · rw [if_neg (by omega), if_neg (by omega), isMode_ok mode (by omega) (by omega), bs, if_pos rfl]
      by_cases c1 : s < 0
      · rw [if_pos c1, if_pos c1]; exact ⟨_, bad true rfl⟩
      rw [if_neg c1, if_neg c1]
      by_cases c2 : s > 1
      · rw [if_pos c2, if_pos c2]; exact ⟨_, bad true rfl⟩
      rw [if_neg c2, if_neg c2]
      by_cases c3 : m < 0
      · rw [if_pos c3, if_pos c3]; exact ⟨_, bad true rfl⟩
      rw [if_neg c3, if_neg c3]
      by_cases c4 : e < -2000
      · rw [if_pos c4, if_pos c4]; exact ⟨_, bad true rfl⟩
      rw [if_neg c4, if_neg c4]
      by_cases c5 : e > 2000
      · exact ⟨_, bad _ (decide_eq_true c5)⟩
      rw [decide_eq_false c5]
      have hs : s = 0 ∨ s = 1 := by omega
      simp only [float_Make.j0, quadratref01_Make.j0, Bool.false_eq_true, if_false]
      by_cases hz : m = 0
      · rw [if_pos hz, if_pos hz, hp.zer s hs, bs, hr.zer s hs, bs]; exact ⟨_, rfl, rfl⟩
      · rw [if_neg hz, if_neg hz]
        have e1 : IntKind.u64.wrap m = (m.toNat : Int) := by rw [wrap_u64]; omega
        have e3 := Of_pos' k (by omega) m (by omega) h1
        have hb : blen m.toNat ≤ 64 := blen_word (by omega)
        have e4 := round_eq hp k (by omega) mode s e false m.toNat 0 m.toNat (by omega) hs (by omega) (by omega) (by omega) (by omega) (by omega) (by omega) (by simp)
        have e5 := rounded_eq hr k (by omega) mode s e false m.toNat (by omega) hs (by omega) (by omega) (by omega) (by omega)
        rw [e1, e3, bs, e5, bs]
        have e4' : float_shape_round.f k (p : Int) w mode s 0 (m.toNat : Int) e false = _ := e4
        rw [e4', bs]
        exact ⟨_, rfl, rfl⟩
  · rw [hof, bs, hd, bs, if_pos rfl, if_neg (by simp)]
    exact ⟨_, make_bad k kind mode s m e p w true rfl⟩
theorem FloatMakes (kind mode s m e : Int) (h0 : -9223372036854775808 ≤ m) (h1 : m < 9223372036854775808) : ∃ k, quadratlaw01_FloatMakes.f k kind mode s m e = some true := by
  refine ⟨200000, ?_⟩
  obtain ⟨r, h1, h2⟩ := make_eq 200000 (by omega) kind mode s m e h0 h1
  unfold quadratlaw01_FloatMakes.f
  have ha : quadratlaw01_Awake.f 200000 = some true := awake 199900
  rw [h1, bs, h2, bs, if_pos rfl, if_pos rfl, if_pos rfl, ha, bs]
end Go.Proofs.Ytgpnmifejgdipaa.Pf
