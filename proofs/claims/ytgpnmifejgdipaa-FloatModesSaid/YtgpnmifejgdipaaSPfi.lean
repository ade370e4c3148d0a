/-
  FloatInts, the first half: FromInt is what the reference says. By the session's own hand.
-/
import Derived.Test.YtgpnmifejgdipaaSPk
import Derived.Test.YtgpnmifejgdipaaSPl
import Derived.Test.YtgpnmifejgdipaaDf
set_option linter.unusedVariables false
set_option linter.unusedSimpArgs false
set_option linter.unusedVariables false
namespace Go.Proofs.Ytgpnmifejgdipaa.Pf
open Go.RowKit Go.Proofs.Ytgpnmifejgdipaa.My Go.Proofs.Ytgpnmifejgdipaa.RM Go.Proofs.YtgpnmifejgdipaaW.PrintWords Go.Proofs.YtgpnmifejgdipaaW.PrintLast Go.Proofs.YtgpnmifejgdipaaW.PrintMore

/-- The three kinds, or none. -/
theorem kinds (kind : Int) : (∃ (p : Nat) (w bias T : Int), RK kind p bias T ∧ PK p w bias T ∧ float_of.f kind = some ((p : Int), w, true)) ∨ (quadratref01_Digits.f kind = some 0 ∧ ∃ p w, float_of.f kind = some (p, w, false)) := by
  by_cases h2 : kind = 2
  · subst h2; exact .inl ⟨11, 5, 15, 32768, rk_2, pk_2, by kernel_rfl⟩
  by_cases h4 : kind = 4
  · subst h4; exact .inl ⟨24, 8, 127, 2147483648, rk_4, pk_4, by kernel_rfl⟩
  by_cases h8 : kind = 8
  · subst h8; exact .inl ⟨53, 11, 1023, 9223372036854775808, rk_8, pk_8, by kernel_rfl⟩
  refine .inr ⟨?_, 0, 0, ?_⟩
  · unfold quadratref01_Digits.f; rw [if_neg h2, if_neg h4, if_neg h8]
  · unfold float_of.f; rw [if_neg h2, if_neg h4, if_neg h8]
theorem fromInt_eq (k : Nat) (hk : 100200 ≤ k) (kind mode n : Int) (h0 : -9223372036854775808 ≤ n) (h1 : n < 9223372036854775808) :
    ∃ r, float_FromInt.f k kind mode n = some r ∧ quadratref01_FromInt.f k kind mode n = some r := by
  obtain ⟨k, rfl⟩ : ∃ m, k = m + 1 := ⟨k - 1, by omega⟩
  unfold float_FromInt.f quadratref01_FromInt.f
  rcases kinds kind with ⟨p, w, bias, T, hr, hp, hof⟩ | ⟨hd, p, w, hof⟩
  · have hp0 := hp.p0
    rw [hof, bs, hr.dig, bs, if_pos rfl, if_neg (show ¬ (p : Int) = 0 by omega)]
    by_cases hm : mode < 0 ∨ 4 ≤ mode
    · refine ⟨(0, 0, 2), ?_, ?_⟩
      · by_cases hm0 : mode < 0
        · rw [if_pos hm0]; simp only [float_FromInt.j0, if_true]
        · rw [if_neg hm0, decide_eq_true (by omega)]; simp only [float_FromInt.j0, if_true]
      · rw [isMode_bad mode hm, bs]; simp only [quadratref01_FromInt.j0, Bool.not_false, if_true]
    · rw [if_neg (by omega), decide_eq_false (by omega), isMode_ok mode (by omega) (by omega), bs]
      simp only [float_FromInt.j0, quadratref01_FromInt.j0, Bool.not_true, Bool.false_eq_true, if_false]
      by_cases hz : n = 0
      · rw [if_pos hz, if_pos hz, hp.zer 0 (.inl rfl), bs, hr.zer 0 (.inl rfl), bs]; exact ⟨_, rfl, rfl⟩
      · rw [if_neg hz, if_neg hz]
        by_cases hn : n < 0
        · have e1 : IntKind.u64.wrap (-IntKind.u64.wrap n) = ((-n).toNat : Int) := by rw [wrap_u64, wrap_u64]; omega
          have e2 : (wd (wrap64 (-n))).toNat = (-n).toNat := by unfold wd wrap64; omega
          have e3 : quadratref01_Of.f k (wrap64 (-n)) = some (nat (-n).toNat) := by
            obtain ⟨j, rfl⟩ : ∃ j, k = j + 70 := ⟨k - 70, by omega⟩
            rw [Of_eq, e2]
          have hb : blen (-n).toNat ≤ 64 := blen_word (by omega)
          have e4 := round_eq hp k (by omega) mode 1 0 false (-n).toNat 0 (-n).toNat (by omega) (.inr rfl) (by omega) (by omega) (by omega) (by omega) (by omega) (by omega) (by simp)
          have e5 := rounded_eq hr k (by omega) mode 1 0 false (-n).toNat (by omega) (.inr rfl) (by omega) (by omega) (by omega) (by omega)
          rw [if_pos hn, if_pos hn, e1, e3, bs, e5, bs]
          rw [show (0 : Int) = ((0 : Nat) : Int) from rfl] at e4 ⊢
          rw [e4, bs]
          exact ⟨_, rfl, rfl⟩
        · have e1 : IntKind.u64.wrap n = (n.toNat : Int) := by rw [wrap_u64]; omega
          have e3 := Of_pos' k (by omega) n (by omega) h1
          have hb : blen n.toNat ≤ 64 := blen_word (by omega)
          have e4 := round_eq hp k (by omega) mode 0 0 false n.toNat 0 n.toNat (by omega) (.inl rfl) (by omega) (by omega) (by omega) (by omega) (by omega) (by omega) (by simp)
          have e5 := rounded_eq hr k (by omega) mode 0 0 false n.toNat (by omega) (.inl rfl) (by omega) (by omega) (by omega) (by omega)
          rw [if_neg hn, if_neg hn, e1, e3, bs, e5, bs]
          rw [show (0 : Int) = ((0 : Nat) : Int) from rfl] at e4 ⊢
          rw [e4, bs]
          exact ⟨_, rfl, rfl⟩
  · rw [hof, bs, hd, bs, if_pos rfl, if_neg (by simp)]
    simp only [float_FromInt.j0, quadratref01_FromInt.j0, if_true]
    exact ⟨_, rfl, rfl⟩
end Go.Proofs.Ytgpnmifejgdipaa.Pf
