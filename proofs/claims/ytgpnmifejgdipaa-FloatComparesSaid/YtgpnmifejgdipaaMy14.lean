-- PRINTED by print.py (a twelfth state) out of the translation. Not trusted: Lean checks it.
import Derived.Test.YtgpnmifejgdipaaMy0
import Derived.Test.YtgpnmifejgdipaaMy10
namespace Go.Proofs.Ytgpnmifejgdipaa.My
open Go.RowKit Go.Proofs.YtgpnmifejgdipaaW.PrintWords Go.Proofs.YtgpnmifejgdipaaW.PrintLast Go.Proofs.YtgpnmifejgdipaaW.PrintMore
attribute [local go_sem] max2_int min2_int max_two min_two max_three min_three max_four min_four   -- for this text's walks alone
set_option linter.unusedVariables false
set_option linter.unusedSimpArgs false

/-! ### quadratref01_Zero: function 50 -/
def quadratref01_Zero.f (a0 : Int) (a1 : Int) : Option (Int) := (quadratref01_bits.f a0 a1 0 0).bind fun t258 => (some t258)
set_option maxHeartbeats 8000000 in
set_option maxRecDepth 100000 in
theorem quadratref01_Zero.calls (a0 : Int) (a1 : Int) (r : Int) (w : World) (h : quadratref01_Zero.f a0 a1 = some r) :
    Calls Try.prog 50 #[.int .i64 a0, .int .i64 a1] w fun e w' => e = .returned (.int .i64 r) ∧ Drawn0 w w' := by
  have H : ((quadratref01_bits.f a0 a1 0 0).bind fun t258 => (some t258)) = some r := h
  clear h
  replace H := Option.bind_eq_some_iff.mp H
  obtain ⟨t258, A30, H⟩ := H
  replace H : (some t258) = some r := H
  have A3 := Aside0.mk A30
  clear A30
  obtain rfl := Option.some.inj H
  go_enter Try.func50, Try.ntmps50
  go_wp2_with (first | ((with_reducible refine gate_callee (f := 65) rfl ?_); refine goesL_ (some 7) rfl rfl Try.func65 (by kernel_rfl) rfl #[.int .i64 a0, .int .i64 a1, .int .i64 0, .int .i64 0] rfl (by (try simp only [List.map_toArray, List.map_cons, List.map_nil]); first | done | rfl | (simp only [List.length_drop, List.length_take]; rfl)) ?_; (with_reducible refine (quadratref01_bits.calls a0 a1 0 0 t258 _ A3.out).mono ?_); rintro e w' ⟨rfl, ⟨nd, rfl⟩⟩; refine ⟨_, rfl, ?_⟩))
  go_ret
  exact ⟨by first | rfl | (simp; done) | (simp [*]; done), by repeat (first | exact Drawn0.refl _ | apply Drawn0.step)⟩

end Go.Proofs.Ytgpnmifejgdipaa.My
