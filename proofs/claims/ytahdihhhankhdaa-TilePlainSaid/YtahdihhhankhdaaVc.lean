/-
  V: extents, references, loads. By the session's own hand.
-/
import Derived.Test.YtahdihhhankhdaaVb
set_option linter.unusedVariables false
set_option linter.unusedSimpArgs false
set_option maxRecDepth 100000
set_option linter.all false
set_option linter.unnecessarySimpa false
set_option linter.deprecated false
namespace Go.Proofs.Ytahdihhhankhdaa.V
open Go.Proofs.YtahdihhhankhdaaVY Go.RowKit
def R64 : Ct := fun ss hp r out => ∃ (l : List Int), ss = [.one (.d (.sl 1 (l.map inC)))] ∧ hp = [] ∧ l.length ≤ 4194304 ∧ r = .one (.own 0) ∧ out = [.row 1 (l.map inC)]
set_option maxHeartbeats 4000000 in
theorem ok64 : VSound Try.prog (64, R64) := by
  refine vsound (T := ty) (F := []) (pl := []) (nw := true) (cuts := []) mix tyOk .nil Try.func64 (by kernel_rfl) (by kernel_rfl) ?_
  rintro _ _ _ _ ⟨l, rfl, rfl, hl, rfl, rfl⟩
  conv => whnf
  refine ⟨fun h0 => ?_, ?_⟩
  · conv => whnf
    refine ⟨[.slot 2 true], ?_⟩
    conv => whnf
    have : l = [] := by simpa using h0
    subst this
    exact ⟨[0], by simp, .cons ⟨_, rfl, rfl, rfl⟩ .nil, rfl⟩
  · conv => whnf
    refine ⟨?_, ?_⟩
    · simp; omega
    conv => whnf
    refine ⟨[], ?_⟩
    conv => whnf
    exact ⟨[0], by simp, .cons ⟨_, rfl, rfl, rfl⟩ .nil, rfl⟩
end Go.Proofs.Ytahdihhhankhdaa.V

