/-
  V: tilings out of arguments. By the session's own hand.
-/
import Derived.Test.YtahdihhhankhdaaVacc
set_option linter.unusedVariables false
set_option linter.unusedSimpArgs false
set_option maxRecDepth 100000
set_option linter.all false
set_option linter.unnecessarySimpa false
set_option linter.deprecated false
namespace Go.Proofs.Ytahdihhhankhdaa.V
open Go.Proofs.YtahdihhhankhdaaVY Go.RowKit
theorem sh_tiling {m : Nat} {l : List D} (h : Sh Try.prog m 50 l) : ∃ x : List Int × List Int × List Int, l = [.sl 1 (x.1.map inC), .sl 1 (x.2.1.map inC), .sl 1 (x.2.2.map inC)] ∧ 0 ≤ dBs l := by
  obtain ⟨m', parts, _, rfl, hp⟩ := sh_struct Try.underlying50 h
  cases hp with
  | cons h1 hp =>
  cases hp with
  | cons h2 hp =>
  cases hp with
  | cons h3 hp =>
  cases hp
  obtain ⟨a, rfl, _⟩ := sh_ints h1
  obtain ⟨b, rfl, _⟩ := sh_ints h2
  obtain ⟨c, rfl, _⟩ := sh_ints h3
  exact ⟨(a, b, c), rfl, Nat.zero_le _⟩
end Go.Proofs.Ytahdihhhankhdaa.V

