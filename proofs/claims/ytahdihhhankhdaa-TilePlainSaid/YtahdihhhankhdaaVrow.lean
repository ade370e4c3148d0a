/-
  V: a contract over a law's arguments. By the session's own hand.
-/
import Derived.Test.YtahdihhhankhdaaVh
import Derived.Below
import Derived.RowKit
set_option linter.unusedSimpArgs false
set_option linter.unusedVariables false
set_option linter.all false
set_option linter.unnecessarySimpa false
set_option linter.deprecated false
namespace Go.Proofs.Ytahdihhhankhdaa.V
open Go.Proofs.YtahdihhhankhdaaVY Go.RowKit
theorem law_row {f : Nat} {R : Ct} (h : VSound Try.prog (f, R)) (he : enterB Try.prog f = true) {W : World} {args : Array Value} {ss : List S} (hG : GP (fun _ => False) W) (ha : All2 (SRel [] (fun _ => False) W) args.toList ss) (hR : R ss [] (.db true) []) :
    Calls Try.prog f args W fun e W' => e = .returned (.bool true) ∧ Below W.heap.size W W' := by
  have hn : ∀ b, ¬ Live [] [] b := by rintro b ⟨_, _, _, h, _⟩; simp at h
  have ha' : All2 (SRel [] (Av (fun _ => False) [] []) W) args.toList ss := ha.imp fun _ _ h => SRel.less (fun b hb => hb.elim id (hn b)) h
  have hp0 : HpRel (fun _ => False) [] [] W := ⟨rfl, fun _ _ _ h => by simp at h, fun _ _ _ _ _ _ _ h => by simp at h, fun b h => absurd h (hn b)⟩
  rcases h with ⟨ho, _⟩ | hx
  · refine (ho (fun _ => False) W args ss [] [] (.db true) [] hG (fun _ h => h.elim) hp0 (fun b h => absurd h (hn b)) ha' hR).mono ?_
    rintro e w' ⟨v, ρ, rfl, hs, hh, hg, hst, hsame, _⟩
    exact ⟨by rw [sdb_inv hs], hst.os, hst.tape, hst.output, hg, fun b hb => hsame b hb (hn b)⟩
  · obtain ⟨v, ρ, w', hrun, _⟩ := hx (fun _ => False) W args ss [] [] (.db true) [] hG (fun _ h => h.elim) hp0 ha' hR
    rw [run_enter (enterB_ok he) args] at hrun
    cases hrun
end Go.Proofs.Ytahdihhhankhdaa.V

