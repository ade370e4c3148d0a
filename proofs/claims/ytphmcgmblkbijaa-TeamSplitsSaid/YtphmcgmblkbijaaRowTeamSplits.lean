import Derived.Test.YtphmcgmblkbijaaGTeamSplits2
import Derived.Test.YtphmcgmblkbijaaRows
import Derived.Test.YtphmcgmblkbijaaVy17
import Derived.WalkKit
import Derived.ProofKit
import Derived.OpenShut
import Derived.ShutString
import Derived.ChangeOld
import Derived.Below
import Derived.SizedLaws
import Derived.JoinedCond
import Derived.Deep.CondSized
set_option linter.unusedSimpArgs false
set_option linter.all false
set_option linter.unnecessarySimpa false
set_option linter.deprecated false
namespace Go.Proofs.Ytphmcgmblkbijaa.teamSplits
open Go.ChangeShapes Go.WideShapes Go.ChangeAt Go.RowKit Go.Proofs.YtphmcgmblkbijaaVY
open Go.ChangeMaps (open_string shut_string)
set_option linter.unusedVariables false
theorem own : ownKnob Try.prog.godebug = none := by kernel_rfl
set_option maxRecDepth 100000 in
theorem lifted (os : Os) (started : os.Started) (H : Type) (enc : TypeId × Value → H) :
    ReturnsInHanded {} Try.checked os 5 .any (Rows.teamSplitsSpec.pre6 enc Try.prog Try.f5 Rows.teamSplitsRow.domain false) (Rows.teamSplitsSpec.post enc Try.prog Try.f5 false true false false) := by
  refine returnsInHanded_of_change_sized (C := Try.checked) own started (by kernel_rfl) Try.func5
    (ChangeSpec.witness6 (enc := enc) (C := Try.checked) false ⟨#[], #[.int .i64 0, .slice none 0 0], []⟩ 8 (by kernel_rfl) (by kernel_rfl) (by kernel_rfl) (by kernel_rfl)) ?_
  intro W base args ds gs before hval0 hW hcnd hsz0 _
  have hsz : (DataW.weightsEach Try.prog (Try.f5.params.toList ++ Rows.teamSplitsSpec.plain.varTypes Try.prog) (ds ++ gs)).all (· ≤ reachBytes) = true := hsz0
  have hval : ∀ (j : Nat) t v, Try.f5.params[j]? = some t → args[j]? = some v → Value.okWide Try.prog W .any base t v := hval0
  have hW' := hW
  obtain ⟨p, q, hA0, hV, rfl, hfz, hnd⟩ := hW
  have hA : DataW.TrodAll enc Try.prog W 0 (fun _ => true) true Try.f5.params.toList args.toList ds p := hA0
  have hlt := hW'.lt
  obtain ⟨rfl, rfl⟩ := trodVars_none hV
  rw [show Rows.teamSplitsSpec.plain.varTypes Try.prog = [] from rfl, List.append_nil, List.append_nil] at hsz
  rw [Try.params5] at hA hval hsz
  obtain ⟨m, ls, h1, h2, h3, hB⟩ := trodAll_sh (S := [3, 22, 36, 42]) (gs := []) (by kernel_rfl) hA (by kernel_rfl) hsz
  have hB := hB _ V.meas
  have ha := args_rel (fun j t v a b => hval j t v (by simpa using a) (by simpa using b)) h1 h2 h3
  obtain ⟨d0, d1, rfl⟩ : ∃ d0 d1, ds = [d0, d1] := by
    match ds, trodAll_len hA with
    | [x0, x1], _ => exact ⟨x0, x1, rfl⟩
  obtain ⟨n0, n1, rfl⟩ : ∃ n0 n1, m = [n0, n1] := by
    match m, h3 with
    | [x0, x1], _ => exact ⟨x0, x1, rfl⟩
  cases h2 with
  | cons g0 h2 =>
  cases h2 with
  | cons g1 h2 =>
  cases h2
  obtain ⟨x0, rfl, _⟩ := sh_int Try.underlying3 g0
  obtain ⟨x1, rfl, b1⟩ := V.sh_acts g1
  simp only [dBL, Nat.add_zero] at hB
  clear hval0 hsz0 hsz
  simp only [argSs, argS, Try.underlying3, Try.underlying36] at ha
  refine (V.law_row V.ok5 (by kernel_rfl) (W := W) (args := args) ⟨fun _ _ h => by cases h⟩ ha ⟨x0, x1, rfl, rfl, b1, rfl, rfl⟩).mono fun e W' ⟨he, bel⟩ => ?_
  subst he
  exact ⟨_, rfl, _, _, _, [], _, [], hW', trodAll_mk1 (shut_bool Try.underlying4 _), trodAll_later (by kernel_rfl) hA0 (by kernel_rfl) bel (fun x hx => by simpa using hlt x (by simpa using hx)), rfl, bel.frame _, fun h => by cases h⟩
theorem over : Rows.teamSplitsRow.holds Try.pinned (OpenSpec.ofChange Rows.teamSplitsSpec) :=
  OpenClaim.holds_of_wide 5 Try.f5 rfl rfl rfl rfl rfl rfl rfl ⟨rfl, rfl, rfl, rfl, rfl⟩ rfl rfl rfl rfl rfl (by kernel_rfl) Try.func5 (by kernel_rfl)
    (of_decide_eq_true (by kernel_rfl)) (by unfold Func.isWrapper; first | (rw [if_pos (by decide +kernel)]; kernel_rfl) | (rw [if_neg (by decide +kernel)]; exact ⟨rfl, rfl⟩))
    (fun os started H enc _ => lifted os started H enc)
theorem proved : Rows.TeamSplitsSaid := over
end Go.Proofs.Ytphmcgmblkbijaa.teamSplits
namespace Go.Proofs.Ytphmcgmblkbijaa
/-- The row, under a short name, for the claim. -/
theorem teamSplits_holds : Rows.TeamSplitsSaid := teamSplits.proved
end Go.Proofs.Ytphmcgmblkbijaa
