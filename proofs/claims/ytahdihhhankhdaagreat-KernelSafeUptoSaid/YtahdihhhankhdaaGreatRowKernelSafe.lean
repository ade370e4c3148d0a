import Derived.Test.YtahdihhhankhdaaGreatGKernelSafe3
import Derived.Test.YtahdihhhankhdaaGreatRows
import Derived.Test.YtahdihhhankhdaaGreatVy17
import Derived.WalkKit
import Derived.ProofKit
import Derived.OpenShut
import Derived.ShutString
import Derived.ChangeOld
import Derived.Below
import Derived.SizedLaws
import Derived.JoinedCond
import Derived.Deep.CondSized
set_option linter.unusedSimpArgs false
set_option linter.all false
set_option linter.unnecessarySimpa false
set_option linter.deprecated false
namespace Go.Proofs.YtahdihhhankhdaaGreat.kernelSafe
open Go.ChangeShapes Go.WideShapes Go.ChangeAt Go.RowKit Go.Proofs.YtahdihhhankhdaaGreatVY
open Go.ChangeMaps (open_string shut_string)
set_option linter.unusedVariables false
theorem own : ownKnob Tryz.prog.godebug = none := by kernel_rfl
set_option maxRecDepth 100000 in
theorem lifted (os : Os) (started : os.Started) (H : Type) (enc : TypeId × Value → H) (F : Stop.Interp) :
    ReturnsInHanded {} Tryz.checked os 3 .any ((Rows.OpenSpec.upto Rows.kernelSafeSpec).pre6 enc Tryz.prog Tryz.f3 Rows.kernelSafeUptoRow.domain false) (((Rows.OpenSpec.upto Rows.kernelSafeSpec).at F).post enc Tryz.prog Tryz.f3 false true false false) := by
  refine returnsInHanded_of_cond_sized (C := Tryz.checked) (s := Rows.OpenSpec.upto Rows.kernelSafeSpec) (k := Rows.uptoSmall) rfl own started (by kernel_rfl) Tryz.func3
    (OpenSpec.witness (enc := enc) (C := Tryz.checked) (s := Rows.OpenSpec.upto Rows.kernelSafeSpec) (k := Rows.uptoSmall) rfl false ⟨#[], #[.agg #[.slice none 0 0, .slice none 0 0], .int .i64 0], []⟩ 8 (by kernel_rfl) (by kernel_rfl) (by kernel_rfl)
      (x := ([.agg [.nil, .nil], .lit (.int .i64 0)], [], [])) (by kernel_rfl) rfl (by kernel_rfl)) ?_
  intro W base args ds gs before hval0 hW hcnd hk hsz0 _
  have hsz : (DataW.weightsEach Tryz.prog (Tryz.f3.params.toList ++ Rows.kernelSafeSpec.plain.varTypes Tryz.prog) (ds ++ gs)).all (· ≤ reachBytes) = true := hsz0
  have hval : ∀ (j : Nat) t v, Tryz.f3.params[j]? = some t → args[j]? = some v → Value.okWide Tryz.prog W .any base t v := hval0
  have hW' := hW
  obtain ⟨p, q, hA0, hV, rfl, hfz, hnd⟩ := hW
  have hA : DataW.TrodAll enc Tryz.prog W 0 (fun _ => true) true Tryz.f3.params.toList args.toList ds p := hA0
  have hlt := hW'.lt
  obtain ⟨rfl, rfl⟩ := trodVars_none hV
  rw [show Rows.kernelSafeSpec.plain.varTypes Tryz.prog = [] from rfl, List.append_nil, List.append_nil] at hsz
  rw [Tryz.params3] at hA hval hsz
  obtain ⟨m, ls, h1, h2, h3, hB⟩ := trodAll_sh (S := [3, 9, 22, 23, 25, 39, 42, 44, 46]) (gs := []) (by kernel_rfl) hA (by kernel_rfl) hsz
  have hB := hB _ V.meas
  have ha := args_rel (fun j t v a b => hval j t v (by simpa using a) (by simpa using b)) h1 h2 h3
  rw [List.append_nil] at hk
  have hk1 := V.small_bd hk
  have hB1 := Nat.le_trans hB hk1
  obtain ⟨d0, d1, rfl⟩ : ∃ d0 d1, ds = [d0, d1] := by
    match ds, trodAll_len hA with
    | [x0, x1], _ => exact ⟨x0, x1, rfl⟩
  obtain ⟨n0, n1, rfl⟩ : ∃ n0 n1, m = [n0, n1] := by
    match m, h3 with
    | [x0, x1], _ => exact ⟨x0, x1, rfl⟩
  cases h2 with
  | cons g0 h2 =>
  cases h2 with
  | cons g1 h2 =>
  cases h2
  obtain ⟨x0, rfl, b0⟩ := V.sh_kern g0
  obtain ⟨x1, rfl, _⟩ := sh_int Tryz.underlying3 g1
  simp only [dBL, Nat.add_zero] at hB hB1
  clear hval0 hsz0 hsz
  simp only [argSs, argS, Tryz.underlying25, Tryz.underlying3] at ha
  refine (V.law_row V.ok3 (by kernel_rfl) (W := W) (args := args) ⟨fun _ _ h => by cases h⟩ ha ⟨x0, x1, rfl, rfl, by omega, rfl, rfl⟩).mono fun e W' ⟨he, bel⟩ => ?_
  subst he
  exact ⟨_, rfl, _, _, _, [], _, [], hW', trodAll_mk1 (shut_bool Tryz.underlying4 _), trodAll_later (by kernel_rfl) hA0 (by kernel_rfl) bel (fun x hx => by simpa using hlt x (by simpa using hx)), rfl, bel.frame _, fun h => by cases h⟩
theorem over : Rows.kernelSafeUptoRow.holds Tryz.pinned (Rows.OpenSpec.upto Rows.kernelSafeSpec) :=
  OpenClaim.holds_of_cond 3 Tryz.f3 rfl rfl rfl rfl rfl rfl rfl ⟨rfl, rfl, rfl, rfl, rfl⟩ rfl rfl rfl rfl rfl (by kernel_rfl) Tryz.func3 (by kernel_rfl)
    (of_decide_eq_true (by kernel_rfl)) (by unfold Func.isWrapper; first | (rw [if_pos (by decide +kernel)]; kernel_rfl) | (rw [if_neg (by decide +kernel)]; exact ⟨rfl, rfl⟩))
    (fun os started H enc _ F => lifted os started H enc F)
theorem proved : Rows.KernelSafeUptoSaid := over
end Go.Proofs.YtahdihhhankhdaaGreat.kernelSafe
namespace Go.Proofs.YtahdihhhankhdaaGreat
/-- The row, under a short name, for the claim. -/
theorem kernelSafe_holds : Rows.KernelSafeUptoSaid := kernelSafe.proved
end Go.Proofs.YtahdihhhankhdaaGreat
