/-
  FloatModes: whatever the input, the law returns true, and the input reads as it did; no condition.
-/
import Derived.Test.YtgpnmifejgdipaaFgFloatModes6
import Derived.Test.YtgpnmifejgdipaaSPmo
import Derived.Test.YtgpnmifejgdipaaRows
import Derived.Test.YtgpnmifejgdipaaVx17
import Derived.WalkKit
import Derived.ProofKit
import Derived.OpenShut
import Derived.ShutString
import Derived.ChangeOld
import Derived.Below
import Derived.SizedLaws
set_option linter.unusedSimpArgs false
namespace Go.Proofs.Ytgpnmifejgdipaa.floatModes
open Go.ChangeShapes Go.WideShapes Go.ChangeAt Go.RowKit Go.Proofs.YtgpnmifejgdipaaVX
open Go.ChangeMaps (open_string shut_string)
set_option linter.unusedVariables false
theorem own : ownKnob Try.prog.godebug = none := by kernel_rfl
set_option maxRecDepth 100000 in
theorem lifted (os : Os) (started : os.Started) (H : Type) (enc : TypeId × Value → H) :
    ReturnsInHanded {} Try.checked os 12 .any (Rows.floatModesSpec.pre6 enc Try.prog Try.f12 Rows.floatModesRow.domain false) (Rows.floatModesSpec.post enc Try.prog Try.f12 false true false false) := by
  refine returnsInHanded_of_change_sized (C := Try.checked) own started (by kernel_rfl) Try.func12
    (ChangeSpec.witness6 (enc := enc) (C := Try.checked) false ⟨#[], #[.int .i64 0, .int .i64 0, .int .i64 0], []⟩ 8 (by kernel_rfl) (by kernel_rfl) (by kernel_rfl) (by kernel_rfl)) ?_
  intro W base args ds gs before hval0 hW hcnd hsz0 _
  have hsz : (DataW.weightsEach Try.prog (Try.f12.params.toList ++ Rows.floatModesSpec.plain.varTypes Try.prog) (ds ++ gs)).all (· ≤ reachBytes) = true := hsz0
  have hval : ∀ (j : Nat) t v, Try.f12.params[j]? = some t → args[j]? = some v → Value.okWide Try.prog W .any base t v := hval0
  have hW' := hW
  obtain ⟨p, q, hA0, hV, rfl, hfz, hnd⟩ := hW
  have hA : DataW.TrodAll enc Try.prog W 0 (fun _ => true) true Try.f12.params.toList args.toList ds p := hA0
  have hlt := hW'.lt
  obtain ⟨rfl, rfl⟩ := trodVars_none hV
  rw [show Rows.floatModesSpec.plain.varTypes Try.prog = [] from rfl, List.append_nil, List.append_nil] at hsz
  rw [Try.params12] at hA hval hsz
  obtain ⟨m, ls, h1, h2, h3⟩ := trodAll_sh (S := [3]) (gs := []) (by kernel_rfl) hA (by kernel_rfl) hsz
  have ha := args_rel (fun j t v a b => hval j t v (by simpa using a) (by simpa using b)) h1 h2 h3
  obtain ⟨d0, d1, d2, rfl⟩ : ∃ d0 d1 d2, ds = [d0, d1, d2] := by
    match ds, trodAll_len hA with
    | [x0, x1, x2], _ => exact ⟨x0, x1, x2, rfl⟩
  obtain ⟨n0, n1, n2, rfl⟩ : ∃ n0 n1 n2, m = [n0, n1, n2] := by
    match m, h3 with
    | [x0, x1, x2], _ => exact ⟨x0, x1, x2, rfl⟩
  cases h2 with
  | cons g0 h2 =>
  obtain ⟨a0, rfl, w0⟩ := sh_int Try.underlying3 g0
  have b0 := wf_i64 w0
  cases h2 with
  | cons g1 h2 =>
  obtain ⟨a1, rfl, w1⟩ := sh_int Try.underlying3 g1
  have b1 := wf_i64 w1
  cases h2 with
  | cons g2 h2 =>
  obtain ⟨a2, rfl, w2⟩ := sh_int Try.underlying3 g2
  have b2 := wf_i64 w2
  cases h2
  clear hval0 hsz0 hsz
  obtain ⟨k, hk⟩ := Pf.FloatModes a0 a1 a2 b1.1 b1.2 b2.1 b2.2
  simp only [argSs, argS, Try.underlying3, List.flatten_cons, List.flatten_nil, List.cons_append, List.nil_append, List.map_cons, List.map_nil] at ha
  refine (Fx.law_row Fx.ok12 (by kernel_rfl) (W := W) (args := args) ha ⟨k, a0, a1, a2, true, rfl, hk, rfl, rfl⟩).mono fun e W' ⟨he, bel⟩ => ?_
  subst he
  exact ⟨_, rfl, _, _, _, [], _, [], hW', trodAll_mk1 (shut_bool Try.underlying4 _), trodAll_later (by kernel_rfl) hA0 (by kernel_rfl) bel (fun x hx => by simpa using hlt x (by simpa using hx)), rfl, bel.frame _, fun h => by cases h⟩
theorem over : Rows.floatModesRow.holds Try.pinned (OpenSpec.ofChange Rows.floatModesSpec) :=
  OpenClaim.holds_of_wide 12 Try.f12 rfl rfl rfl rfl rfl rfl rfl ⟨rfl, rfl, rfl, rfl, rfl⟩ rfl rfl rfl rfl rfl (by kernel_rfl) Try.func12 (by kernel_rfl)
    (of_decide_eq_true (by kernel_rfl)) (by unfold Func.isWrapper; first | (rw [if_pos (by decide +kernel)]; kernel_rfl) | (rw [if_neg (by decide +kernel)]; exact ⟨rfl, rfl⟩))
    (fun os started H enc _ => lifted os started H enc)
theorem proved : Rows.FloatModesSaid := over
#print axioms proved
end Go.Proofs.Ytgpnmifejgdipaa.floatModes
namespace Go.Proofs.Ytgpnmifejgdipaa
/-- The row, under a short name, for the claim. -/
theorem floatModes_holds : Rows.FloatModesSaid := floatModes.proved
end Go.Proofs.Ytgpnmifejgdipaa
