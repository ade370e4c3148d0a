import Derived.Test.YtahdihhhankhdaaVs
import Derived.Test.YtahdihhhankhdaaRows
import Derived.Test.YtahdihhhankhdaaVy17
import Derived.WalkKit
import Derived.ProofKit
import Derived.OpenShut
import Derived.ShutString
import Derived.ChangeOld
import Derived.Below
import Derived.SizedLaws
set_option linter.unusedSimpArgs false
set_option linter.all false
set_option linter.unnecessarySimpa false
set_option linter.deprecated false
namespace Go.Proofs.Ytahdihhhankhdaa.V
open Go.Proofs.YtahdihhhankhdaaVY Go.RowKit
theorem law_row {f : Nat} {R : Ct} (h : VSound Try.prog (f, R)) (he : enterB Try.prog f = true) {W : World} {args : Array Value} {ss : List S} (hG : GP (fun _ => False) W) (ha : All2 (SRel [] (fun _ => False) W) args.toList ss) (hR : R ss [] (.db true) []) :
    Calls Try.prog f args W fun e W' => e = .returned (.bool true) ∧ Below W.heap.size W W' := by
  have hn : ∀ b, ¬ Live [] [] b := by rintro b ⟨_, _, _, h, _⟩; simp at h
  have ha' : All2 (SRel [] (Av (fun _ => False) [] []) W) args.toList ss := ha.imp fun _ _ h => SRel.less (fun b hb => hb.elim id (hn b)) h
  have hp0 : HpRel (fun _ => False) [] [] W := ⟨rfl, fun _ _ _ h => by simp at h, fun _ _ _ _ _ _ _ h => by simp at h, fun b h => absurd h (hn b)⟩
  rcases h with ⟨ho, _⟩ | hx
  · refine (ho (fun _ => False) W args ss [] [] (.db true) [] hG (fun _ h => h.elim) hp0 (fun b h => absurd h (hn b)) ha' hR).mono ?_
    rintro e w' ⟨v, ρ, rfl, hs, hh, hg, hst, hsame, _⟩
    exact ⟨by rw [sdb_inv hs], hst.os, hst.tape, hst.output, hg, fun b hb => hsame b hb (hn b)⟩
  · obtain ⟨v, ρ, w', hrun, _⟩ := hx (fun _ => False) W args ss [] [] (.db true) [] hG (fun _ h => h.elim) hp0 ha' hR
    rw [run_enter (enterB_ok he) args] at hrun
    cases hrun
end Go.Proofs.Ytahdihhhankhdaa.V
namespace Go.Proofs.Ytahdihhhankhdaa.vectorBlends
open Go.ChangeShapes Go.WideShapes Go.ChangeAt Go.RowKit Go.Proofs.YtahdihhhankhdaaVY
open Go.ChangeMaps (open_string shut_string)
set_option linter.unusedVariables false
theorem own : ownKnob Try.prog.godebug = none := by kernel_rfl
theorem slB {L : List (List D)} (h : ∀ e ∈ L, ∃ b, e = [.bool b]) : ∃ l : List Bool, L = l.map V.boC := by
  induction L with
  | nil => exact ⟨[], rfl⟩
  | cons e L ih =>
    obtain ⟨b, rfl⟩ := h e (List.mem_cons_self ..)
    obtain ⟨l, rfl⟩ := ih fun x hx => h x (List.mem_cons_of_mem _ hx)
    exact ⟨b :: l, rfl⟩
theorem slI {L : List (List D)} (h : ∀ e ∈ L, ∃ n, e = [.int .i64 n]) : ∃ l : List Int, L = l.map V.inC := by
  induction L with
  | nil => exact ⟨[], rfl⟩
  | cons e L ih =>
    obtain ⟨b, rfl⟩ := h e (List.mem_cons_self ..)
    obtain ⟨l, rfl⟩ := ih fun x hx => h x (List.mem_cons_of_mem _ hx)
    exact ⟨b :: l, rfl⟩
set_option maxRecDepth 100000 in
theorem lifted (os : Os) (started : os.Started) (H : Type) (enc : TypeId × Value → H) :
    ReturnsInHanded {} Try.checked os 5 .any (Rows.vectorBlendsSpec.pre6 enc Try.prog Try.f5 Rows.vectorBlendsRow.domain false) (Rows.vectorBlendsSpec.post enc Try.prog Try.f5 false true false false) := by
  refine returnsInHanded_of_change_sized (C := Try.checked) own started (by kernel_rfl) Try.func5
    (ChangeSpec.witness6 (enc := enc) (C := Try.checked) false ⟨#[], #[.slice none 0 0, .slice none 0 0, .slice none 0 0], []⟩ 8 (by kernel_rfl) (by kernel_rfl) (by kernel_rfl) (by kernel_rfl)) ?_
  intro W base args ds gs before hval0 hW hcnd hsz0 _
  have hsz : (DataW.weightsEach Try.prog (Try.f5.params.toList ++ Rows.vectorBlendsSpec.plain.varTypes Try.prog) (ds ++ gs)).all (· ≤ reachBytes) = true := hsz0
  have hval : ∀ (j : Nat) t v, Try.f5.params[j]? = some t → args[j]? = some v → Value.okWide Try.prog W .any base t v := hval0
  have hW' := hW
  obtain ⟨p, q, hA0, hV, rfl, hfz, hnd⟩ := hW
  have hA : DataW.TrodAll enc Try.prog W 0 (fun _ => true) true Try.f5.params.toList args.toList ds p := hA0
  have hlt := hW'.lt
  obtain ⟨rfl, rfl⟩ := trodVars_none hV
  rw [show Rows.vectorBlendsSpec.plain.varTypes Try.prog = [] from rfl, List.append_nil, List.append_nil] at hsz
  rw [Try.params5] at hA hval hsz
  obtain ⟨m, ls, h1, h2, h3⟩ := trodAll_sh (S := [3, 4, 22, 34]) (gs := []) (by kernel_rfl) hA (by kernel_rfl) hsz
  have ha := args_rel (fun j t v a b => hval j t v (by simpa using a) (by simpa using b)) h1 h2 h3
  obtain ⟨d0, d1, d2, rfl⟩ : ∃ d0 d1 d2, ds = [d0, d1, d2] := by
    match ds, trodAll_len hA with
    | [x0, x1, x2], _ => exact ⟨x0, x1, x2, rfl⟩
  obtain ⟨n0, n1, n2, rfl⟩ : ∃ n0 n1 n2, m = [n0, n1, n2] := by
    match m, h3 with
    | [x0, x1, x2], _ => exact ⟨x0, x1, x2, rfl⟩
  cases h2 with
  | cons g0 h2 =>
  cases h2 with
  | cons g1 h2 =>
  cases h2 with
  | cons g2 h2 =>
  cases h2
  obtain ⟨m0, L0, _, rfl, _, q0⟩ := sh_slice Try.underlying34 g0
  obtain ⟨m1, L1, _, rfl, _, q1⟩ := sh_slice Try.underlying22 g1
  obtain ⟨m2, L2, _, rfl, _, q2⟩ := sh_slice Try.underlying22 g2
  rw [show Try.prog.cellsOf 4 = 1 by kernel_rfl] at ha
  rw [show Try.prog.cellsOf 3 = 1 by kernel_rfl] at ha
  obtain ⟨x, rfl⟩ := slB fun e he => sh_bool Try.underlying4 (q0 e he)
  obtain ⟨y, rfl⟩ := slI fun e he => (sh_int Try.underlying3 (q1 e he)).imp fun _ h => h.1
  obtain ⟨z, rfl⟩ := slI fun e he => (sh_int Try.underlying3 (q2 e he)).imp fun _ h => h.1
  clear hval0 hsz0 hsz
  simp only [argSs, argS, Try.underlying34, Try.underlying22] at ha
  refine (V.law_row V.ok5 (by kernel_rfl) (W := W) (args := args) ⟨fun _ _ h => by cases h⟩ ha ⟨x, y, z, rfl, rfl, rfl, rfl⟩).mono fun e W' ⟨he, bel⟩ => ?_
  subst he
  exact ⟨_, rfl, _, _, _, [], _, [], hW', trodAll_mk1 (shut_bool Try.underlying4 _), trodAll_later (by kernel_rfl) hA0 (by kernel_rfl) bel (fun x hx => by simpa using hlt x (by simpa using hx)), rfl, bel.frame _, fun h => by cases h⟩
theorem over : Rows.vectorBlendsRow.holds Try.pinned (OpenSpec.ofChange Rows.vectorBlendsSpec) :=
  OpenClaim.holds_of_wide 5 Try.f5 rfl rfl rfl rfl rfl rfl rfl ⟨rfl, rfl, rfl, rfl, rfl⟩ rfl rfl rfl rfl rfl (by kernel_rfl) Try.func5 (by kernel_rfl)
    (of_decide_eq_true (by kernel_rfl)) (by unfold Func.isWrapper; first | (rw [if_pos (by decide +kernel)]; kernel_rfl) | (rw [if_neg (by decide +kernel)]; exact ⟨rfl, rfl⟩))
    (fun os started H enc _ => lifted os started H enc)
theorem proved : Rows.VectorBlendsSaid := over
end Go.Proofs.Ytahdihhhankhdaa.vectorBlends
namespace Go.Proofs.Ytahdihhhankhdaa
/-- The row, under a short name, for the claim. -/
theorem vectorBlends_holds : Rows.VectorBlendsSaid := vectorBlends.proved
end Go.Proofs.Ytahdihhhankhdaa
