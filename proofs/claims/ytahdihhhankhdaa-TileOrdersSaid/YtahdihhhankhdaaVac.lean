/-
  V: kernels out of arguments. By the session's own hand.
-/
import Derived.Test.YtahdihhhankhdaaVg
import Derived.Test.YtahdihhhankhdaaRows
set_option linter.unusedVariables false
set_option linter.unusedSimpArgs false
set_option maxRecDepth 100000
set_option linter.all false
set_option linter.unnecessarySimpa false
set_option linter.deprecated false
namespace Go.Proofs.Ytahdihhhankhdaa.V
open Go.Proofs.YtahdihhhankhdaaVY Go.RowKit
theorem bulkAll_sum {H : Type} : ∀ l : List (DataW H), Rows.uptoBulkAll l = (l.map Rows.uptoBulk).sum
  | [] => by simp [Rows.uptoBulkAll]
  | d :: l => by rw [Rows.uptoBulkAll, bulkAll_sum l, List.map_cons, List.sum_cons]
theorem meas {H : Type} : Meas (H := H) Rows.uptoBulk where
  lit x := by cases x <;> simp [Rows.uptoBulk]
  str b := by simp [Rows.uptoBulk]
  nil := by simp [Rows.uptoBulk]
  slice es sp := by rw [Rows.uptoBulk, bulkAll_sum]; omega
  agg ps := by rw [Rows.uptoBulk, bulkAll_sum]; omega
theorem small_bd {H : Type} {ds : List (DataW H)} (h : Rows.uptoSmall H ds = true) : (ds.map Rows.uptoBulk).sum ≤ 1048576 := by
  rw [← bulkAll_sum]
  exact of_decide_eq_true h
theorem all2_map {α : Type} {enc : α → List D} {Q : List D → Prop} {B : α → Nat} {L : List (List D)} (h : ∀ e ∈ L, ∃ x, e = enc x ∧ B x ≤ dBs e) : ∃ l : List α, L = l.map enc ∧ (l.map B).sum ≤ dBL L := by
  induction L with
  | nil => exact ⟨[], rfl, Nat.zero_le _⟩
  | cons e L ih =>
    obtain ⟨b, rfl, hb⟩ := h e (List.mem_cons_self ..)
    obtain ⟨l, rfl, hl⟩ := ih fun x hx => h x (List.mem_cons_of_mem _ hx)
    exact ⟨b :: l, rfl, by rw [List.map_cons, List.sum_cons, dBL]; omega⟩
theorem sum_one {α : Type} : ∀ l : List α, (l.map fun _ => 1).sum = l.length
  | [] => rfl
  | x :: l => by rw [List.map_cons, List.sum_cons, sum_one l, List.length_cons, Nat.add_comm]
theorem sh_ints {m : Nat} {l : List D} (h : Sh Try.prog m 22 l) : ∃ x : List Int, l = [.sl 1 (x.map inC)] ∧ x.length + 1 ≤ dBs l := by
  obtain ⟨m', L, _, rfl, _, hL⟩ := sh_slice Try.underlying22 h
  obtain ⟨x, rfl, hx⟩ := all2_map (Q := fun _ => True) (enc := inC) (B := fun _ => 1) fun e he => by
    obtain ⟨n, hn, _⟩ := sh_int Try.underlying3 (hL e he)
    exact ⟨n, hn, by rw [hn]; simp [dBs, dB]⟩
  rw [sum_one] at hx
  exact ⟨x, by rw [show Try.prog.cellsOf 3 = 1 by kernel_rfl], by simp only [dBs, dB, Nat.add_zero]; omega⟩
theorem sh_ref {m : Nat} {l : List D} (h : Sh Try.prog m 71 l) : ∃ x : Ref, l = x.c ∧ x.str.length + 3 ≤ dBs l := by
  obtain ⟨m', parts, _, rfl, hp⟩ := sh_struct Try.underlying71 h
  cases hp with
  | cons h1 hp =>
  cases hp with
  | cons h2 hp =>
  cases hp with
  | cons h3 hp =>
  cases hp
  obtain ⟨a, rfl, _⟩ := sh_int Try.underlying3 h1
  obtain ⟨b, rfl, _⟩ := sh_int Try.underlying3 h2
  obtain ⟨s, rfl, hs⟩ := sh_ints h3
  refine ⟨⟨a, b, s⟩, rfl, ?_⟩
  simp only [List.flatten_cons, List.flatten_nil, List.append_nil, dBs_app]
  have e1 : dBs [D.int .i64 a] = 1 := by simp [dBs, dB]
  have e2 : dBs [D.int .i64 b] = 1 := by simp [dBs, dB]
  simp only [e1, e2]
  omega
theorem treesBulk_sum : ∀ l : List Tree, treesBulk l = (l.map Tree.bulk).sum
  | [] => rfl
  | t :: l => by rw [treesBulk, treesBulk_sum l, List.map_cons, List.sum_cons]
theorem sh_tree : ∀ (m : Nat) {l : List D}, Sh Try.prog m 74 l → ∃ t : Tree, l = t.c ∧ t.bulk ≤ dBs l := by
  intro m
  induction m using Nat.strongRecOn with
  | _ m ih =>
  intro l h
  obtain ⟨m', parts, rfl, rfl, hp⟩ := sh_struct Try.underlying74 h
  cases hp with
  | cons h1 hp =>
  cases hp with
  | cons h2 hp =>
  cases hp with
  | cons h3 hp =>
  cases hp with
  | cons h4 hp =>
  cases hp with
  | cons h5 hp =>
  cases hp
  obtain ⟨op, rfl, _⟩ := sh_str Try.underlying9 h1
  obtain ⟨kind, rfl, _⟩ := sh_int Try.underlying3 h2
  obtain ⟨n, rfl, _⟩ := sh_int Try.underlying3 h3
  obtain ⟨r, rfl, hr⟩ := sh_ref h4
  obtain ⟨m2, L, rfl, rfl, _, hL⟩ := sh_slice Try.underlying72 h5
  obtain ⟨kids, rfl, hk⟩ := all2_map (Q := fun _ => True) (enc := Tree.c) (B := Tree.bulk) fun e he => ih m2 (by omega) (hL e he)
  refine ⟨.mk op kind n r kids, ?_, ?_⟩
  · rw [show Try.prog.cellsOf 74 = 7 by kernel_rfl, Tree.c, treesC_map]; rfl
  · rw [← treesBulk_sum] at hk
    simp only [List.flatten_cons, List.flatten_nil, List.append_nil, dBs_app]
    have e1 : dBs [D.int .i64 kind] = 1 := by simp [dBs, dB]
    have e2 : dBs [D.sl (Try.prog.cellsOf 74) (kids.map Tree.c)] = dBL (kids.map Tree.c) + 1 := by simp [dBs, dB]
    rw [Tree.bulk]
    simp only [e1, e2]
    omega
theorem sh_trees {m : Nat} {l : List D} (h : Sh Try.prog m 72 l) : ∃ x : List Tree, l = [.sl 7 (x.map Tree.c)] ∧ treesBulk x + 1 ≤ dBs l := by
  obtain ⟨m', L, _, rfl, _, hL⟩ := sh_slice Try.underlying72 h
  obtain ⟨x, rfl, hx⟩ := all2_map (Q := fun _ => True) (enc := Tree.c) (B := Tree.bulk) fun e he => sh_tree m' (hL e he)
  rw [← treesBulk_sum] at hx
  exact ⟨x, by rw [show Try.prog.cellsOf 74 = 7 by kernel_rfl], by simp only [dBs, dB, Nat.add_zero]; omega⟩
theorem sh_set {m : Nat} {l : List D} (h : Sh Try.prog m 76 l) : ∃ s : ASet, l = s.c ∧ s.bulk ≤ dBs l := by
  obtain ⟨m', parts, _, rfl, hp⟩ := sh_struct Try.underlying76 h
  cases hp with
  | cons h1 hp =>
  cases hp with
  | cons h2 hp =>
  cases hp with
  | cons h3 hp =>
  cases hp
  obtain ⟨to, rfl, ht⟩ := sh_ref h1
  obtain ⟨mask, rfl, hm⟩ := sh_trees h2
  obtain ⟨v, rfl, hv⟩ := sh_tree _ h3
  refine ⟨⟨to, mask, v⟩, ?_, ?_⟩
  · simp [ASet.c]
  · simp only [List.flatten_cons, List.flatten_nil, List.append_nil, dBs_app]
    rw [ASet.bulk]
    simp only
    omega
theorem setsBulk_sum : ∀ l : List ASet, setsBulk l = (l.map ASet.bulk).sum
  | [] => rfl
  | t :: l => by rw [setsBulk, setsBulk_sum l, List.map_cons, List.sum_cons]
theorem sh_kern {m : Nat} {l : List D} (h : Sh Try.prog m 25 l) : ∃ k : Kern, l = k.c ∧ k.bulk ≤ dBs l := by
  obtain ⟨m', parts, _, rfl, hp⟩ := sh_struct Try.underlying25 h
  cases hp with
  | cons h1 hp =>
  cases hp with
  | cons h2 hp =>
  cases hp
  obtain ⟨ext, rfl, he⟩ := sh_ints h1
  obtain ⟨m2, L, _, rfl, _, hL⟩ := sh_slice Try.underlying23 h2
  obtain ⟨sets, rfl, hs⟩ := all2_map (Q := fun _ => True) (enc := ASet.c) (B := ASet.bulk) fun e he => sh_set (hL e he)
  rw [← setsBulk_sum] at hs
  refine ⟨⟨ext, sets⟩, ?_, ?_⟩
  · rw [show Try.prog.cellsOf 76 = 11 by kernel_rfl]; rfl
  · simp only [List.flatten_cons, List.flatten_nil, List.append_nil, dBs_app]
    have e2 : dBs [D.sl (Try.prog.cellsOf 76) (sets.map ASet.c)] = dBL (sets.map ASet.c) + 1 := by simp [dBs, dB]
    rw [e2, Kern.bulk]
    simp only
    omega
end Go.Proofs.Ytahdihhhankhdaa.V

