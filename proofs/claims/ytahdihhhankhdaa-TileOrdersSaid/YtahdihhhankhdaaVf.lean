/-
  V: what a kernel loads. By the session's own hand.
-/
import Derived.Test.YtahdihhhankhdaaVe
set_option linter.unusedVariables false
set_option linter.unusedSimpArgs false
set_option maxRecDepth 100000
set_option linter.all false
set_option linter.unnecessarySimpa false
set_option linter.deprecated false
namespace Go.Proofs.Ytahdihhhankhdaa.V
open Go.Proofs.YtahdihhhankhdaaVY Go.RowKit
mutual
def Tree.bulk : Tree → Nat
  | .mk op kind n ref kids => treesBulk kids + ref.str.length + 1
def treesBulk : List Tree → Nat
  | [] => 0
  | t :: l => t.bulk + treesBulk l
end
def isLoad (s : ByteArray) : Bool := s.toList == (ByteArray.mk #[108, 111, 97, 100]).toList
mutual
def Tree.loads : Tree → List Ref
  | .mk op kind n ref kids => treesLoads kids ++ if isLoad op then [ref] else []
def treesLoads : List Tree → List Ref
  | [] => []
  | t :: l => t.loads ++ treesLoads l
end
theorem treesLoads_snoc (t : Tree) : ∀ l : List Tree, treesLoads (l ++ [t]) = treesLoads l ++ t.loads
  | [] => by simp [treesLoads]
  | x :: l => by rw [List.cons_append, treesLoads, treesLoads_snoc t l, treesLoads, List.append_assoc]
theorem treesLoads_take {l : List Tree} {i : Nat} {x : Tree} (h : l[i]? = some x) : treesLoads (l.take (i + 1)) = treesLoads (l.take i) ++ x.loads := by
  rw [List.take_add_one, h]; exact treesLoads_snoc ..
theorem treesBulk_get : ∀ {l : List Tree} {i : Nat} {x : Tree}, l[i]? = some x → x.bulk ≤ treesBulk l
  | [], _, _, h => by simp at h
  | y :: l, 0, x, h => by simp at h; subst h; rw [treesBulk]; omega
  | y :: l, i + 1, x, h => by have := treesBulk_get (l := l) (i := i) (by simpa using h); rw [treesBulk]; omega
theorem Tree.bulk_pos : ∀ t : Tree, 1 ≤ t.bulk
  | .mk .. => by rw [Tree.bulk]; omega
theorem treesBulk_len : ∀ l : List Tree, l.length ≤ treesBulk l
  | [] => by simp [treesBulk]
  | t :: l => by have := treesBulk_len l; have := t.bulk_pos; rw [treesBulk, List.length_cons]; omega
theorem treesBulk_take : ∀ (l : List Tree) (i : Nat), treesBulk (l.take i) ≤ treesBulk l
  | [], i => by simp
  | t :: l, 0 => by simp [treesBulk]
  | t :: l, i + 1 => by have := treesBulk_take l i; rw [List.take_succ_cons, treesBulk, treesBulk]; omega
mutual
theorem Tree.loads_len : ∀ t : Tree, t.loads.length ≤ t.bulk
  | .mk op kind n ref kids => by
    have := treesLoads_len kids
    rw [Tree.loads, Tree.bulk, List.length_append]
    split <;> simp <;> omega
theorem treesLoads_len : ∀ l : List Tree, (treesLoads l).length ≤ treesBulk l
  | [] => by simp [treesLoads, treesBulk]
  | t :: l => by
    have := t.loads_len
    have := treesLoads_len l
    rw [treesLoads, treesBulk, List.length_append]; omega
end
def R141 (m : Nat) : Ct := fun ss hp r out => ∃ t : Tree, ss = [.v (.ag (t.c.map .d))] ∧ hp = [] ∧ t.bulk < m ∧ m ≤ 4194305 ∧ r = .one (.own 0) ∧ out = [.row 3 (t.loads.map Ref.c)]
theorem ok141_0 : VSound Try.prog (141, R141 0) := by
  refine .inl ⟨?_, enterB_ok (by kernel_rfl)⟩
  unfold Ok
  intros
  rename_i hR
  obtain ⟨t, _, _, h, _⟩ := hR
  omega
theorem trees_get {l : List Tree} {i : Nat} {x : Tree} (h : l[i]? = some x) : (treesC l)[(i : Int).toNat]? = some x.c := by
  rw [treesC_map]; exact enc_get h
set_option maxHeartbeats 4000000 in
theorem ok141_s (m : Nat) (ih : VSound Try.prog (141, R141 m)) : VSound Try.prog (141, R141 (m + 1)) := by
  refine vsound (T := ty) (F := [(141, R141 m)]) (pl := []) (nw := true) (cuts := []) mix tyOk (.cons (ih) .nil) Try.func141 (by kernel_rfl) (by kernel_rfl) ?_
  rintro _ _ _ _ ⟨⟨op, kind, n, ref, kids⟩, rfl, rfl, hm, hm2, rfl, rfl⟩
  rw [Tree.bulk] at hm
  have hkl := treesBulk_len kids
  conv => whnf
  refine ⟨[.slot 3 true], [1, 3, 7, 8, 9], 2, fun n1 σ => ∃ i : Nat, i ≤ kids.length ∧ n1 = kids.length - i ∧ σ = (⟨[.junk, .one (.ptr 0 0), .junk, .one (.own 1), .junk, .junk, .junk, .one (.d (.sl 7 (treesC kids))), .di .i64 kids.length, .di .i64 i, .junk, .junk, .junk, .junk, .junk, .junk, .junk, .junk, .junk, .junk, .junk, .junk, .junk, .junk, .junk, .junk, .junk], [.box (List.map .d (Tree.mk op kind n ref kids).c), .row 3 ((treesLoads (kids.take i)).map Ref.c)]⟩ : St), ?_, ?_⟩
  · refine ⟨kids.length, ?_⟩
    conv => whnf
    refine ⟨0, by omega, by omega, ?_⟩
    rw [treesC_map, map_len]; rfl
  · rintro n1 _ ⟨i, hi, rfl, rfl⟩
    conv => whnf
    ((with_reducible refine And.intro (fun (e : (_ : Bool) = true) => ?_) (fun (e : (_ : Bool) = false) => ?_)) <;> (try simp only [reduceCtorEq, ints_len, bools_len, Bool.not_false, Bool.not_true, List.length_map, decide_eq_true_eq, decide_eq_false_iff_not, Bool.not_eq_true', Bool.not_eq_false', Bool.and_eq_true, Bool.or_eq_true, Bool.and_eq_false_iff, Bool.or_eq_false_iff, beq_iff_eq, bne_iff_ne, beq_eq_false_iff_ne, bne_eq_false_iff_eq, Int.not_lt, Int.not_le, ge_iff_le, gt_iff_lt, not_or, not_and, Bool.cond_true_right, Bool.cond_true_left, Bool.cond_false_right, Bool.cond_false_left, bif_t, bif_f] at e) <;> (conv => whnf))
    · have hlt : i < kids.length := by omega
      obtain ⟨x, hget⟩ := get_lt hlt
      have hb := treesBulk_get hget
      have hl := treesLoads_take hget
      have hw := treesLoads_len (kids.take (i + 1))
      have hw2 := treesBulk_take kids (i + 1)
      refine ⟨_, And.intro ⟨?_, trees_get hget⟩ ?_⟩
      · omega
      obtain ⟨xop, xkind, xn, xref, xkids⟩ := x
      conv => whnf
      refine ⟨[], false, false, ?_⟩
      conv => whnf
      refine ⟨_, _, ⟨.mk xop xkind xn xref xkids, rfl, rfl, by omega, by omega, rfl, rfl⟩, ?_⟩
      conv => whnf
      rw [hl] at hw
      rw [List.length_append] at hw
      refine ⟨by rw [map_len, map_len]; omega, ?_⟩
      conv => whnf
      (refine And.intro ?_ ?_; ((first | (with_reducible assumption) | (intro _; with_reducible assumption) | omega | (simp only [reduceCtorEq, ints_len, bools_len, Bool.not_false, Bool.not_true, List.length_map, decide_eq_true_eq, decide_eq_false_iff_not, Bool.not_eq_true', Bool.not_eq_false', Bool.and_eq_true, Bool.or_eq_true, Bool.and_eq_false_iff, Bool.or_eq_false_iff, beq_iff_eq, bne_iff_ne, beq_eq_false_iff_ne, bne_eq_false_iff_eq, Int.not_lt, Int.not_le, ge_iff_le, gt_iff_lt, not_or, not_and, Bool.cond_true_right, Bool.cond_true_left, Bool.cond_false_right, Bool.cond_false_left, bif_t, bif_f] at *; omega) | (intro hg; (try simp only [reduceCtorEq, ints_len, bools_len, Bool.not_false, Bool.not_true, List.length_map, decide_eq_true_eq, decide_eq_false_iff_not, Bool.not_eq_true', Bool.not_eq_false', Bool.and_eq_true, Bool.or_eq_true, Bool.and_eq_false_iff, Bool.or_eq_false_iff, beq_iff_eq, bne_iff_ne, beq_eq_false_iff_ne, bne_eq_false_iff_eq, Int.not_lt, Int.not_le, ge_iff_le, gt_iff_lt, not_or, not_and, Bool.cond_true_right, Bool.cond_true_left, Bool.cond_false_right, Bool.cond_false_left, bif_t, bif_f] at hg); first | (with_reducible assumption) | omega | (simp only [reduceCtorEq, ints_len, bools_len, Bool.not_false, Bool.not_true, List.length_map, decide_eq_true_eq, decide_eq_false_iff_not, Bool.not_eq_true', Bool.not_eq_false', Bool.and_eq_true, Bool.or_eq_true, Bool.and_eq_false_iff, Bool.or_eq_false_iff, beq_iff_eq, bne_iff_ne, beq_eq_false_iff_ne, bne_eq_false_iff_eq, Int.not_lt, Int.not_le, ge_iff_le, gt_iff_lt, not_or, not_and, Bool.cond_true_right, Bool.cond_true_left, Bool.cond_false_right, Bool.cond_false_left, bif_t, bif_f] at *; omega) | (refine ⟨?_, ?_⟩ <;> omega)) | (refine ⟨?_, ?_⟩ <;> omega) | (simp [*]; done) | grind)); (conv => whnf))
      refine ⟨kids.length - (i + 1), by omega, [], ?_⟩
      conv => whnf
      refine ⟨i + 1, by omega, rfl, ?_⟩
      rw [hl, List.map_append]; rfl
    · have hi' : i = kids.length := by omega
      subst hi'
      rw [List.take_length]
      refine ⟨fun e => ?_, fun e => ?_⟩
      · conv => whnf
        refine ⟨by rw [map_len]; simp only [List.length_cons, List.length_nil]; have := treesLoads_len kids; omega, ?_⟩
        conv => whnf
        have hL : treesLoads kids ++ [ref] = (Tree.mk op kind n ref kids).loads := by rw [Tree.loads, if_pos (show isLoad op = true from e)]
        refine ⟨[], ?_⟩
        conv => whnf
        refine ⟨[1], by simp, .cons ⟨_, rfl, rfl, ?_⟩ .nil, rfl⟩
        rw [← hL, List.map_append]; first | done | rfl
      · conv => whnf
        have hL : treesLoads kids = (Tree.mk op kind n ref kids).loads := by rw [Tree.loads, if_neg (by rw [isLoad, e]; simp), List.append_nil]
        refine ⟨[], ?_⟩
        conv => whnf
        refine ⟨[1], by simp, .cons ⟨_, rfl, rfl, ?_⟩ .nil, rfl⟩
        rw [← hL]
theorem ok141 : ∀ m : Nat, VSound Try.prog (141, R141 m)
  | 0 => ok141_0
  | m + 1 => ok141_s m (ok141 m)
end Go.Proofs.Ytahdihhhankhdaa.V

