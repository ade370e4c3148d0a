/-
  V: what a Set loads; formed kernels. By the session's own hand.
-/
import Derived.Test.YtahdihhhankhdaaVf
set_option linter.unusedVariables false
set_option linter.unusedSimpArgs false
set_option maxRecDepth 100000
set_option linter.all false
set_option linter.unnecessarySimpa false
set_option linter.deprecated false
namespace Go.Proofs.Ytahdihhhankhdaa.V
open Go.Proofs.YtahdihhhankhdaaVY Go.RowKit
def ASet.bulk (s : ASet) : Nat := treesBulk s.mask + s.to.str.length + s.val.bulk + 1
def ASet.loads (s : ASet) : List Ref := treesLoads s.mask ++ s.val.loads
theorem ASet.loads_len (s : ASet) : s.loads.length ≤ s.bulk := by
  have := treesLoads_len s.mask
  have := s.val.loads_len
  rw [ASet.loads, ASet.bulk, List.length_append]; omega
def R121 : Ct := fun ss hp r out => ∃ s : ASet, ss = [.v (.ag (s.c.map .d))] ∧ hp = [] ∧ s.bulk ≤ 4194304 ∧ r = .one (.own 0) ∧ out = [.row 3 (s.loads.map Ref.c)]
set_option maxHeartbeats 4000000 in
theorem ok121 : VSound Try.prog (121, R121) := by
  refine vsound (T := ty) (F := [(141, R141 4194305)]) (pl := []) (nw := true) (cuts := []) mix tyOk (.cons (ok141 4194305) .nil) Try.func121 (by kernel_rfl) (by kernel_rfl) ?_
  rintro _ _ _ _ ⟨⟨⟨xa, xb, xs⟩, mask, ⟨op, kind, n, ref, kids⟩⟩, rfl, rfl, hm, rfl, rfl⟩
  simp only [ASet.bulk] at hm
  have hkl := treesBulk_len mask
  conv => whnf
  refine ⟨[.slot 3 true], [1, 3, 7, 8, 9], 2, fun n1 σ => ∃ i : Nat, i ≤ mask.length ∧ n1 = mask.length - i ∧ σ = (⟨[.junk, .one (.ptr 0 0), .junk, .one (.own 1), .junk, .junk, .junk, .one (.d (.sl 7 (mask.map Tree.c))), .di .i64 mask.length, .di .i64 i, .junk, .junk, .junk, .junk, .junk, .junk, .junk, .junk, .junk, .junk, .junk, .junk, .junk], [.box (List.map .d (ASet.mk ⟨xa, xb, xs⟩ mask ⟨op, kind, n, ref, kids⟩).c), .row 3 ((treesLoads (mask.take i)).map Ref.c)]⟩ : St), ?_, ?_⟩
  · refine ⟨mask.length, ?_⟩
    conv => whnf
    refine ⟨0, by omega, by omega, ?_⟩
    rw [map_len]; rfl
  · rintro n1 _ ⟨i, hi, rfl, rfl⟩
    conv => whnf
    ((with_reducible refine And.intro (fun (e : (_ : Bool) = true) => ?_) (fun (e : (_ : Bool) = false) => ?_)) <;> (try simp only [reduceCtorEq, ints_len, bools_len, Bool.not_false, Bool.not_true, List.length_map, decide_eq_true_eq, decide_eq_false_iff_not, Bool.not_eq_true', Bool.not_eq_false', Bool.and_eq_true, Bool.or_eq_true, Bool.and_eq_false_iff, Bool.or_eq_false_iff, beq_iff_eq, bne_iff_ne, beq_eq_false_iff_ne, bne_eq_false_iff_eq, Int.not_lt, Int.not_le, ge_iff_le, gt_iff_lt, not_or, not_and, Bool.cond_true_right, Bool.cond_true_left, Bool.cond_false_right, Bool.cond_false_left, bif_t, bif_f] at e) <;> (conv => whnf))
    · have hlt : i < mask.length := by omega
      obtain ⟨x, hget⟩ := get_lt hlt
      have hb := treesBulk_get hget
      have hl := treesLoads_take hget
      have hw := treesLoads_len (mask.take (i + 1))
      have hw2 := treesBulk_take mask (i + 1)
      refine ⟨_, And.intro ⟨?_, enc_get hget⟩ ?_⟩
      · omega
      obtain ⟨xop, xkind, xn, xref, xkids⟩ := x
      conv => whnf
      refine ⟨[], false, false, ?_⟩
      conv => whnf
      refine ⟨_, _, ⟨.mk xop xkind xn xref xkids, rfl, rfl, by omega, by omega, rfl, rfl⟩, ?_⟩
      conv => whnf
      rw [hl] at hw
      rw [List.length_append] at hw
      refine ⟨by rw [map_len, map_len]; omega, ?_⟩
      conv => whnf
      (refine And.intro ?_ ?_; ((first | (with_reducible assumption) | (intro _; with_reducible assumption) | omega | (simp only [reduceCtorEq, ints_len, bools_len, Bool.not_false, Bool.not_true, List.length_map, decide_eq_true_eq, decide_eq_false_iff_not, Bool.not_eq_true', Bool.not_eq_false', Bool.and_eq_true, Bool.or_eq_true, Bool.and_eq_false_iff, Bool.or_eq_false_iff, beq_iff_eq, bne_iff_ne, beq_eq_false_iff_ne, bne_eq_false_iff_eq, Int.not_lt, Int.not_le, ge_iff_le, gt_iff_lt, not_or, not_and, Bool.cond_true_right, Bool.cond_true_left, Bool.cond_false_right, Bool.cond_false_left, bif_t, bif_f] at *; omega) | (intro hg; (try simp only [reduceCtorEq, ints_len, bools_len, Bool.not_false, Bool.not_true, List.length_map, decide_eq_true_eq, decide_eq_false_iff_not, Bool.not_eq_true', Bool.not_eq_false', Bool.and_eq_true, Bool.or_eq_true, Bool.and_eq_false_iff, Bool.or_eq_false_iff, beq_iff_eq, bne_iff_ne, beq_eq_false_iff_ne, bne_eq_false_iff_eq, Int.not_lt, Int.not_le, ge_iff_le, gt_iff_lt, not_or, not_and, Bool.cond_true_right, Bool.cond_true_left, Bool.cond_false_right, Bool.cond_false_left, bif_t, bif_f] at hg); first | (with_reducible assumption) | omega | (simp only [reduceCtorEq, ints_len, bools_len, Bool.not_false, Bool.not_true, List.length_map, decide_eq_true_eq, decide_eq_false_iff_not, Bool.not_eq_true', Bool.not_eq_false', Bool.and_eq_true, Bool.or_eq_true, Bool.and_eq_false_iff, Bool.or_eq_false_iff, beq_iff_eq, bne_iff_ne, beq_eq_false_iff_ne, bne_eq_false_iff_eq, Int.not_lt, Int.not_le, ge_iff_le, gt_iff_lt, not_or, not_and, Bool.cond_true_right, Bool.cond_true_left, Bool.cond_false_right, Bool.cond_false_left, bif_t, bif_f] at *; omega) | (refine ⟨?_, ?_⟩ <;> omega)) | (refine ⟨?_, ?_⟩ <;> omega) | (simp [*]; done) | grind)); (conv => whnf))
      refine ⟨mask.length - (i + 1), by omega, [], ?_⟩
      conv => whnf
      refine ⟨i + 1, by omega, rfl, ?_⟩
      rw [hl, List.map_append]; rfl
    · have hi' : i = mask.length := by omega
      subst hi'
      rw [List.take_length]
      refine ⟨[], false, false, ?_⟩
      conv => whnf
      refine ⟨_, _, ⟨.mk op kind n ref kids, rfl, rfl, by omega, by omega, rfl, rfl⟩, ?_⟩
      conv => whnf
      have hw1 := treesLoads_len mask
      have hw2 := (Tree.mk op kind n ref kids).loads_len
      refine ⟨by rw [map_len, map_len]; omega, ?_⟩
      conv => whnf
      refine ⟨[], ?_⟩
      conv => whnf
      refine ⟨[1], by simp, .cons ⟨_, rfl, rfl, ?_⟩ .nil, rfl⟩
      rw [ASet.loads, List.map_append]
mutual
theorem Tree.loads_str (r : Ref) : ∀ t : Tree, r ∈ t.loads → r.str.length ≤ t.bulk
  | .mk op kind n ref kids => by
    intro h
    rw [Tree.loads, List.mem_append] at h
    rw [Tree.bulk]
    rcases h with h | h
    · have := treesLoads_str r kids h; omega
    · split at h
      · simp at h; subst h; omega
      · simp at h
theorem treesLoads_str (r : Ref) : ∀ l : List Tree, r ∈ treesLoads l → r.str.length ≤ treesBulk l
  | [] => by simp [treesLoads]
  | t :: l => by
    intro h
    rw [treesLoads, List.mem_append] at h
    rw [treesBulk]
    rcases h with h | h
    · have := t.loads_str r h; omega
    · have := treesLoads_str r l h; omega
end
theorem ASet.loads_str {r : Ref} {s : ASet} (h : r ∈ s.loads) : r.str.length ≤ s.bulk := by
  rw [ASet.loads, List.mem_append] at h
  rw [ASet.bulk]
  rcases h with h | h
  · have := treesLoads_str r _ h; omega
  · have := s.val.loads_str r h; omega
def R122 : Ct := fun ss hp r out => ∃ (k : Kern) (x : Ref), ss = [.v (.ag (x.c.map .d)), .one (.pel k.c)] ∧ hp = [] ∧ k.ext.length < 4611686018427387904 ∧ x.str.length < 4611686018427387904 ∧ r = .db (!refOk k.ext x) ∧ out = []
set_option maxHeartbeats 4000000 in
theorem ok122 : VSound Try.prog (122, R122) := by
  refine vsound (T := ty) (F := [(120, R120)]) (pl := []) (nw := true) (cuts := []) mix tyOk (.cons (ok120) .nil) Try.func122 (by kernel_rfl) (by kernel_rfl) ?_
  rintro _ _ _ _ ⟨⟨ext, sets⟩, ⟨xa, xb, xs⟩, rfl, rfl, hl, hx, rfl, rfl⟩
  conv => whnf
  refine ⟨[], false, false, ?_⟩
  conv => whnf
  refine ⟨_, _, ⟨ext, ⟨xa, xb, xs⟩, rfl, rfl, hl, hx, rfl, rfl⟩, ?_⟩
  conv => whnf
  (refine ⟨[], ?_⟩; (conv => whnf); refine ⟨[], .nil, .nil, ?_⟩; (conv => whnf))
def formed (k : Kern) : Bool := decide (0 ≤ many k.ext) && k.sets.all fun s => refOk k.ext s.to && s.loads.all (refOk k.ext)
theorem all_any {α : Type} (p : α → Bool) : ∀ l : List α, l.all p = !(l.any fun x => !p x)
  | [] => rfl
  | x :: l => by simp only [List.all_cons, List.any_cons, all_any p l]; cases p x <;> simp
theorem formed_not (ext : List Int) (sets : List ASet) {i : Nat} {s : ASet} (h : sets[i]? = some s) (hs : (refOk ext s.to && s.loads.all (refOk ext)) = false) : formed ⟨ext, sets⟩ = false := by
  unfold formed
  rw [Bool.and_eq_false_iff]
  right
  rw [List.all_eq_false]
  exact ⟨s, List.mem_of_getElem? h, by rw [hs]; decide⟩
def setsBulk : List ASet → Nat
  | [] => 0
  | s :: l => s.bulk + setsBulk l
def Kern.bulk (k : Kern) : Nat := k.ext.length + setsBulk k.sets
theorem setsBulk_get : ∀ {l : List ASet} {i : Nat} {x : ASet}, l[i]? = some x → x.bulk ≤ setsBulk l
  | [], _, _, h => by simp at h
  | y :: l, 0, x, h => by simp at h; subst h; rw [setsBulk]; omega
  | y :: l, i + 1, x, h => by have := setsBulk_get (l := l) (i := i) (by simpa using h); rw [setsBulk]; omega
theorem setsBulk_len : ∀ l : List ASet, l.length ≤ setsBulk l
  | [] => by simp [setsBulk]
  | s :: l => by have := setsBulk_len l; have : 1 ≤ s.bulk := by rw [ASet.bulk]; omega
                 rw [setsBulk, List.length_cons]; omega
def R94 : Ct := fun ss hp r out => ∃ k : Kern, ss = [.v (.ag (k.c.map .d))] ∧ hp = [] ∧ k.bulk ≤ 4194304 ∧ r = .db (formed k) ∧ out = []
set_option maxHeartbeats 4000000 in
theorem ok94 : VSound Try.prog (94, R94) := by
  refine vsound (T := ty) (F := [(65, R65), (97, R97 122 R122), (120, R120), (121, R121)]) (pl := []) (nw := true) (cuts := []) mix tyOk (.cons (ok65) (.cons (ok97 122 R122 ok122) (.cons (ok120) (.cons (ok121) .nil)))) Try.func94 (by kernel_rfl) (by kernel_rfl) ?_
  rintro _ _ _ _ ⟨⟨ext, sets⟩, rfl, rfl, hm, rfl, rfl⟩
  simp only [Kern.bulk] at hm
  have hkl := setsBulk_len sets
  conv => whnf
  refine ⟨[], false, false, ?_⟩
  conv => whnf
  refine ⟨_, _, ⟨ext, rfl, rfl, by omega, rfl, rfl⟩, ?_⟩
  conv => whnf
  ((with_reducible refine And.intro (fun (e : (_ : Bool) = true) => ?_) (fun (e : (_ : Bool) = false) => ?_)) <;> (try simp only [reduceCtorEq, ints_len, bools_len, Bool.not_false, Bool.not_true, List.length_map, decide_eq_true_eq, decide_eq_false_iff_not, Bool.not_eq_true', Bool.not_eq_false', Bool.and_eq_true, Bool.or_eq_true, Bool.and_eq_false_iff, Bool.or_eq_false_iff, beq_iff_eq, bne_iff_ne, beq_eq_false_iff_ne, bne_eq_false_iff_eq, Int.not_lt, Int.not_le, ge_iff_le, gt_iff_lt, not_or, not_and, Bool.cond_true_right, Bool.cond_true_left, Bool.cond_false_right, Bool.cond_false_left, bif_t, bif_f] at e) <;> (conv => whnf))
  · (refine ⟨[], ?_⟩; (conv => whnf); refine ⟨[], .nil, .nil, ?_⟩; (conv => whnf))
    congr 1
    simp [formed]; omega
  · have g1 := e
    refine ⟨[], [1, 10, 11, 12], 1, fun n1 σ => ∃ i : Nat, i ≤ sets.length ∧ n1 = sets.length - i ∧ (∀ j < i, ∀ s, sets[j]? = some s → (refOk ext s.to && s.loads.all (refOk ext)) = true) ∧ σ = (⟨[.junk, .one (.ptr 0 0), .junk, .junk, .junk, .junk, .junk, .junk, .junk, .junk, .one (.d (.sl 11 (sets.map ASet.c))), .di .i64 sets.length, .di .i64 i, .junk, .junk, .junk, .junk, .junk, .junk, .junk, .junk, .junk, .junk, .junk, .junk, .junk, .junk, .junk, .junk], [.box (List.map .d (Kern.mk ext sets).c)]⟩ : St), ?_, ?_⟩
    · refine ⟨sets.length, ?_⟩
      conv => whnf
      refine ⟨0, by omega, by omega, by omega, ?_⟩
      rw [map_len]; rfl
    · rintro n1 _ ⟨i, hi, rfl, hall, rfl⟩
      conv => whnf
      ((with_reducible refine And.intro (fun (e : (_ : Bool) = true) => ?_) (fun (e : (_ : Bool) = false) => ?_)) <;> (try simp only [reduceCtorEq, ints_len, bools_len, Bool.not_false, Bool.not_true, List.length_map, decide_eq_true_eq, decide_eq_false_iff_not, Bool.not_eq_true', Bool.not_eq_false', Bool.and_eq_true, Bool.or_eq_true, Bool.and_eq_false_iff, Bool.or_eq_false_iff, beq_iff_eq, bne_iff_ne, beq_eq_false_iff_ne, bne_eq_false_iff_eq, Int.not_lt, Int.not_le, ge_iff_le, gt_iff_lt, not_or, not_and, Bool.cond_true_right, Bool.cond_true_left, Bool.cond_false_right, Bool.cond_false_left, bif_t, bif_f] at e) <;> (conv => whnf))
      · have hlt : i < sets.length := by omega
        obtain ⟨x, hget⟩ := get_lt hlt
        have hb := setsBulk_get hget
        have hll := x.loads_len
        have hstr : ∀ r ∈ x.loads, r.str.length ≤ x.bulk := fun r hr => ASet.loads_str hr
        refine ⟨_, And.intro ⟨?_, enc_get hget⟩ ?_⟩
        · omega
        have hto : x.to.str.length ≤ x.bulk := by rw [ASet.bulk]; omega
        obtain ⟨⟨xa, xb, xs⟩, mask, ⟨op, kind, n, ref, kids⟩⟩ := x
        conv => whnf
        refine ⟨[], false, false, ?_⟩
        conv => whnf
        refine ⟨_, _, ⟨ext, ⟨xa, xb, xs⟩, rfl, rfl, by omega, by simp only at hto ⊢; omega, rfl, rfl⟩, ?_⟩
        conv => whnf
        refine ⟨fun e => ?_, fun e => ?_⟩
        · have he := e
          conv => whnf
          refine ⟨fun _ => e, ?_⟩
          conv => whnf
          refine ⟨[], false, false, ?_⟩
          conv => whnf
          refine ⟨_, _, ⟨⟨⟨xa, xb, xs⟩, mask, ⟨op, kind, n, ref, kids⟩⟩, rfl, rfl, by omega, rfl, rfl⟩, ?_⟩
          conv => whnf
          refine ⟨fun e => ?_, fun e => absurd (he.symm.trans e) (by decide)⟩
          conv => whnf
          (repeat' (first | ((with_reducible refine And.intro (fun (e : (_ : Bool) = true) => ?_) (fun (e : (_ : Bool) = false) => ?_)) <;> (try simp only [reduceCtorEq, ints_len, bools_len, Bool.not_false, Bool.not_true, List.length_map, decide_eq_true_eq, decide_eq_false_iff_not, Bool.not_eq_true', Bool.not_eq_false', Bool.and_eq_true, Bool.or_eq_true, Bool.and_eq_false_iff, Bool.or_eq_false_iff, beq_iff_eq, bne_iff_ne, beq_eq_false_iff_ne, bne_eq_false_iff_eq, Int.not_lt, Int.not_le, ge_iff_le, gt_iff_lt, not_or, not_and, Bool.cond_true_right, Bool.cond_true_left, Bool.cond_false_right, Bool.cond_false_left, bif_t, bif_f] at e) <;> (conv => whnf)) | (refine And.intro ?_ ?_; ((first | (with_reducible assumption) | (intro _; with_reducible assumption) | omega | (simp only [reduceCtorEq, ints_len, bools_len, Bool.not_false, Bool.not_true, List.length_map, decide_eq_true_eq, decide_eq_false_iff_not, Bool.not_eq_true', Bool.not_eq_false', Bool.and_eq_true, Bool.or_eq_true, Bool.and_eq_false_iff, Bool.or_eq_false_iff, beq_iff_eq, bne_iff_ne, beq_eq_false_iff_ne, bne_eq_false_iff_eq, Int.not_lt, Int.not_le, ge_iff_le, gt_iff_lt, not_or, not_and, Bool.cond_true_right, Bool.cond_true_left, Bool.cond_false_right, Bool.cond_false_left, bif_t, bif_f] at *; omega) | (intro hg; (try simp only [reduceCtorEq, ints_len, bools_len, Bool.not_false, Bool.not_true, List.length_map, decide_eq_true_eq, decide_eq_false_iff_not, Bool.not_eq_true', Bool.not_eq_false', Bool.and_eq_true, Bool.or_eq_true, Bool.and_eq_false_iff, Bool.or_eq_false_iff, beq_iff_eq, bne_iff_ne, beq_eq_false_iff_ne, bne_eq_false_iff_eq, Int.not_lt, Int.not_le, ge_iff_le, gt_iff_lt, not_or, not_and, Bool.cond_true_right, Bool.cond_true_left, Bool.cond_false_right, Bool.cond_false_left, bif_t, bif_f] at hg); first | (with_reducible assumption) | omega | (simp only [reduceCtorEq, ints_len, bools_len, Bool.not_false, Bool.not_true, List.length_map, decide_eq_true_eq, decide_eq_false_iff_not, Bool.not_eq_true', Bool.not_eq_false', Bool.and_eq_true, Bool.or_eq_true, Bool.and_eq_false_iff, Bool.or_eq_false_iff, beq_iff_eq, bne_iff_ne, beq_eq_false_iff_ne, bne_eq_false_iff_eq, Int.not_lt, Int.not_le, ge_iff_le, gt_iff_lt, not_or, not_and, Bool.cond_true_right, Bool.cond_true_left, Bool.cond_false_right, Bool.cond_false_left, bif_t, bif_f] at *; omega) | (refine ⟨?_, ?_⟩ <;> omega)) | (refine ⟨?_, ?_⟩ <;> omega) | (simp [*]; done) | grind)); (conv => whnf))))
          refine ⟨[], false, false, ?_⟩
          conv => whnf
          refine ⟨_, _, ⟨(ASet.mk ⟨xa, xb, xs⟩ mask ⟨op, kind, n, ref, kids⟩).loads, _, fun r => !refOk ext r, rfl, rfl, by omega, rfl, fun r hr => ⟨⟨ext, sets⟩, r, rfl, rfl, by simp only; omega, by have := hstr r hr; omega, rfl, rfl⟩, rfl, rfl⟩, ?_⟩
          conv => whnf
          (repeat' (first | ((with_reducible refine And.intro (fun (e : (_ : Bool) = true) => ?_) (fun (e : (_ : Bool) = false) => ?_)) <;> (try simp only [reduceCtorEq, ints_len, bools_len, Bool.not_false, Bool.not_true, List.length_map, decide_eq_true_eq, decide_eq_false_iff_not, Bool.not_eq_true', Bool.not_eq_false', Bool.and_eq_true, Bool.or_eq_true, Bool.and_eq_false_iff, Bool.or_eq_false_iff, beq_iff_eq, bne_iff_ne, beq_eq_false_iff_ne, bne_eq_false_iff_eq, Int.not_lt, Int.not_le, ge_iff_le, gt_iff_lt, not_or, not_and, Bool.cond_true_right, Bool.cond_true_left, Bool.cond_false_right, Bool.cond_false_left, bif_t, bif_f] at e) <;> (conv => whnf)) | (refine And.intro ?_ ?_; ((first | (with_reducible assumption) | (intro _; with_reducible assumption) | omega | (simp only [reduceCtorEq, ints_len, bools_len, Bool.not_false, Bool.not_true, List.length_map, decide_eq_true_eq, decide_eq_false_iff_not, Bool.not_eq_true', Bool.not_eq_false', Bool.and_eq_true, Bool.or_eq_true, Bool.and_eq_false_iff, Bool.or_eq_false_iff, beq_iff_eq, bne_iff_ne, beq_eq_false_iff_ne, bne_eq_false_iff_eq, Int.not_lt, Int.not_le, ge_iff_le, gt_iff_lt, not_or, not_and, Bool.cond_true_right, Bool.cond_true_left, Bool.cond_false_right, Bool.cond_false_left, bif_t, bif_f] at *; omega) | (intro hg; (try simp only [reduceCtorEq, ints_len, bools_len, Bool.not_false, Bool.not_true, List.length_map, decide_eq_true_eq, decide_eq_false_iff_not, Bool.not_eq_true', Bool.not_eq_false', Bool.and_eq_true, Bool.or_eq_true, Bool.and_eq_false_iff, Bool.or_eq_false_iff, beq_iff_eq, bne_iff_ne, beq_eq_false_iff_ne, bne_eq_false_iff_eq, Int.not_lt, Int.not_le, ge_iff_le, gt_iff_lt, not_or, not_and, Bool.cond_true_right, Bool.cond_true_left, Bool.cond_false_right, Bool.cond_false_left, bif_t, bif_f] at hg); first | (with_reducible assumption) | omega | (simp only [reduceCtorEq, ints_len, bools_len, Bool.not_false, Bool.not_true, List.length_map, decide_eq_true_eq, decide_eq_false_iff_not, Bool.not_eq_true', Bool.not_eq_false', Bool.and_eq_true, Bool.or_eq_true, Bool.and_eq_false_iff, Bool.or_eq_false_iff, beq_iff_eq, bne_iff_ne, beq_eq_false_iff_ne, bne_eq_false_iff_eq, Int.not_lt, Int.not_le, ge_iff_le, gt_iff_lt, not_or, not_and, Bool.cond_true_right, Bool.cond_true_left, Bool.cond_false_right, Bool.cond_false_left, bif_t, bif_f] at *; omega) | (refine ⟨?_, ?_⟩ <;> omega)) | (refine ⟨?_, ?_⟩ <;> omega) | (simp [*]; done) | grind)); (conv => whnf))))
          · have hx := e
            (refine ⟨[], ?_⟩; (conv => whnf); refine ⟨[], .nil, .nil, ?_⟩; (conv => whnf))
            congr 1
            refine (formed_not ext sets hget ?_).symm
            rcases hx with h | h
            · simp only; rw [h]; rfl
            · rw [Bool.and_eq_false_iff]; right; rw [all_any, h]; rfl
          · obtain ⟨e1, e2⟩ := e
            refine ⟨sets.length - (i + 1), by omega, [], ?_⟩
            conv => whnf
            refine ⟨i + 1, by omega, rfl, fun j hj y hy => ?_, rfl⟩
            by_cases ej : j = i
            · subst ej; rw [hget] at hy; cases hy
              rw [Bool.and_eq_true]
              exact ⟨e1, by rw [all_any, e2]; rfl⟩
            · exact hall j (by omega) y hy
        · have he := e
          conv => whnf
          (repeat' (first | ((with_reducible refine And.intro (fun (e : (_ : Bool) = true) => ?_) (fun (e : (_ : Bool) = false) => ?_)) <;> (try simp only [reduceCtorEq, ints_len, bools_len, Bool.not_false, Bool.not_true, List.length_map, decide_eq_true_eq, decide_eq_false_iff_not, Bool.not_eq_true', Bool.not_eq_false', Bool.and_eq_true, Bool.or_eq_true, Bool.and_eq_false_iff, Bool.or_eq_false_iff, beq_iff_eq, bne_iff_ne, beq_eq_false_iff_ne, bne_eq_false_iff_eq, Int.not_lt, Int.not_le, ge_iff_le, gt_iff_lt, not_or, not_and, Bool.cond_true_right, Bool.cond_true_left, Bool.cond_false_right, Bool.cond_false_left, bif_t, bif_f] at e) <;> (conv => whnf)) | (refine And.intro ?_ ?_; ((first | (with_reducible assumption) | (intro _; with_reducible assumption) | omega | (simp only [reduceCtorEq, ints_len, bools_len, Bool.not_false, Bool.not_true, List.length_map, decide_eq_true_eq, decide_eq_false_iff_not, Bool.not_eq_true', Bool.not_eq_false', Bool.and_eq_true, Bool.or_eq_true, Bool.and_eq_false_iff, Bool.or_eq_false_iff, beq_iff_eq, bne_iff_ne, beq_eq_false_iff_ne, bne_eq_false_iff_eq, Int.not_lt, Int.not_le, ge_iff_le, gt_iff_lt, not_or, not_and, Bool.cond_true_right, Bool.cond_true_left, Bool.cond_false_right, Bool.cond_false_left, bif_t, bif_f] at *; omega) | (intro hg; (try simp only [reduceCtorEq, ints_len, bools_len, Bool.not_false, Bool.not_true, List.length_map, decide_eq_true_eq, decide_eq_false_iff_not, Bool.not_eq_true', Bool.not_eq_false', Bool.and_eq_true, Bool.or_eq_true, Bool.and_eq_false_iff, Bool.or_eq_false_iff, beq_iff_eq, bne_iff_ne, beq_eq_false_iff_ne, bne_eq_false_iff_eq, Int.not_lt, Int.not_le, ge_iff_le, gt_iff_lt, not_or, not_and, Bool.cond_true_right, Bool.cond_true_left, Bool.cond_false_right, Bool.cond_false_left, bif_t, bif_f] at hg); first | (with_reducible assumption) | omega | (simp only [reduceCtorEq, ints_len, bools_len, Bool.not_false, Bool.not_true, List.length_map, decide_eq_true_eq, decide_eq_false_iff_not, Bool.not_eq_true', Bool.not_eq_false', Bool.and_eq_true, Bool.or_eq_true, Bool.and_eq_false_iff, Bool.or_eq_false_iff, beq_iff_eq, bne_iff_ne, beq_eq_false_iff_ne, bne_eq_false_iff_eq, Int.not_lt, Int.not_le, ge_iff_le, gt_iff_lt, not_or, not_and, Bool.cond_true_right, Bool.cond_true_left, Bool.cond_false_right, Bool.cond_false_left, bif_t, bif_f] at *; omega) | (refine ⟨?_, ?_⟩ <;> omega)) | (refine ⟨?_, ?_⟩ <;> omega) | (simp [*]; done) | grind)); (conv => whnf))))
          intro e3
          conv => whnf
          (repeat' (first | ((with_reducible refine And.intro (fun (e : (_ : Bool) = true) => ?_) (fun (e : (_ : Bool) = false) => ?_)) <;> (try simp only [reduceCtorEq, ints_len, bools_len, Bool.not_false, Bool.not_true, List.length_map, decide_eq_true_eq, decide_eq_false_iff_not, Bool.not_eq_true', Bool.not_eq_false', Bool.and_eq_true, Bool.or_eq_true, Bool.and_eq_false_iff, Bool.or_eq_false_iff, beq_iff_eq, bne_iff_ne, beq_eq_false_iff_ne, bne_eq_false_iff_eq, Int.not_lt, Int.not_le, ge_iff_le, gt_iff_lt, not_or, not_and, Bool.cond_true_right, Bool.cond_true_left, Bool.cond_false_right, Bool.cond_false_left, bif_t, bif_f] at e) <;> (conv => whnf)) | (refine And.intro ?_ ?_; ((first | (with_reducible assumption) | (intro _; with_reducible assumption) | omega | (simp only [reduceCtorEq, ints_len, bools_len, Bool.not_false, Bool.not_true, List.length_map, decide_eq_true_eq, decide_eq_false_iff_not, Bool.not_eq_true', Bool.not_eq_false', Bool.and_eq_true, Bool.or_eq_true, Bool.and_eq_false_iff, Bool.or_eq_false_iff, beq_iff_eq, bne_iff_ne, beq_eq_false_iff_ne, bne_eq_false_iff_eq, Int.not_lt, Int.not_le, ge_iff_le, gt_iff_lt, not_or, not_and, Bool.cond_true_right, Bool.cond_true_left, Bool.cond_false_right, Bool.cond_false_left, bif_t, bif_f] at *; omega) | (intro hg; (try simp only [reduceCtorEq, ints_len, bools_len, Bool.not_false, Bool.not_true, List.length_map, decide_eq_true_eq, decide_eq_false_iff_not, Bool.not_eq_true', Bool.not_eq_false', Bool.and_eq_true, Bool.or_eq_true, Bool.and_eq_false_iff, Bool.or_eq_false_iff, beq_iff_eq, bne_iff_ne, beq_eq_false_iff_ne, bne_eq_false_iff_eq, Int.not_lt, Int.not_le, ge_iff_le, gt_iff_lt, not_or, not_and, Bool.cond_true_right, Bool.cond_true_left, Bool.cond_false_right, Bool.cond_false_left, bif_t, bif_f] at hg); first | (with_reducible assumption) | omega | (simp only [reduceCtorEq, ints_len, bools_len, Bool.not_false, Bool.not_true, List.length_map, decide_eq_true_eq, decide_eq_false_iff_not, Bool.not_eq_true', Bool.not_eq_false', Bool.and_eq_true, Bool.or_eq_true, Bool.and_eq_false_iff, Bool.or_eq_false_iff, beq_iff_eq, bne_iff_ne, beq_eq_false_iff_ne, bne_eq_false_iff_eq, Int.not_lt, Int.not_le, ge_iff_le, gt_iff_lt, not_or, not_and, Bool.cond_true_right, Bool.cond_true_left, Bool.cond_false_right, Bool.cond_false_left, bif_t, bif_f] at *; omega) | (refine ⟨?_, ?_⟩ <;> omega)) | (refine ⟨?_, ?_⟩ <;> omega) | (simp [*]; done) | grind)); (conv => whnf))))
          all_goals
            (refine ⟨[], ?_⟩; (conv => whnf); refine ⟨[], .nil, .nil, ?_⟩; (conv => whnf))
            congr 1
            refine (formed_not ext sets hget ?_).symm
            simp at he
            simp only; rw [he]; rfl
      · (refine ⟨[], ?_⟩; (conv => whnf); refine ⟨[], .nil, .nil, ?_⟩; (conv => whnf))
        congr 1
        unfold formed
        rw [decide_eq_true (by simpa using g1), Bool.true_and]
        refine (List.all_eq_true.2 fun y hy => ?_).symm
        obtain ⟨j, hj⟩ := List.getElem?_of_mem hy
        have := (List.getElem?_eq_some_iff.1 hj).1
        simp only at this
        exact hall j (by omega) y hj
end Go.Proofs.Ytahdihhhankhdaa.V

