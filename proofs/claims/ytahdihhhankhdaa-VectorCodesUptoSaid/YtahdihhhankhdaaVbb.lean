/-
  V: code of Sets, both sides. By the session's own hand.
-/
import Derived.Test.YtahdihhhankhdaaVba
import Derived.Test.YtahdihhhankhdaaVp
set_option linter.unusedVariables false
set_option linter.unusedSimpArgs false
set_option maxRecDepth 100000
set_option linter.all false
set_option linter.unnecessarySimpa false
set_option linter.deprecated false
namespace Go.Proofs.Ytahdihhhankhdaa.V
open Go.Proofs.YtahdihhhankhdaaVY Go.RowKit
def R68 (m : Nat) : Ct := fun ss hp r out => ∃ (t : Tree) (nx : Int) (L : List Instr) (v0 v1 : Value), ss = [.one (.ptr 0 0), .v (.ag (t.c.map .d))] ∧ hp = [.box [.own 1, .d (.int .i64 nx)], .row 10 (L.map Instr.c), .mem v0 (.ptr 0 0), .mem v1 (.own 1)] ∧ t.bulk < m ∧ m ≤ 4194305 ∧ L.length + t.bulk ≤ 8388608 ∧ 0 ≤ nx ∧ nx + t.bulk ≤ 8388608 ∧ r = .di .i64 (nx + t.nodes) ∧ out = [.box [.own 1, .d (.int .i64 (nx + t.nodes))], .row 10 ((L ++ t.code nx).map Instr.c), .mem v0 (.ptr 0 0), .mem v1 .junk]
theorem ok68_0 : VSound Try.prog (68, R68 0) := by
  refine .inl ⟨?_, enterB_ok (by kernel_rfl)⟩
  unfold Ok
  intros
  rename_i hR
  obtain ⟨t, _, _, _, _, _, _, h, _⟩ := hR
  omega
set_option maxHeartbeats 4000000 in
theorem ok68_s (m : Nat) (ih : VSound Try.prog (68, R68 m)) : VSound Try.prog (68, R68 (m + 1)) := by
  refine vsound (T := ty) (F := [(68, R68 m)]) (pl := [(9, [[], [], [1], [1, 2], [1, 2, 3], [], [5], [], [7], [7, 8], [7, 8, 9], [], [11], [], [13], [], [15], [], [17], [], [19], [], [21], [5, 6, 7, 8, 9, 10, 11, 12, 13, 14, 15, 16, 17, 18, 19, 20, 21, 22], [5, 6, 7, 8, 9, 10, 11, 12, 13, 14, 15, 16, 17, 18, 19, 20, 21, 22, 23], [1, 2, 3, 4, 5, 6, 7, 8, 9, 10, 11, 12, 13, 14, 15, 16, 17, 18, 19, 20, 21, 22, 23, 24], [0, 1, 2, 3, 4, 5, 6, 7, 8, 9, 10, 11, 12, 13, 14, 15, 16, 17, 18, 19, 20, 21, 22, 23, 24, 25], [0, 1, 2, 3, 4, 5, 6, 7, 8, 9, 10, 11, 12, 13, 14, 15, 16, 17, 18, 19, 20, 21, 22, 23, 24, 25, 26], [0, 1, 2, 3, 4, 5, 6, 7, 8, 9, 10, 11, 12, 13, 14, 15, 16, 17, 18, 19, 20, 21, 22, 23, 24, 25, 26, 27]], .look 0 (.look 1 (.look 2 (.look 3 (.look 4 (.look 5 (.look 6 (.look 7 (.look 8 (.look 9 (.look 10 (.look 11 (.look 12 (.look 13 (.look 14 (.look 15 (.look 16 (.look 17 (.look 18 (.look 19 (.look 20 (.look 21 (.look 22 (.look 23 (.act 24 [0, 1, 2, 3, 4] (.act 25 [0] (.look 26 (.look 27 (.act 28 [] .done .stop))) .stop) .stop)))))))))))))))))))))))))]) (nw := true) (cuts := []) mix tyOk (.cons (ih) .nil) Try.func68 (by kernel_rfl) (by kernel_rfl) ?_
  rintro _ _ _ _ ⟨⟨op, kind, n, ⟨ra, rb, rs⟩, kids⟩, nx, L, v0, v1, rfl, rfl, hm, hm2, hL, h0, hnx, rfl, rfl⟩
  rw [Tree.bulk] at hm hL hnx
  simp only at hm hL hnx
  have hkl := treesBulk_len kids
  have hnn := treesNodes_le kids
  conv => whnf
  refine ⟨[.forget 3], [0, 3, 5, 6], 6, fun n1 σ => ∃ i : Nat, i ≤ kids.length ∧ n1 = kids.length - i ∧ σ = (⟨[.one (.ptr 0 0), .junk, .junk, .one (.ptr 4 0), .junk, .one (.ptr 5 0), .di .i64 i, .junk, .junk, .junk, .junk, .junk, .junk, .junk, .junk, .junk, .junk, .junk, .junk, .junk, .junk, .junk, .junk, .junk, .junk, .junk, .junk, .junk, .junk, .junk, .junk, .junk, .junk, .junk, .junk, .junk, .junk, .junk, .junk, .junk, .junk, .junk, .junk, .junk, .junk, .junk, .junk, .junk, .junk, .junk, .junk, .junk, .junk, .junk, .junk, .junk, .junk, .junk, .junk, .junk, .junk, .junk, .junk, .junk, .junk, .junk], [.box [.own 1, .d (.int .i64 (nx + treesNodes (kids.take i)))], .row 10 ((L ++ treesCode (kids.take i) nx).map Instr.c), .mem v0 (.ptr 0 0), .mem v1 .junk, .box (List.map .d (Tree.mk op kind n ⟨ra, rb, rs⟩ kids).c), .box [.d (.int .i64 (kidReg kids nx 0 i)), .d (.int .i64 (kidReg kids nx 1 i)), .d (.int .i64 (kidReg kids nx 2 i))]]⟩ : St), ?_, ?_⟩
  · refine ⟨kids.length, ?_⟩
    conv => whnf
    refine ⟨0, by omega, by omega, ?_⟩
    rw [List.take_zero, treesCode, List.append_nil, kidReg_later (Nat.zero_le _), kidReg_later (Nat.zero_le _), kidReg_later (Nat.zero_le _), treesNodes, show nx + ((0 : Nat) : Int) = nx by omega]; rfl
  · rintro n1 _ ⟨i, hi, rfl, rfl⟩
    have hcl := treesCode_len (kids.take i) nx
    have hnm := treesNodes_mono kids i
    conv => whnf
    rw [show ((treesC kids).length : Int) = kids.length by rw [treesC_map, map_len]]
    ((with_reducible refine And.intro (fun (e : (_ : Bool) = true) => ?_) (fun (e : (_ : Bool) = false) => ?_)) <;> (try simp only [reduceCtorEq, ints_len, bools_len, Bool.not_false, Bool.not_true, List.length_map, decide_eq_true_eq, decide_eq_false_iff_not, Bool.not_eq_true', Bool.not_eq_false', Bool.and_eq_true, Bool.or_eq_true, Bool.and_eq_false_iff, Bool.or_eq_false_iff, beq_iff_eq, bne_iff_ne, beq_eq_false_iff_ne, bne_eq_false_iff_eq, Int.not_lt, Int.not_le, ge_iff_le, gt_iff_lt, not_or, not_and, Bool.cond_true_right, Bool.cond_true_left, Bool.cond_false_right, Bool.cond_false_left, bif_t, bif_f] at e) <;> (conv => whnf))
    · have hlt : i < kids.length := by omega
      obtain ⟨x, hget⟩ := get_lt hlt
      have hb := treesBulk_get hget
      have hl := treesCode_take (nx := nx) hget
      have hn1 := treesNodes_take hget
      have hw1 := treesBulk_take1 hget
      have hw2 := treesBulk_take kids (i + 1)
      have hw3 := treesNodes_le (kids.take i)
      have hnow := kidReg_now (nx := nx) hlt
      (refine ⟨_, And.intro ⟨by omega, (trees_get hget)⟩ ?_⟩; (conv => whnf))
      obtain ⟨xop, xkind, xn, xref, xkids⟩ := x
      conv => whnf
      refine ⟨[0, 1], false, false, ?_⟩
      conv => whnf
      intro u0 u1
      conv => whnf
      refine ⟨_, _, ⟨.mk xop xkind xn xref xkids, nx + treesNodes (kids.take i), L ++ treesCode (kids.take i) nx, u0, u1, rfl, rfl, by omega, by omega, by rw [List.length_append]; omega, by omega, by omega, rfl, rfl⟩, ?_⟩
      conv => whnf
      refine ⟨rfl, ?_⟩
      conv => whnf
      refine ⟨rfl, ?_⟩
      conv => whnf
      have e1 : nx + (treesNodes (kids.take i) : Int) + ((Tree.mk xop xkind xn xref xkids).nodes : Int) = nx + (treesNodes (kids.take (i + 1)) : Int) := by rw [hn1]; omega
      have e2 : (L ++ treesCode (kids.take i) nx) ++ (Tree.mk xop xkind xn xref xkids).code (nx + treesNodes (kids.take i)) = L ++ treesCode (kids.take (i + 1)) nx := by rw [hl, List.append_assoc]
      rw [e1, e2]
      ((with_reducible refine And.intro (fun (e : (_ : Bool) = true) => ?_) (fun (e : (_ : Bool) = false) => ?_)) <;> (try simp only [reduceCtorEq, ints_len, bools_len, Bool.not_false, Bool.not_true, List.length_map, decide_eq_true_eq, decide_eq_false_iff_not, Bool.not_eq_true', Bool.not_eq_false', Bool.and_eq_true, Bool.or_eq_true, Bool.and_eq_false_iff, Bool.or_eq_false_iff, beq_iff_eq, bne_iff_ne, beq_eq_false_iff_ne, bne_eq_false_iff_eq, Int.not_lt, Int.not_le, ge_iff_le, gt_iff_lt, not_or, not_and, Bool.cond_true_right, Bool.cond_true_left, Bool.cond_false_right, Bool.cond_false_left, bif_t, bif_f] at e) <;> (conv => whnf))
      · have hi3 : i = 0 ∨ i = 1 ∨ i = 2 := by omega
        rcases hi3 with rfl | rfl | rfl
        · conv => whnf
          (refine And.intro ?_ ?_; ((first | (with_reducible assumption) | (intro _; with_reducible assumption) | omega | (simp only [reduceCtorEq, ints_len, bools_len, Bool.not_false, Bool.not_true, List.length_map, decide_eq_true_eq, decide_eq_false_iff_not, Bool.not_eq_true', Bool.not_eq_false', Bool.and_eq_true, Bool.or_eq_true, Bool.and_eq_false_iff, Bool.or_eq_false_iff, beq_iff_eq, bne_iff_ne, beq_eq_false_iff_ne, bne_eq_false_iff_eq, Int.not_lt, Int.not_le, ge_iff_le, gt_iff_lt, not_or, not_and, Bool.cond_true_right, Bool.cond_true_left, Bool.cond_false_right, Bool.cond_false_left, bif_t, bif_f] at *; omega) | (intro hg; (try simp only [reduceCtorEq, ints_len, bools_len, Bool.not_false, Bool.not_true, List.length_map, decide_eq_true_eq, decide_eq_false_iff_not, Bool.not_eq_true', Bool.not_eq_false', Bool.and_eq_true, Bool.or_eq_true, Bool.and_eq_false_iff, Bool.or_eq_false_iff, beq_iff_eq, bne_iff_ne, beq_eq_false_iff_ne, bne_eq_false_iff_eq, Int.not_lt, Int.not_le, ge_iff_le, gt_iff_lt, not_or, not_and, Bool.cond_true_right, Bool.cond_true_left, Bool.cond_false_right, Bool.cond_false_left, bif_t, bif_f] at hg); first | (with_reducible assumption) | omega | (simp only [reduceCtorEq, ints_len, bools_len, Bool.not_false, Bool.not_true, List.length_map, decide_eq_true_eq, decide_eq_false_iff_not, Bool.not_eq_true', Bool.not_eq_false', Bool.and_eq_true, Bool.or_eq_true, Bool.and_eq_false_iff, Bool.or_eq_false_iff, beq_iff_eq, bne_iff_ne, beq_eq_false_iff_ne, bne_eq_false_iff_eq, Int.not_lt, Int.not_le, ge_iff_le, gt_iff_lt, not_or, not_and, Bool.cond_true_right, Bool.cond_true_left, Bool.cond_false_right, Bool.cond_false_left, bif_t, bif_f] at *; omega) | (refine ⟨?_, ?_⟩ <;> omega)) | (refine ⟨?_, ?_⟩ <;> omega) | (simp [*]; done) | grind)); (conv => whnf))
          (refine And.intro ?_ ?_; ((first | (with_reducible assumption) | (intro _; with_reducible assumption) | omega | (simp only [reduceCtorEq, ints_len, bools_len, Bool.not_false, Bool.not_true, List.length_map, decide_eq_true_eq, decide_eq_false_iff_not, Bool.not_eq_true', Bool.not_eq_false', Bool.and_eq_true, Bool.or_eq_true, Bool.and_eq_false_iff, Bool.or_eq_false_iff, beq_iff_eq, bne_iff_ne, beq_eq_false_iff_ne, bne_eq_false_iff_eq, Int.not_lt, Int.not_le, ge_iff_le, gt_iff_lt, not_or, not_and, Bool.cond_true_right, Bool.cond_true_left, Bool.cond_false_right, Bool.cond_false_left, bif_t, bif_f] at *; omega) | (intro hg; (try simp only [reduceCtorEq, ints_len, bools_len, Bool.not_false, Bool.not_true, List.length_map, decide_eq_true_eq, decide_eq_false_iff_not, Bool.not_eq_true', Bool.not_eq_false', Bool.and_eq_true, Bool.or_eq_true, Bool.and_eq_false_iff, Bool.or_eq_false_iff, beq_iff_eq, bne_iff_ne, beq_eq_false_iff_ne, bne_eq_false_iff_eq, Int.not_lt, Int.not_le, ge_iff_le, gt_iff_lt, not_or, not_and, Bool.cond_true_right, Bool.cond_true_left, Bool.cond_false_right, Bool.cond_false_left, bif_t, bif_f] at hg); first | (with_reducible assumption) | omega | (simp only [reduceCtorEq, ints_len, bools_len, Bool.not_false, Bool.not_true, List.length_map, decide_eq_true_eq, decide_eq_false_iff_not, Bool.not_eq_true', Bool.not_eq_false', Bool.and_eq_true, Bool.or_eq_true, Bool.and_eq_false_iff, Bool.or_eq_false_iff, beq_iff_eq, bne_iff_ne, beq_eq_false_iff_ne, bne_eq_false_iff_eq, Int.not_lt, Int.not_le, ge_iff_le, gt_iff_lt, not_or, not_and, Bool.cond_true_right, Bool.cond_true_left, Bool.cond_false_right, Bool.cond_false_left, bif_t, bif_f] at *; omega) | (refine ⟨?_, ?_⟩ <;> omega)) | (refine ⟨?_, ?_⟩ <;> omega) | (simp [*]; done) | grind)); (conv => whnf))
          refine ⟨kids.length - (0 + 1), by omega, [], ?_⟩
          conv => whnf
          refine ⟨0 + 1, by omega, rfl, ?_⟩
          rw [hnow, kidReg_later (show 0 + 1 ≤ 1 by omega), kidReg_later (show 0 + 1 ≤ 2 by omega), kidReg_later (show 0 ≤ 1 by omega), kidReg_later (show 0 ≤ 2 by omega)]; rfl
        · conv => whnf
          (refine And.intro ?_ ?_; ((first | (with_reducible assumption) | (intro _; with_reducible assumption) | omega | (simp only [reduceCtorEq, ints_len, bools_len, Bool.not_false, Bool.not_true, List.length_map, decide_eq_true_eq, decide_eq_false_iff_not, Bool.not_eq_true', Bool.not_eq_false', Bool.and_eq_true, Bool.or_eq_true, Bool.and_eq_false_iff, Bool.or_eq_false_iff, beq_iff_eq, bne_iff_ne, beq_eq_false_iff_ne, bne_eq_false_iff_eq, Int.not_lt, Int.not_le, ge_iff_le, gt_iff_lt, not_or, not_and, Bool.cond_true_right, Bool.cond_true_left, Bool.cond_false_right, Bool.cond_false_left, bif_t, bif_f] at *; omega) | (intro hg; (try simp only [reduceCtorEq, ints_len, bools_len, Bool.not_false, Bool.not_true, List.length_map, decide_eq_true_eq, decide_eq_false_iff_not, Bool.not_eq_true', Bool.not_eq_false', Bool.and_eq_true, Bool.or_eq_true, Bool.and_eq_false_iff, Bool.or_eq_false_iff, beq_iff_eq, bne_iff_ne, beq_eq_false_iff_ne, bne_eq_false_iff_eq, Int.not_lt, Int.not_le, ge_iff_le, gt_iff_lt, not_or, not_and, Bool.cond_true_right, Bool.cond_true_left, Bool.cond_false_right, Bool.cond_false_left, bif_t, bif_f] at hg); first | (with_reducible assumption) | omega | (simp only [reduceCtorEq, ints_len, bools_len, Bool.not_false, Bool.not_true, List.length_map, decide_eq_true_eq, decide_eq_false_iff_not, Bool.not_eq_true', Bool.not_eq_false', Bool.and_eq_true, Bool.or_eq_true, Bool.and_eq_false_iff, Bool.or_eq_false_iff, beq_iff_eq, bne_iff_ne, beq_eq_false_iff_ne, bne_eq_false_iff_eq, Int.not_lt, Int.not_le, ge_iff_le, gt_iff_lt, not_or, not_and, Bool.cond_true_right, Bool.cond_true_left, Bool.cond_false_right, Bool.cond_false_left, bif_t, bif_f] at *; omega) | (refine ⟨?_, ?_⟩ <;> omega)) | (refine ⟨?_, ?_⟩ <;> omega) | (simp [*]; done) | grind)); (conv => whnf))
          (refine And.intro ?_ ?_; ((first | (with_reducible assumption) | (intro _; with_reducible assumption) | omega | (simp only [reduceCtorEq, ints_len, bools_len, Bool.not_false, Bool.not_true, List.length_map, decide_eq_true_eq, decide_eq_false_iff_not, Bool.not_eq_true', Bool.not_eq_false', Bool.and_eq_true, Bool.or_eq_true, Bool.and_eq_false_iff, Bool.or_eq_false_iff, beq_iff_eq, bne_iff_ne, beq_eq_false_iff_ne, bne_eq_false_iff_eq, Int.not_lt, Int.not_le, ge_iff_le, gt_iff_lt, not_or, not_and, Bool.cond_true_right, Bool.cond_true_left, Bool.cond_false_right, Bool.cond_false_left, bif_t, bif_f] at *; omega) | (intro hg; (try simp only [reduceCtorEq, ints_len, bools_len, Bool.not_false, Bool.not_true, List.length_map, decide_eq_true_eq, decide_eq_false_iff_not, Bool.not_eq_true', Bool.not_eq_false', Bool.and_eq_true, Bool.or_eq_true, Bool.and_eq_false_iff, Bool.or_eq_false_iff, beq_iff_eq, bne_iff_ne, beq_eq_false_iff_ne, bne_eq_false_iff_eq, Int.not_lt, Int.not_le, ge_iff_le, gt_iff_lt, not_or, not_and, Bool.cond_true_right, Bool.cond_true_left, Bool.cond_false_right, Bool.cond_false_left, bif_t, bif_f] at hg); first | (with_reducible assumption) | omega | (simp only [reduceCtorEq, ints_len, bools_len, Bool.not_false, Bool.not_true, List.length_map, decide_eq_true_eq, decide_eq_false_iff_not, Bool.not_eq_true', Bool.not_eq_false', Bool.and_eq_true, Bool.or_eq_true, Bool.and_eq_false_iff, Bool.or_eq_false_iff, beq_iff_eq, bne_iff_ne, beq_eq_false_iff_ne, bne_eq_false_iff_eq, Int.not_lt, Int.not_le, ge_iff_le, gt_iff_lt, not_or, not_and, Bool.cond_true_right, Bool.cond_true_left, Bool.cond_false_right, Bool.cond_false_left, bif_t, bif_f] at *; omega) | (refine ⟨?_, ?_⟩ <;> omega)) | (refine ⟨?_, ?_⟩ <;> omega) | (simp [*]; done) | grind)); (conv => whnf))
          refine ⟨kids.length - (1 + 1), by omega, [], ?_⟩
          conv => whnf
          refine ⟨1 + 1, by omega, rfl, ?_⟩
          rw [hnow, kidReg_done (show 0 < 1 by omega), kidReg_later (show 1 + 1 ≤ 2 by omega), kidReg_later (show 1 ≤ 2 by omega)]; rfl
        · conv => whnf
          (refine And.intro ?_ ?_; ((first | (with_reducible assumption) | (intro _; with_reducible assumption) | omega | (simp only [reduceCtorEq, ints_len, bools_len, Bool.not_false, Bool.not_true, List.length_map, decide_eq_true_eq, decide_eq_false_iff_not, Bool.not_eq_true', Bool.not_eq_false', Bool.and_eq_true, Bool.or_eq_true, Bool.and_eq_false_iff, Bool.or_eq_false_iff, beq_iff_eq, bne_iff_ne, beq_eq_false_iff_ne, bne_eq_false_iff_eq, Int.not_lt, Int.not_le, ge_iff_le, gt_iff_lt, not_or, not_and, Bool.cond_true_right, Bool.cond_true_left, Bool.cond_false_right, Bool.cond_false_left, bif_t, bif_f] at *; omega) | (intro hg; (try simp only [reduceCtorEq, ints_len, bools_len, Bool.not_false, Bool.not_true, List.length_map, decide_eq_true_eq, decide_eq_false_iff_not, Bool.not_eq_true', Bool.not_eq_false', Bool.and_eq_true, Bool.or_eq_true, Bool.and_eq_false_iff, Bool.or_eq_false_iff, beq_iff_eq, bne_iff_ne, beq_eq_false_iff_ne, bne_eq_false_iff_eq, Int.not_lt, Int.not_le, ge_iff_le, gt_iff_lt, not_or, not_and, Bool.cond_true_right, Bool.cond_true_left, Bool.cond_false_right, Bool.cond_false_left, bif_t, bif_f] at hg); first | (with_reducible assumption) | omega | (simp only [reduceCtorEq, ints_len, bools_len, Bool.not_false, Bool.not_true, List.length_map, decide_eq_true_eq, decide_eq_false_iff_not, Bool.not_eq_true', Bool.not_eq_false', Bool.and_eq_true, Bool.or_eq_true, Bool.and_eq_false_iff, Bool.or_eq_false_iff, beq_iff_eq, bne_iff_ne, beq_eq_false_iff_ne, bne_eq_false_iff_eq, Int.not_lt, Int.not_le, ge_iff_le, gt_iff_lt, not_or, not_and, Bool.cond_true_right, Bool.cond_true_left, Bool.cond_false_right, Bool.cond_false_left, bif_t, bif_f] at *; omega) | (refine ⟨?_, ?_⟩ <;> omega)) | (refine ⟨?_, ?_⟩ <;> omega) | (simp [*]; done) | grind)); (conv => whnf))
          (refine And.intro ?_ ?_; ((first | (with_reducible assumption) | (intro _; with_reducible assumption) | omega | (simp only [reduceCtorEq, ints_len, bools_len, Bool.not_false, Bool.not_true, List.length_map, decide_eq_true_eq, decide_eq_false_iff_not, Bool.not_eq_true', Bool.not_eq_false', Bool.and_eq_true, Bool.or_eq_true, Bool.and_eq_false_iff, Bool.or_eq_false_iff, beq_iff_eq, bne_iff_ne, beq_eq_false_iff_ne, bne_eq_false_iff_eq, Int.not_lt, Int.not_le, ge_iff_le, gt_iff_lt, not_or, not_and, Bool.cond_true_right, Bool.cond_true_left, Bool.cond_false_right, Bool.cond_false_left, bif_t, bif_f] at *; omega) | (intro hg; (try simp only [reduceCtorEq, ints_len, bools_len, Bool.not_false, Bool.not_true, List.length_map, decide_eq_true_eq, decide_eq_false_iff_not, Bool.not_eq_true', Bool.not_eq_false', Bool.and_eq_true, Bool.or_eq_true, Bool.and_eq_false_iff, Bool.or_eq_false_iff, beq_iff_eq, bne_iff_ne, beq_eq_false_iff_ne, bne_eq_false_iff_eq, Int.not_lt, Int.not_le, ge_iff_le, gt_iff_lt, not_or, not_and, Bool.cond_true_right, Bool.cond_true_left, Bool.cond_false_right, Bool.cond_false_left, bif_t, bif_f] at hg); first | (with_reducible assumption) | omega | (simp only [reduceCtorEq, ints_len, bools_len, Bool.not_false, Bool.not_true, List.length_map, decide_eq_true_eq, decide_eq_false_iff_not, Bool.not_eq_true', Bool.not_eq_false', Bool.and_eq_true, Bool.or_eq_true, Bool.and_eq_false_iff, Bool.or_eq_false_iff, beq_iff_eq, bne_iff_ne, beq_eq_false_iff_ne, bne_eq_false_iff_eq, Int.not_lt, Int.not_le, ge_iff_le, gt_iff_lt, not_or, not_and, Bool.cond_true_right, Bool.cond_true_left, Bool.cond_false_right, Bool.cond_false_left, bif_t, bif_f] at *; omega) | (refine ⟨?_, ?_⟩ <;> omega)) | (refine ⟨?_, ?_⟩ <;> omega) | (simp [*]; done) | grind)); (conv => whnf))
          refine ⟨kids.length - (2 + 1), by omega, [], ?_⟩
          conv => whnf
          refine ⟨2 + 1, by omega, rfl, ?_⟩
          rw [hnow, kidReg_done (show 0 < 2 by omega), kidReg_done (show 1 < 2 by omega)]; rfl
      · have hi3 : 3 ≤ i := by omega
        (refine And.intro ?_ ?_; ((first | (with_reducible assumption) | (intro _; with_reducible assumption) | omega | (simp only [reduceCtorEq, ints_len, bools_len, Bool.not_false, Bool.not_true, List.length_map, decide_eq_true_eq, decide_eq_false_iff_not, Bool.not_eq_true', Bool.not_eq_false', Bool.and_eq_true, Bool.or_eq_true, Bool.and_eq_false_iff, Bool.or_eq_false_iff, beq_iff_eq, bne_iff_ne, beq_eq_false_iff_ne, bne_eq_false_iff_eq, Int.not_lt, Int.not_le, ge_iff_le, gt_iff_lt, not_or, not_and, Bool.cond_true_right, Bool.cond_true_left, Bool.cond_false_right, Bool.cond_false_left, bif_t, bif_f] at *; omega) | (intro hg; (try simp only [reduceCtorEq, ints_len, bools_len, Bool.not_false, Bool.not_true, List.length_map, decide_eq_true_eq, decide_eq_false_iff_not, Bool.not_eq_true', Bool.not_eq_false', Bool.and_eq_true, Bool.or_eq_true, Bool.and_eq_false_iff, Bool.or_eq_false_iff, beq_iff_eq, bne_iff_ne, beq_eq_false_iff_ne, bne_eq_false_iff_eq, Int.not_lt, Int.not_le, ge_iff_le, gt_iff_lt, not_or, not_and, Bool.cond_true_right, Bool.cond_true_left, Bool.cond_false_right, Bool.cond_false_left, bif_t, bif_f] at hg); first | (with_reducible assumption) | omega | (simp only [reduceCtorEq, ints_len, bools_len, Bool.not_false, Bool.not_true, List.length_map, decide_eq_true_eq, decide_eq_false_iff_not, Bool.not_eq_true', Bool.not_eq_false', Bool.and_eq_true, Bool.or_eq_true, Bool.and_eq_false_iff, Bool.or_eq_false_iff, beq_iff_eq, bne_iff_ne, beq_eq_false_iff_ne, bne_eq_false_iff_eq, Int.not_lt, Int.not_le, ge_iff_le, gt_iff_lt, not_or, not_and, Bool.cond_true_right, Bool.cond_true_left, Bool.cond_false_right, Bool.cond_false_left, bif_t, bif_f] at *; omega) | (refine ⟨?_, ?_⟩ <;> omega)) | (refine ⟨?_, ?_⟩ <;> omega) | (simp [*]; done) | grind)); (conv => whnf))
        refine ⟨kids.length - (i + 1), by omega, [], ?_⟩
        conv => whnf
        refine ⟨i + 1, by omega, rfl, ?_⟩
        rw [kidReg_done (show 0 < i by omega), kidReg_done (show 1 < i by omega), kidReg_done (show 2 < i by omega)]; rfl
    · have hi' : i = kids.length := by omega
      subst hi'
      rw [List.take_length] at hcl ⊢
      (refine And.intro ?_ ?_; ((first | (with_reducible assumption) | (intro _; with_reducible assumption) | omega | (simp only [reduceCtorEq, ints_len, bools_len, Bool.not_false, Bool.not_true, List.length_map, decide_eq_true_eq, decide_eq_false_iff_not, Bool.not_eq_true', Bool.not_eq_false', Bool.and_eq_true, Bool.or_eq_true, Bool.and_eq_false_iff, Bool.or_eq_false_iff, beq_iff_eq, bne_iff_ne, beq_eq_false_iff_ne, bne_eq_false_iff_eq, Int.not_lt, Int.not_le, ge_iff_le, gt_iff_lt, not_or, not_and, Bool.cond_true_right, Bool.cond_true_left, Bool.cond_false_right, Bool.cond_false_left, bif_t, bif_f] at *; omega) | (intro hg; (try simp only [reduceCtorEq, ints_len, bools_len, Bool.not_false, Bool.not_true, List.length_map, decide_eq_true_eq, decide_eq_false_iff_not, Bool.not_eq_true', Bool.not_eq_false', Bool.and_eq_true, Bool.or_eq_true, Bool.and_eq_false_iff, Bool.or_eq_false_iff, beq_iff_eq, bne_iff_ne, beq_eq_false_iff_ne, bne_eq_false_iff_eq, Int.not_lt, Int.not_le, ge_iff_le, gt_iff_lt, not_or, not_and, Bool.cond_true_right, Bool.cond_true_left, Bool.cond_false_right, Bool.cond_false_left, bif_t, bif_f] at hg); first | (with_reducible assumption) | omega | (simp only [reduceCtorEq, ints_len, bools_len, Bool.not_false, Bool.not_true, List.length_map, decide_eq_true_eq, decide_eq_false_iff_not, Bool.not_eq_true', Bool.not_eq_false', Bool.and_eq_true, Bool.or_eq_true, Bool.and_eq_false_iff, Bool.or_eq_false_iff, beq_iff_eq, bne_iff_ne, beq_eq_false_iff_ne, bne_eq_false_iff_eq, Int.not_lt, Int.not_le, ge_iff_le, gt_iff_lt, not_or, not_and, Bool.cond_true_right, Bool.cond_true_left, Bool.cond_false_right, Bool.cond_false_left, bif_t, bif_f] at *; omega) | (refine ⟨?_, ?_⟩ <;> omega)) | (refine ⟨?_, ?_⟩ <;> omega) | (simp [*]; done) | grind)); (conv => whnf))
      (refine And.intro ?_ ?_; ((first | (with_reducible assumption) | (intro _; with_reducible assumption) | omega | (simp only [reduceCtorEq, ints_len, bools_len, Bool.not_false, Bool.not_true, List.length_map, decide_eq_true_eq, decide_eq_false_iff_not, Bool.not_eq_true', Bool.not_eq_false', Bool.and_eq_true, Bool.or_eq_true, Bool.and_eq_false_iff, Bool.or_eq_false_iff, beq_iff_eq, bne_iff_ne, beq_eq_false_iff_ne, bne_eq_false_iff_eq, Int.not_lt, Int.not_le, ge_iff_le, gt_iff_lt, not_or, not_and, Bool.cond_true_right, Bool.cond_true_left, Bool.cond_false_right, Bool.cond_false_left, bif_t, bif_f] at *; omega) | (intro hg; (try simp only [reduceCtorEq, ints_len, bools_len, Bool.not_false, Bool.not_true, List.length_map, decide_eq_true_eq, decide_eq_false_iff_not, Bool.not_eq_true', Bool.not_eq_false', Bool.and_eq_true, Bool.or_eq_true, Bool.and_eq_false_iff, Bool.or_eq_false_iff, beq_iff_eq, bne_iff_ne, beq_eq_false_iff_ne, bne_eq_false_iff_eq, Int.not_lt, Int.not_le, ge_iff_le, gt_iff_lt, not_or, not_and, Bool.cond_true_right, Bool.cond_true_left, Bool.cond_false_right, Bool.cond_false_left, bif_t, bif_f] at hg); first | (with_reducible assumption) | omega | (simp only [reduceCtorEq, ints_len, bools_len, Bool.not_false, Bool.not_true, List.length_map, decide_eq_true_eq, decide_eq_false_iff_not, Bool.not_eq_true', Bool.not_eq_false', Bool.and_eq_true, Bool.or_eq_true, Bool.and_eq_false_iff, Bool.or_eq_false_iff, beq_iff_eq, bne_iff_ne, beq_eq_false_iff_ne, bne_eq_false_iff_eq, Int.not_lt, Int.not_le, ge_iff_le, gt_iff_lt, not_or, not_and, Bool.cond_true_right, Bool.cond_true_left, Bool.cond_false_right, Bool.cond_false_left, bif_t, bif_f] at *; omega) | (refine ⟨?_, ?_⟩ <;> omega)) | (refine ⟨?_, ?_⟩ <;> omega) | (simp [*]; done) | grind)); (conv => whnf))
      (refine And.intro ?_ ?_; ((first | (with_reducible assumption) | (intro _; with_reducible assumption) | omega | (simp only [reduceCtorEq, ints_len, bools_len, Bool.not_false, Bool.not_true, List.length_map, decide_eq_true_eq, decide_eq_false_iff_not, Bool.not_eq_true', Bool.not_eq_false', Bool.and_eq_true, Bool.or_eq_true, Bool.and_eq_false_iff, Bool.or_eq_false_iff, beq_iff_eq, bne_iff_ne, beq_eq_false_iff_ne, bne_eq_false_iff_eq, Int.not_lt, Int.not_le, ge_iff_le, gt_iff_lt, not_or, not_and, Bool.cond_true_right, Bool.cond_true_left, Bool.cond_false_right, Bool.cond_false_left, bif_t, bif_f] at *; omega) | (intro hg; (try simp only [reduceCtorEq, ints_len, bools_len, Bool.not_false, Bool.not_true, List.length_map, decide_eq_true_eq, decide_eq_false_iff_not, Bool.not_eq_true', Bool.not_eq_false', Bool.and_eq_true, Bool.or_eq_true, Bool.and_eq_false_iff, Bool.or_eq_false_iff, beq_iff_eq, bne_iff_ne, beq_eq_false_iff_ne, bne_eq_false_iff_eq, Int.not_lt, Int.not_le, ge_iff_le, gt_iff_lt, not_or, not_and, Bool.cond_true_right, Bool.cond_true_left, Bool.cond_false_right, Bool.cond_false_left, bif_t, bif_f] at hg); first | (with_reducible assumption) | omega | (simp only [reduceCtorEq, ints_len, bools_len, Bool.not_false, Bool.not_true, List.length_map, decide_eq_true_eq, decide_eq_false_iff_not, Bool.not_eq_true', Bool.not_eq_false', Bool.and_eq_true, Bool.or_eq_true, Bool.and_eq_false_iff, Bool.or_eq_false_iff, beq_iff_eq, bne_iff_ne, beq_eq_false_iff_ne, bne_eq_false_iff_eq, Int.not_lt, Int.not_le, ge_iff_le, gt_iff_lt, not_or, not_and, Bool.cond_true_right, Bool.cond_true_left, Bool.cond_false_right, Bool.cond_false_left, bif_t, bif_f] at *; omega) | (refine ⟨?_, ?_⟩ <;> omega)) | (refine ⟨?_, ?_⟩ <;> omega) | (simp [*]; done) | grind)); (conv => whnf))
      (refine And.intro ?_ ?_; ((first | (with_reducible assumption) | (intro _; with_reducible assumption) | omega | (simp only [reduceCtorEq, ints_len, bools_len, Bool.not_false, Bool.not_true, List.length_map, decide_eq_true_eq, decide_eq_false_iff_not, Bool.not_eq_true', Bool.not_eq_false', Bool.and_eq_true, Bool.or_eq_true, Bool.and_eq_false_iff, Bool.or_eq_false_iff, beq_iff_eq, bne_iff_ne, beq_eq_false_iff_ne, bne_eq_false_iff_eq, Int.not_lt, Int.not_le, ge_iff_le, gt_iff_lt, not_or, not_and, Bool.cond_true_right, Bool.cond_true_left, Bool.cond_false_right, Bool.cond_false_left, bif_t, bif_f] at *; omega) | (intro hg; (try simp only [reduceCtorEq, ints_len, bools_len, Bool.not_false, Bool.not_true, List.length_map, decide_eq_true_eq, decide_eq_false_iff_not, Bool.not_eq_true', Bool.not_eq_false', Bool.and_eq_true, Bool.or_eq_true, Bool.and_eq_false_iff, Bool.or_eq_false_iff, beq_iff_eq, bne_iff_ne, beq_eq_false_iff_ne, bne_eq_false_iff_eq, Int.not_lt, Int.not_le, ge_iff_le, gt_iff_lt, not_or, not_and, Bool.cond_true_right, Bool.cond_true_left, Bool.cond_false_right, Bool.cond_false_left, bif_t, bif_f] at hg); first | (with_reducible assumption) | omega | (simp only [reduceCtorEq, ints_len, bools_len, Bool.not_false, Bool.not_true, List.length_map, decide_eq_true_eq, decide_eq_false_iff_not, Bool.not_eq_true', Bool.not_eq_false', Bool.and_eq_true, Bool.or_eq_true, Bool.and_eq_false_iff, Bool.or_eq_false_iff, beq_iff_eq, bne_iff_ne, beq_eq_false_iff_ne, bne_eq_false_iff_eq, Int.not_lt, Int.not_le, ge_iff_le, gt_iff_lt, not_or, not_and, Bool.cond_true_right, Bool.cond_true_left, Bool.cond_false_right, Bool.cond_false_left, bif_t, bif_f] at *; omega) | (refine ⟨?_, ?_⟩ <;> omega)) | (refine ⟨?_, ?_⟩ <;> omega) | (simp [*]; done) | grind)); (conv => whnf))
      refine ⟨by rw [map_len, List.length_append]; simp only [List.length_cons, List.length_nil]; omega, ?_⟩
      conv => whnf
      refine ⟨[], ?_⟩
      conv => whnf
      have hN : ((Tree.mk op kind n ⟨ra, rb, rs⟩ kids).nodes : Int) = (treesNodes kids : Int) + 1 := by rw [Tree.nodes]; rfl
      refine ⟨[0, 1, 2, 3], by simp, .cons ⟨_, rfl, ?_⟩ (.cons ⟨_, rfl, rfl, ?_⟩ (.cons ⟨_, rfl, rfl, rfl, rfl⟩ (.cons ⟨_, rfl, rfl, trivial⟩ .nil))), ?_⟩
      · refine .cons rfl (.cons ?_ .nil)
        show D.int .i64 _ = D.int .i64 _
        rw [hN, Int.add_assoc]
      · rw [Tree.code, ← List.append_assoc, List.map_append (l₂ := [_])]
        have e1 : nx + (treesNodes kids : Int) + 1 = nx + ((treesNodes kids + 1 : Nat) : Int) := by omega
        rw [← e1]; rfl
      · show D.int .i64 _ = D.int .i64 _
        rw [hN, Int.add_assoc]
theorem ok68 : ∀ m : Nat, VSound Try.prog (68, R68 m)
  | 0 => ok68_0
  | m + 1 => ok68_s m (ok68 m)
def maskI (r : Int) : Instr := ⟨⟨#[109, 97, 115, 107]⟩, 0, r, 0, 0, 0, 0, ⟨0, 0, []⟩⟩
def storeI (r : Int) (to : Ref) : Instr := ⟨⟨#[115, 116, 111, 114, 101]⟩, 0, r, 0, 0, 0, 0, to⟩
/-- the code of so many Masks -/
def maskCode (l : List Tree) : Nat → List Instr
  | 0 => []
  | i + 1 => match l[i]? with
    | some t => maskCode l i ++ t.code (treesNodes (l.take i)) ++ [maskI (treesNodes (l.take (i + 1)))]
    | none => maskCode l i
def setCode (s : ASet) : List Instr := maskCode s.mask s.mask.length ++ s.val.code (treesNodes s.mask) ++ [storeI (treesNodes s.mask + s.val.nodes : Nat) s.to]
theorem maskCode_len {l : List Tree} : ∀ i ≤ l.length, (maskCode l i).length = treesNodes (l.take i) + i
  | 0, _ => by simp [maskCode, treesNodes]
  | i + 1, h => by
    obtain ⟨x, hx⟩ := get_lt (l := l) (i := i) (by omega)
    have := maskCode_len (l := l) i (by omega)
    rw [maskCode, hx]
    simp only [List.length_append, List.length_cons, List.length_nil]
    rw [this, Tree.code_len, treesNodes_take hx]; omega
def R67 : Ct := fun ss hp r out => ∃ s : ASet, ss = [.v (.ag (s.c.map .d))] ∧ hp = [] ∧ s.bulk ≤ 2097152 ∧ r = .one (.own 0) ∧ out = [.row 10 ((setCode s).map Instr.c)]
set_option maxHeartbeats 4000000 in
theorem ok67 : VSound Try.prog (67, R67) := by
  refine vsound (T := ty) (F := [(64, R64), (103, R103 4194305)]) (pl := [(11, [[], [0], [0, 1], [0, 1, 2], [], [], [4, 5], [4, 5, 6], [0, 1, 2, 3, 4, 5, 6, 7], [0, 1, 2, 3, 4, 5, 6, 7, 8]], .look 0 (.look 1 (.look 2 (.look 3 (.look 4 (.look 5 (.look 6 (.act 7 [0, 1, 2, 3] (.act 8 [] (.look 9 .done) .stop) .stop))))))))]) (nw := true) (cuts := []) mix tyOk (.cons (ok64) (.cons (ok103 4194305) .nil)) Try.func67 (by kernel_rfl) (by kernel_rfl) ?_
  rintro _ _ _ _ ⟨⟨⟨xa, xb, xs⟩, mask, ⟨op, kind, n, ref, kids⟩⟩, rfl, rfl, hm, rfl, rfl⟩
  simp only [ASet.bulk] at hm
  have hkl := treesBulk_len mask
  have hnn := treesNodes_le mask
  conv => whnf
  refine ⟨[.cell 1 0], [1, 3, 12, 13, 14], 3, fun n1 σ => ∃ i : Nat, i ≤ mask.length ∧ n1 = mask.length - i ∧ σ = (⟨[.junk, .one (.ptr 0 0), .junk, .one (.ptr 1 0), .junk, .junk, .junk, .junk, .junk, .junk, .junk, .junk, .one (.d (.sl 7 (mask.map Tree.c))), .di .i64 mask.length, .di .i64 i, .junk, .junk, .junk, .junk, .junk, .junk, .junk, .junk, .junk, .junk, .junk, .junk, .junk, .junk, .junk, .junk, .junk, .junk, .junk, .junk, .junk, .junk, .junk, .junk, .junk, .junk, .junk, .junk, .junk, .junk, .junk, .junk, .junk, .junk, .junk, .junk, .junk, .junk], [.box (List.map .d (ASet.mk ⟨xa, xb, xs⟩ mask ⟨op, kind, n, ref, kids⟩).c), .box [.own 2, .d (.int .i64 (treesNodes (mask.take i) : Nat))], .row 10 ((maskCode mask i).map Instr.c)]⟩ : St), ?_, ?_⟩
  · refine ⟨mask.length, ?_⟩
    conv => whnf
    refine ⟨0, by omega, by omega, ?_⟩
    rw [map_len]; rfl
  · rintro n1 _ ⟨i, hi, rfl, rfl⟩
    have hcl := maskCode_len (l := mask) i hi
    have hnm := treesNodes_mono mask i
    conv => whnf
    ((with_reducible refine And.intro (fun (e : (_ : Bool) = true) => ?_) (fun (e : (_ : Bool) = false) => ?_)) <;> (try simp only [reduceCtorEq, ints_len, bools_len, Bool.not_false, Bool.not_true, List.length_map, decide_eq_true_eq, decide_eq_false_iff_not, Bool.not_eq_true', Bool.not_eq_false', Bool.and_eq_true, Bool.or_eq_true, Bool.and_eq_false_iff, Bool.or_eq_false_iff, beq_iff_eq, bne_iff_ne, beq_eq_false_iff_ne, bne_eq_false_iff_eq, Int.not_lt, Int.not_le, ge_iff_le, gt_iff_lt, not_or, not_and, Bool.cond_true_right, Bool.cond_true_left, Bool.cond_false_right, Bool.cond_false_left, bif_t, bif_f] at e) <;> (conv => whnf))
    · have hlt : i < mask.length := by omega
      obtain ⟨x, hget⟩ := get_lt hlt
      have hb := treesBulk_get hget
      have hn1 := treesNodes_take hget
      have hw1 := treesBulk_take1 hget
      have hw2 := treesBulk_take mask (i + 1)
      have hw3 := treesNodes_le (mask.take i)
      have hcode : maskCode mask (i + 1) = maskCode mask i ++ x.code (treesNodes (mask.take i)) ++ [maskI (treesNodes (mask.take (i + 1)))] := by rw [maskCode, hget]
      have hxl := x.code_len (treesNodes (mask.take i))
      have hxn := x.nodes_le
      (refine ⟨_, And.intro ⟨by omega, enc_get hget⟩ ?_⟩; (conv => whnf))
      obtain ⟨xop, xkind, xn, xref, xkids⟩ := x
      conv => whnf
      refine ⟨[1, 2], false, false, ?_⟩
      conv => whnf
      intro u0 u1
      conv => whnf
      refine ⟨_, _, ⟨.mk xop xkind xn xref xkids, (treesNodes (mask.take i) : Nat), maskCode mask i, u0, u1, rfl, rfl, by omega, by omega, by omega, by omega, by omega, rfl, rfl⟩, ?_⟩
      conv => whnf
      refine ⟨rfl, ?_⟩
      conv => whnf
      refine ⟨rfl, ?_⟩
      conv => whnf
      have e1 : ((treesNodes (mask.take i) : Nat) : Int) + ((Tree.mk xop xkind xn xref xkids).nodes : Int) = ((treesNodes (mask.take (i + 1)) : Nat) : Int) := by rw [hn1]; omega
      rw [e1]
      refine ⟨by rw [map_len, List.length_append]; simp only [List.length_cons, List.length_nil]; omega, ?_⟩
      conv => whnf
      (refine And.intro ?_ ?_; ((first | (with_reducible assumption) | (intro _; with_reducible assumption) | omega | (simp only [reduceCtorEq, ints_len, bools_len, Bool.not_false, Bool.not_true, List.length_map, decide_eq_true_eq, decide_eq_false_iff_not, Bool.not_eq_true', Bool.not_eq_false', Bool.and_eq_true, Bool.or_eq_true, Bool.and_eq_false_iff, Bool.or_eq_false_iff, beq_iff_eq, bne_iff_ne, beq_eq_false_iff_ne, bne_eq_false_iff_eq, Int.not_lt, Int.not_le, ge_iff_le, gt_iff_lt, not_or, not_and, Bool.cond_true_right, Bool.cond_true_left, Bool.cond_false_right, Bool.cond_false_left, bif_t, bif_f] at *; omega) | (intro hg; (try simp only [reduceCtorEq, ints_len, bools_len, Bool.not_false, Bool.not_true, List.length_map, decide_eq_true_eq, decide_eq_false_iff_not, Bool.not_eq_true', Bool.not_eq_false', Bool.and_eq_true, Bool.or_eq_true, Bool.and_eq_false_iff, Bool.or_eq_false_iff, beq_iff_eq, bne_iff_ne, beq_eq_false_iff_ne, bne_eq_false_iff_eq, Int.not_lt, Int.not_le, ge_iff_le, gt_iff_lt, not_or, not_and, Bool.cond_true_right, Bool.cond_true_left, Bool.cond_false_right, Bool.cond_false_left, bif_t, bif_f] at hg); first | (with_reducible assumption) | omega | (simp only [reduceCtorEq, ints_len, bools_len, Bool.not_false, Bool.not_true, List.length_map, decide_eq_true_eq, decide_eq_false_iff_not, Bool.not_eq_true', Bool.not_eq_false', Bool.and_eq_true, Bool.or_eq_true, Bool.and_eq_false_iff, Bool.or_eq_false_iff, beq_iff_eq, bne_iff_ne, beq_eq_false_iff_ne, bne_eq_false_iff_eq, Int.not_lt, Int.not_le, ge_iff_le, gt_iff_lt, not_or, not_and, Bool.cond_true_right, Bool.cond_true_left, Bool.cond_false_right, Bool.cond_false_left, bif_t, bif_f] at *; omega) | (refine ⟨?_, ?_⟩ <;> omega)) | (refine ⟨?_, ?_⟩ <;> omega) | (simp [*]; done) | grind)); (conv => whnf))
      refine ⟨mask.length - (i + 1), by omega, [], ?_⟩
      conv => whnf
      refine ⟨i + 1, by omega, rfl, ?_⟩
      rw [hcode, List.map_append (l₂ := [_])]; rfl
    · have hi' : i = mask.length := by omega
      subst hi'
      rw [List.take_length] at hcl ⊢
      have hvl := (Tree.mk op kind n ref kids).code_len (treesNodes mask)
      have hvn := (Tree.mk op kind n ref kids).nodes_le
      refine ⟨[1, 2], false, false, ?_⟩
      conv => whnf
      intro u0 u1
      conv => whnf
      refine ⟨_, _, ⟨.mk op kind n ref kids, (treesNodes mask : Nat), maskCode mask mask.length, u0, u1, rfl, rfl, by omega, by omega, by omega, by omega, by omega, rfl, rfl⟩, ?_⟩
      conv => whnf
      refine ⟨rfl, ?_⟩
      conv => whnf
      refine ⟨rfl, ?_⟩
      conv => whnf
      (refine ⟨[], false, false, ?_⟩; (conv => whnf); refine ⟨_, _, ⟨xs, rfl, rfl, by omega, rfl, rfl⟩, ?_⟩; (conv => whnf))
      refine ⟨by rw [map_len, List.length_append]; simp only [List.length_cons, List.length_nil]; omega, ?_⟩
      conv => whnf
      refine ⟨[], ?_⟩
      conv => whnf
      refine ⟨[2], by simp, .cons ⟨_, rfl, rfl, ?_⟩ .nil, rfl⟩
      rw [setCode, List.map_append (l₂ := [_])]; rfl
def codeOk (k : Kern) (set : Int) : Bool := isKern k && decide (0 ≤ set ∧ set < k.sets.length)
def codeOf (k : Kern) (set : Int) : List Instr := if codeOk k set then (k.sets[set.toNat]?.map setCode).getD [] else []
theorem codeOk_iff {k : Kern} {set : Int} : codeOk k set = true ↔ isKern k = true ∧ 0 ≤ set ∧ set < k.sets.length := by
  unfold codeOk; simp only [Bool.and_eq_true, decide_eq_true_eq]
theorem codeOf_at {k : Kern} {i : Nat} {s : ASet} (h : codeOk k i = true) (hs : k.sets[i]? = some s) : codeOf k i = setCode s := by
  unfold codeOf; rw [if_pos h, Int.toNat_natCast, hs]; rfl
theorem codeOf_no {k : Kern} {set : Int} (h : codeOk k set = false) : codeOf k set = [] := by
  unfold codeOf; rw [h]; rfl
def R26 : Ct := fun ss hp r out => ∃ (k : Kern) (set : Int), ss = [.v (.ag (k.c.map .d)), .di .i64 set] ∧ hp = [] ∧ k.bulk ≤ 2097152 ∧ r = .tup [.c (.own 0), .c (.d (.int .i64 (if codeOk k set then 0 else 2)))] ∧ out = [.row 10 ((codeOf k set).map Instr.c)]
set_option maxHeartbeats 4000000 in
theorem ok26 : VSound Try.prog (26, R26) := by
  refine vsound (T := ty) (F := [(57, R57), (67, R67)]) (pl := []) (nw := true) (cuts := []) mix tyOk (.cons (ok57) (.cons (ok67) .nil)) Try.func26 (by kernel_rfl) (by kernel_rfl) ?_
  rintro _ _ _ _ ⟨⟨ext, sets⟩, set, rfl, rfl, hm, rfl, rfl⟩
  conv => whnf
  (refine ⟨[], false, false, ?_⟩; (conv => whnf); refine ⟨_, _, ⟨⟨ext, sets⟩, rfl, rfl, by omega, rfl, rfl⟩, ?_⟩; (conv => whnf))
  rw [show (formed ⟨ext, sets⟩ && decide (1 ≤ sets.length ∧ sets.length ≤ 8)) = isKern ⟨ext, sets⟩ from rfl]
  (repeat (refine And.intro ?_ ?_; ((first | (with_reducible assumption) | (intro _; with_reducible assumption) | omega | (simp only [reduceCtorEq, ints_len, bools_len, Bool.not_false, Bool.not_true, List.length_map, decide_eq_true_eq, decide_eq_false_iff_not, Bool.not_eq_true', Bool.not_eq_false', Bool.and_eq_true, Bool.or_eq_true, Bool.and_eq_false_iff, Bool.or_eq_false_iff, beq_iff_eq, bne_iff_ne, beq_eq_false_iff_ne, bne_eq_false_iff_eq, Int.not_lt, Int.not_le, ge_iff_le, gt_iff_lt, not_or, not_and, Bool.cond_true_right, Bool.cond_true_left, Bool.cond_false_right, Bool.cond_false_left, bif_t, bif_f] at *; omega) | (intro hg; (try simp only [reduceCtorEq, ints_len, bools_len, Bool.not_false, Bool.not_true, List.length_map, decide_eq_true_eq, decide_eq_false_iff_not, Bool.not_eq_true', Bool.not_eq_false', Bool.and_eq_true, Bool.or_eq_true, Bool.and_eq_false_iff, Bool.or_eq_false_iff, beq_iff_eq, bne_iff_ne, beq_eq_false_iff_ne, bne_eq_false_iff_eq, Int.not_lt, Int.not_le, ge_iff_le, gt_iff_lt, not_or, not_and, Bool.cond_true_right, Bool.cond_true_left, Bool.cond_false_right, Bool.cond_false_left, bif_t, bif_f] at hg); first | (with_reducible assumption) | omega | (simp only [reduceCtorEq, ints_len, bools_len, Bool.not_false, Bool.not_true, List.length_map, decide_eq_true_eq, decide_eq_false_iff_not, Bool.not_eq_true', Bool.not_eq_false', Bool.and_eq_true, Bool.or_eq_true, Bool.and_eq_false_iff, Bool.or_eq_false_iff, beq_iff_eq, bne_iff_ne, beq_eq_false_iff_ne, bne_eq_false_iff_eq, Int.not_lt, Int.not_le, ge_iff_le, gt_iff_lt, not_or, not_and, Bool.cond_true_right, Bool.cond_true_left, Bool.cond_false_right, Bool.cond_false_left, bif_t, bif_f] at *; omega) | (refine ⟨?_, ?_⟩ <;> omega)) | (refine ⟨?_, ?_⟩ <;> omega) | (simp [*]; done) | grind)); (conv => whnf)))
  refine ⟨fun e => ?_, fun e => ?_⟩
  · try simp only [reduceCtorEq, ints_len, bools_len, Bool.not_false, Bool.not_true, List.length_map, decide_eq_true_eq, decide_eq_false_iff_not, Bool.not_eq_true', Bool.not_eq_false', Bool.and_eq_true, Bool.or_eq_true, Bool.and_eq_false_iff, Bool.or_eq_false_iff, beq_iff_eq, bne_iff_ne, beq_eq_false_iff_ne, bne_eq_false_iff_eq, Int.not_lt, Int.not_le, ge_iff_le, gt_iff_lt, not_or, not_and, Bool.cond_true_right, Bool.cond_true_left, Bool.cond_false_right, Bool.cond_false_left, bif_t, bif_f] at e
    have e1 := e
    have ho : codeOk ⟨ext, sets⟩ set = false := Bool.eq_false_iff.2 fun h => by
      obtain ⟨h1, h2, h3⟩ := codeOk_iff.1 h
      simp only at h3
      grind
    conv => whnf
    refine ⟨[.slot 4 true], ?_⟩
    conv => whnf
    refine ⟨[1], by simp, .cons ⟨_, rfl, rfl, ?_⟩ .nil, .cons rfl (.cons ?_ .nil)⟩
    · rw [codeOf_no ho]; rfl
    · rw [ho]; rfl
  · try simp only [reduceCtorEq, ints_len, bools_len, Bool.not_false, Bool.not_true, List.length_map, decide_eq_true_eq, decide_eq_false_iff_not, Bool.not_eq_true', Bool.not_eq_false', Bool.and_eq_true, Bool.or_eq_true, Bool.and_eq_false_iff, Bool.or_eq_false_iff, beq_iff_eq, bne_iff_ne, beq_eq_false_iff_ne, bne_eq_false_iff_eq, Int.not_lt, Int.not_le, ge_iff_le, gt_iff_lt, not_or, not_and, Bool.cond_true_right, Bool.cond_true_left, Bool.cond_false_right, Bool.cond_false_left, bif_t, bif_f] at e
    have e1 := e
    have ho : codeOk ⟨ext, sets⟩ set = true := codeOk_iff.2 (by simp only; grind)
    obtain ⟨h1, h2, h3⟩ := codeOk_iff.1 ho
    obtain ⟨i, rfl⟩ := Int.eq_ofNat_of_zero_le h2
    obtain ⟨x, hget⟩ := get_lt (l := sets) (i := i) (by simp only at h3; omega)
    have hb := setsBulk_get hget
    simp only [Kern.bulk] at hm
    have hc := codeOf_at (k := ⟨ext, sets⟩) ho hget
    rw [hc, ho]
    conv => whnf
    (refine ⟨_, And.intro ⟨by omega, enc_get hget⟩ ?_⟩; (conv => whnf))
    obtain ⟨⟨xa, xb, xs⟩, mask, ⟨op, kind, n, ref, kids⟩⟩ := x
    conv => whnf
    (refine ⟨[], false, false, ?_⟩; (conv => whnf); refine ⟨_, _, ⟨⟨⟨xa, xb, xs⟩, mask, ⟨op, kind, n, ref, kids⟩⟩, rfl, rfl, by omega, rfl, rfl⟩, ?_⟩; (conv => whnf))
    refine ⟨[], ?_⟩
    conv => whnf
    exact ⟨[1], by simp, .cons ⟨_, rfl, rfl, rfl⟩ .nil, .cons rfl (.cons rfl .nil)⟩
def R27 : Ct := fun ss hp r out => ∃ (k : Kern) (set : Int), ss = [.v (.ag (k.c.map .d)), .di .i64 set] ∧ hp = [] ∧ k.bulk ≤ 2097152 ∧ r = .tup [.c (.own 0), .c (.d (.int .i64 (if codeOk k set then 0 else 2)))] ∧ out = [.row 10 ((codeOf k set).map Instr.c)]
set_option maxHeartbeats 4000000 in
theorem ok27 : VSound Try.prog (27, R27) := by
  refine vsound (T := ty) (F := [(61, R61), (68, R68 4194305)]) (pl := [(11, [[], [], [1], [1, 2], [1, 2, 3], [], [], [6], [5, 6, 7], [5, 6, 7, 8], [1, 2, 3, 4, 5, 6, 7, 8, 9], [0, 1, 2, 3, 4, 5, 6, 7, 8, 9, 10], [0, 1, 2, 3, 4, 5, 6, 7, 8, 9, 10, 11], [0, 1, 2, 3, 4, 5, 6, 7, 8, 9, 10, 11, 12]], .look 0 (.look 1 (.look 2 (.look 3 (.look 4 (.look 5 (.look 6 (.look 7 (.look 8 (.act 9 [0, 1, 2, 3, 4] (.act 10 [0] (.look 11 (.look 12 (.act 13 [] .done .stop))) .stop) .stop))))))))))]) (nw := true) (cuts := []) mix tyOk (.cons (ok61) (.cons (ok68 4194305) .nil)) Try.func27 (by kernel_rfl) (by kernel_rfl) ?_
  rintro _ _ _ _ ⟨⟨ext, sets⟩, set, rfl, rfl, hm, rfl, rfl⟩
  conv => whnf
  (refine ⟨[], false, false, ?_⟩; (conv => whnf); refine ⟨_, _, ⟨⟨ext, sets⟩, rfl, rfl, by omega, rfl, rfl⟩, ?_⟩; (conv => whnf))
  (repeat (refine And.intro ?_ ?_; ((first | (with_reducible assumption) | (intro _; with_reducible assumption) | omega | (simp only [reduceCtorEq, ints_len, bools_len, Bool.not_false, Bool.not_true, List.length_map, decide_eq_true_eq, decide_eq_false_iff_not, Bool.not_eq_true', Bool.not_eq_false', Bool.and_eq_true, Bool.or_eq_true, Bool.and_eq_false_iff, Bool.or_eq_false_iff, beq_iff_eq, bne_iff_ne, beq_eq_false_iff_ne, bne_eq_false_iff_eq, Int.not_lt, Int.not_le, ge_iff_le, gt_iff_lt, not_or, not_and, Bool.cond_true_right, Bool.cond_true_left, Bool.cond_false_right, Bool.cond_false_left, bif_t, bif_f] at *; omega) | (intro hg; (try simp only [reduceCtorEq, ints_len, bools_len, Bool.not_false, Bool.not_true, List.length_map, decide_eq_true_eq, decide_eq_false_iff_not, Bool.not_eq_true', Bool.not_eq_false', Bool.and_eq_true, Bool.or_eq_true, Bool.and_eq_false_iff, Bool.or_eq_false_iff, beq_iff_eq, bne_iff_ne, beq_eq_false_iff_ne, bne_eq_false_iff_eq, Int.not_lt, Int.not_le, ge_iff_le, gt_iff_lt, not_or, not_and, Bool.cond_true_right, Bool.cond_true_left, Bool.cond_false_right, Bool.cond_false_left, bif_t, bif_f] at hg); first | (with_reducible assumption) | omega | (simp only [reduceCtorEq, ints_len, bools_len, Bool.not_false, Bool.not_true, List.length_map, decide_eq_true_eq, decide_eq_false_iff_not, Bool.not_eq_true', Bool.not_eq_false', Bool.and_eq_true, Bool.or_eq_true, Bool.and_eq_false_iff, Bool.or_eq_false_iff, beq_iff_eq, bne_iff_ne, beq_eq_false_iff_ne, bne_eq_false_iff_eq, Int.not_lt, Int.not_le, ge_iff_le, gt_iff_lt, not_or, not_and, Bool.cond_true_right, Bool.cond_true_left, Bool.cond_false_right, Bool.cond_false_left, bif_t, bif_f] at *; omega) | (refine ⟨?_, ?_⟩ <;> omega)) | (refine ⟨?_, ?_⟩ <;> omega) | (simp [*]; done) | grind)); (conv => whnf)))
  refine ⟨fun e => ?_, fun e => ?_⟩
  · try simp only [reduceCtorEq, ints_len, bools_len, Bool.not_false, Bool.not_true, List.length_map, decide_eq_true_eq, decide_eq_false_iff_not, Bool.not_eq_true', Bool.not_eq_false', Bool.and_eq_true, Bool.or_eq_true, Bool.and_eq_false_iff, Bool.or_eq_false_iff, beq_iff_eq, bne_iff_ne, beq_eq_false_iff_ne, bne_eq_false_iff_eq, Int.not_lt, Int.not_le, ge_iff_le, gt_iff_lt, not_or, not_and, Bool.cond_true_right, Bool.cond_true_left, Bool.cond_false_right, Bool.cond_false_left, bif_t, bif_f] at e
    have e1 := e
    have ho : codeOk ⟨ext, sets⟩ set = false := Bool.eq_false_iff.2 fun h => by
      obtain ⟨h1, h2, h3⟩ := codeOk_iff.1 h
      simp only at h3
      grind
    conv => whnf
    refine ⟨[.slot 4 true], ?_⟩
    conv => whnf
    refine ⟨[1], by simp, .cons ⟨_, rfl, rfl, ?_⟩ .nil, .cons rfl (.cons ?_ .nil)⟩
    · rw [codeOf_no ho]; rfl
    · rw [ho]; rfl
  · try simp only [reduceCtorEq, ints_len, bools_len, Bool.not_false, Bool.not_true, List.length_map, decide_eq_true_eq, decide_eq_false_iff_not, Bool.not_eq_true', Bool.not_eq_false', Bool.and_eq_true, Bool.or_eq_true, Bool.and_eq_false_iff, Bool.or_eq_false_iff, beq_iff_eq, bne_iff_ne, beq_eq_false_iff_ne, bne_eq_false_iff_eq, Int.not_lt, Int.not_le, ge_iff_le, gt_iff_lt, not_or, not_and, Bool.cond_true_right, Bool.cond_true_left, Bool.cond_false_right, Bool.cond_false_left, bif_t, bif_f] at e
    have e1 := e
    have ho : codeOk ⟨ext, sets⟩ set = true := codeOk_iff.2 (by simp only; grind)
    obtain ⟨h1, h2, h3⟩ := codeOk_iff.1 ho
    obtain ⟨i0, rfl⟩ := Int.eq_ofNat_of_zero_le h2
    obtain ⟨x, hget⟩ := get_lt (l := sets) (i := i0) (by simp only at h3; omega)
    have hb := setsBulk_get hget
    simp only [Kern.bulk] at hm
    have hc := codeOf_at (k := ⟨ext, sets⟩) ho hget
    rw [hc, ho]
    conv => whnf
    (refine ⟨_, And.intro ⟨by omega, enc_get hget⟩ ?_⟩; (conv => whnf))
    obtain ⟨⟨xa, xb, xs⟩, mask, ⟨op, kind, n, ref, kids⟩⟩ := x
    simp only [ASet.bulk] at hb
    have hkl := treesBulk_len mask
    have hnn := treesNodes_le mask
    clear e e1
    conv => whnf
    refine ⟨[.cell 1 0], [6, 7, 8], 4, fun n1 σ => ∃ i : Nat, i ≤ mask.length ∧ n1 = mask.length - i ∧ σ = (⟨[.junk, .junk, .junk, .junk, .junk, .junk, .one (.ptr 1 0), .one (.ptr 2 0), .di .i64 i, .junk, .junk, .junk, .junk, .junk, .junk, .junk, .junk, .junk, .junk, .junk, .junk, .junk, .junk, .junk, .junk, .junk, .junk, .junk, .junk, .junk, .junk, .junk, .junk, .junk, .junk, .junk, .junk, .junk, .junk, .junk, .junk, .junk, .junk, .junk, .junk, .junk, .junk, .junk, .junk, .junk, .junk, .junk, .junk, .junk, .junk, .junk, .junk, .junk, .junk, .junk, .junk, .junk, .junk, .junk, .junk, .junk, .junk, .junk, .junk, .junk, .junk, .junk, .junk, .junk, .junk, .junk, .junk, .junk], [.box (List.map .d (Kern.mk ext sets).c), .box [.own 3, .d (.int .i64 (treesNodes (mask.take i) : Nat))], .box (List.map .d (ASet.mk ⟨xa, xb, xs⟩ mask ⟨op, kind, n, ref, kids⟩).c), .row 10 ((maskCode mask i).map Instr.c)]⟩ : St), ?_, ?_⟩
    · refine ⟨mask.length, ?_⟩
      conv => whnf
      exact ⟨0, by omega, by omega, rfl⟩
    · rintro n1 _ ⟨i, hi, rfl, rfl⟩
      have hcl := maskCode_len (l := mask) i hi
      have hnm := treesNodes_mono mask i
      conv => whnf
      ((with_reducible refine And.intro (fun (e : (_ : Bool) = true) => ?_) (fun (e : (_ : Bool) = false) => ?_)) <;> (try simp only [reduceCtorEq, ints_len, bools_len, Bool.not_false, Bool.not_true, List.length_map, decide_eq_true_eq, decide_eq_false_iff_not, Bool.not_eq_true', Bool.not_eq_false', Bool.and_eq_true, Bool.or_eq_true, Bool.and_eq_false_iff, Bool.or_eq_false_iff, beq_iff_eq, bne_iff_ne, beq_eq_false_iff_ne, bne_eq_false_iff_eq, Int.not_lt, Int.not_le, ge_iff_le, gt_iff_lt, not_or, not_and, Bool.cond_true_right, Bool.cond_true_left, Bool.cond_false_right, Bool.cond_false_left, bif_t, bif_f] at e) <;> (conv => whnf))
      · have hlt : i < mask.length := by omega
        obtain ⟨x, hget⟩ := get_lt hlt
        have hb := treesBulk_get hget
        have hn1 := treesNodes_take hget
        have hw1 := treesBulk_take1 hget
        have hw2 := treesBulk_take mask (i + 1)
        have hw3 := treesNodes_le (mask.take i)
        have hcode : maskCode mask (i + 1) = maskCode mask i ++ x.code (treesNodes (mask.take i)) ++ [maskI (treesNodes (mask.take (i + 1)))] := by rw [maskCode, hget]
        have hxl := x.code_len (treesNodes (mask.take i))
        have hxn := x.nodes_le
        (refine ⟨_, And.intro ⟨by omega, enc_get hget⟩ ?_⟩; (conv => whnf))
        obtain ⟨xop, xkind, xn, xref, xkids⟩ := x
        conv => whnf
        refine ⟨[1, 3], false, false, ?_⟩
        conv => whnf
        intro u0 u1
        conv => whnf
        refine ⟨_, _, ⟨.mk xop xkind xn xref xkids, (treesNodes (mask.take i) : Nat), maskCode mask i, u0, u1, rfl, rfl, by omega, by omega, by omega, by omega, by omega, rfl, rfl⟩, ?_⟩
        conv => whnf
        refine ⟨rfl, ?_⟩
        conv => whnf
        refine ⟨rfl, ?_⟩
        conv => whnf
        have e1 : ((treesNodes (mask.take i) : Nat) : Int) + ((Tree.mk xop xkind xn xref xkids).nodes : Int) = ((treesNodes (mask.take (i + 1)) : Nat) : Int) := by rw [hn1]; omega
        rw [e1]
        refine ⟨by rw [map_len, List.length_append]; simp only [List.length_cons, List.length_nil]; omega, ?_⟩
        conv => whnf
        (refine And.intro ?_ ?_; ((first | (with_reducible assumption) | (intro _; with_reducible assumption) | omega | (simp only [reduceCtorEq, ints_len, bools_len, Bool.not_false, Bool.not_true, List.length_map, decide_eq_true_eq, decide_eq_false_iff_not, Bool.not_eq_true', Bool.not_eq_false', Bool.and_eq_true, Bool.or_eq_true, Bool.and_eq_false_iff, Bool.or_eq_false_iff, beq_iff_eq, bne_iff_ne, beq_eq_false_iff_ne, bne_eq_false_iff_eq, Int.not_lt, Int.not_le, ge_iff_le, gt_iff_lt, not_or, not_and, Bool.cond_true_right, Bool.cond_true_left, Bool.cond_false_right, Bool.cond_false_left, bif_t, bif_f] at *; omega) | (intro hg; (try simp only [reduceCtorEq, ints_len, bools_len, Bool.not_false, Bool.not_true, List.length_map, decide_eq_true_eq, decide_eq_false_iff_not, Bool.not_eq_true', Bool.not_eq_false', Bool.and_eq_true, Bool.or_eq_true, Bool.and_eq_false_iff, Bool.or_eq_false_iff, beq_iff_eq, bne_iff_ne, beq_eq_false_iff_ne, bne_eq_false_iff_eq, Int.not_lt, Int.not_le, ge_iff_le, gt_iff_lt, not_or, not_and, Bool.cond_true_right, Bool.cond_true_left, Bool.cond_false_right, Bool.cond_false_left, bif_t, bif_f] at hg); first | (with_reducible assumption) | omega | (simp only [reduceCtorEq, ints_len, bools_len, Bool.not_false, Bool.not_true, List.length_map, decide_eq_true_eq, decide_eq_false_iff_not, Bool.not_eq_true', Bool.not_eq_false', Bool.and_eq_true, Bool.or_eq_true, Bool.and_eq_false_iff, Bool.or_eq_false_iff, beq_iff_eq, bne_iff_ne, beq_eq_false_iff_ne, bne_eq_false_iff_eq, Int.not_lt, Int.not_le, ge_iff_le, gt_iff_lt, not_or, not_and, Bool.cond_true_right, Bool.cond_true_left, Bool.cond_false_right, Bool.cond_false_left, bif_t, bif_f] at *; omega) | (refine ⟨?_, ?_⟩ <;> omega)) | (refine ⟨?_, ?_⟩ <;> omega) | (simp [*]; done) | grind)); (conv => whnf))
        refine ⟨mask.length - (i + 1), by omega, [], ?_⟩
        conv => whnf
        refine ⟨i + 1, by omega, rfl, ?_⟩
        rw [hcode, List.map_append (l₂ := [_])]; rfl
      · have hi' : i = mask.length := by omega
        subst hi'
        rw [List.take_length] at hcl ⊢
        have hvl := (Tree.mk op kind n ref kids).code_len (treesNodes mask)
        have hvn := (Tree.mk op kind n ref kids).nodes_le
        refine ⟨[1, 3], false, false, ?_⟩
        conv => whnf
        intro u0 u1
        conv => whnf
        refine ⟨_, _, ⟨.mk op kind n ref kids, (treesNodes mask : Nat), maskCode mask mask.length, u0, u1, rfl, rfl, by omega, by omega, by omega, by omega, by omega, rfl, rfl⟩, ?_⟩
        conv => whnf
        refine ⟨rfl, ?_⟩
        conv => whnf
        refine ⟨rfl, ?_⟩
        conv => whnf
        refine ⟨by rw [map_len, List.length_append]; simp only [List.length_cons, List.length_nil]; omega, ?_⟩
        conv => whnf
        refine ⟨[], ?_⟩
        conv => whnf
        refine ⟨[3], by simp, .cons ⟨_, rfl, rfl, ?_⟩ .nil, .cons rfl (.cons rfl .nil)⟩
        rw [setCode, List.map_append (l₂ := [_])]; rfl
end Go.Proofs.Ytahdihhhankhdaa.V

