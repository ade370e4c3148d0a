/-
  V: which lanes are right. By the session's own hand.
-/
import Derived.Test.YtahdihhhankhdaaVm
set_option linter.unusedVariables false
set_option linter.unusedSimpArgs false
set_option maxRecDepth 100000
set_option linter.all false
set_option linter.unnecessarySimpa false
set_option linter.deprecated false
namespace Go.Proofs.Ytahdihhhankhdaa.V
open Go.Proofs.YtahdihhhankhdaaVY Go.RowKit
def R57 : Ct := fun ss hp r out => ∃ k : Kern, ss = [.v (.ag (k.c.map .d))] ∧ hp = [] ∧ k.bulk ≤ 4194304 ∧ r = .db (formed k && decide (1 ≤ k.sets.length ∧ k.sets.length ≤ 8)) ∧ out = []
set_option maxHeartbeats 4000000 in
theorem ok57 : VSound Try.prog (57, R57) := by
  refine vsound (T := ty) (F := [(94, R94)]) (pl := []) (nw := true) (cuts := []) mix tyOk (.cons (ok94) .nil) Try.func57 (by kernel_rfl) (by kernel_rfl) ?_
  rintro _ _ _ _ ⟨⟨ext, sets⟩, rfl, rfl, hm, rfl, rfl⟩
  conv => whnf
  refine ⟨[], false, false, ?_⟩
  conv => whnf
  refine ⟨_, _, ⟨⟨ext, sets⟩, rfl, rfl, hm, rfl, rfl⟩, ?_⟩
  conv => whnf
  (repeat' (first | ((with_reducible refine And.intro (fun (e : (_ : Bool) = true) => ?_) (fun (e : (_ : Bool) = false) => ?_)) <;> (try simp only [reduceCtorEq, ints_len, bools_len, Bool.not_false, Bool.not_true, List.length_map, decide_eq_true_eq, decide_eq_false_iff_not, Bool.not_eq_true', Bool.not_eq_false', Bool.and_eq_true, Bool.or_eq_true, Bool.and_eq_false_iff, Bool.or_eq_false_iff, beq_iff_eq, bne_iff_ne, beq_eq_false_iff_ne, bne_eq_false_iff_eq, Int.not_lt, Int.not_le, ge_iff_le, gt_iff_lt, not_or, not_and, Bool.cond_true_right, Bool.cond_true_left, Bool.cond_false_right, Bool.cond_false_left, bif_t, bif_f] at e) <;> (conv => whnf)) | (refine And.intro ?_ ?_; ((first | (with_reducible assumption) | (intro _; with_reducible assumption) | omega | (simp only [reduceCtorEq, ints_len, bools_len, Bool.not_false, Bool.not_true, List.length_map, decide_eq_true_eq, decide_eq_false_iff_not, Bool.not_eq_true', Bool.not_eq_false', Bool.and_eq_true, Bool.or_eq_true, Bool.and_eq_false_iff, Bool.or_eq_false_iff, beq_iff_eq, bne_iff_ne, beq_eq_false_iff_ne, bne_eq_false_iff_eq, Int.not_lt, Int.not_le, ge_iff_le, gt_iff_lt, not_or, not_and, Bool.cond_true_right, Bool.cond_true_left, Bool.cond_false_right, Bool.cond_false_left, bif_t, bif_f] at *; omega) | (intro hg; (try simp only [reduceCtorEq, ints_len, bools_len, Bool.not_false, Bool.not_true, List.length_map, decide_eq_true_eq, decide_eq_false_iff_not, Bool.not_eq_true', Bool.not_eq_false', Bool.and_eq_true, Bool.or_eq_true, Bool.and_eq_false_iff, Bool.or_eq_false_iff, beq_iff_eq, bne_iff_ne, beq_eq_false_iff_ne, bne_eq_false_iff_eq, Int.not_lt, Int.not_le, ge_iff_le, gt_iff_lt, not_or, not_and, Bool.cond_true_right, Bool.cond_true_left, Bool.cond_false_right, Bool.cond_false_left, bif_t, bif_f] at hg); first | (with_reducible assumption) | omega | (simp only [reduceCtorEq, ints_len, bools_len, Bool.not_false, Bool.not_true, List.length_map, decide_eq_true_eq, decide_eq_false_iff_not, Bool.not_eq_true', Bool.not_eq_false', Bool.and_eq_true, Bool.or_eq_true, Bool.and_eq_false_iff, Bool.or_eq_false_iff, beq_iff_eq, bne_iff_ne, beq_eq_false_iff_ne, bne_eq_false_iff_eq, Int.not_lt, Int.not_le, ge_iff_le, gt_iff_lt, not_or, not_and, Bool.cond_true_right, Bool.cond_true_left, Bool.cond_false_right, Bool.cond_false_left, bif_t, bif_f] at *; omega) | (refine ⟨?_, ?_⟩ <;> omega)) | (refine ⟨?_, ?_⟩ <;> omega) | (simp [*]; done) | grind)); (conv => whnf))))
  (refine ⟨[], ?_⟩; (conv => whnf); refine ⟨[], .nil, .nil, ?_⟩; (conv => whnf))
  congr 1
  simp only [reduceCtorEq, ints_len, bools_len, Bool.not_false, Bool.not_true, List.length_map, decide_eq_true_eq, decide_eq_false_iff_not, Bool.not_eq_true', Bool.not_eq_false', Bool.and_eq_true, Bool.or_eq_true, Bool.and_eq_false_iff, Bool.or_eq_false_iff, beq_iff_eq, bne_iff_ne, beq_eq_false_iff_ne, bne_eq_false_iff_eq, Int.not_lt, Int.not_le, ge_iff_le, gt_iff_lt, not_or, not_and, Bool.cond_true_right, Bool.cond_true_left, Bool.cond_false_right, Bool.cond_false_left, bif_t, bif_f]
  cases formed ⟨ext, sets⟩ <;> simp <;> (by_cases h1 : 1 ≤ sets.length <;> by_cases h2 : sets.length ≤ 8 <;> simp [h1, h2] <;> omega)
def R98 : Ct := fun ss hp r out => ∃ (k : Kern) (lanes : Int) (s : Nat) (t : Int) (x : Ref) (S0 : ASet), ss = [.v (.ag (x.c.map .d)), .one (.pel k.c), .one (.pel (inC lanes)), .one (.pel (inC s)), .one (.pel (inC t))] ∧ hp = [] ∧ k.ext.length < 4611686018427387904 ∧ S0.to.str.length < 4611686018427387904 ∧ x.str.length < 4611686018427387904 ∧ 1 ≤ lanes ∧ k.sets[s]? = some S0 ∧ r = .db (wrong k lanes s t S0.to x true) ∧ out = []
set_option maxHeartbeats 4000000 in
theorem ok98 : VSound Try.prog (98, R98) := by
  refine vsound (T := ty) (F := [(95, R95)]) (pl := [(1, [[], [], [], [], [], [4], [], [4, 5, 6], [4, 5, 6, 7], [4, 5, 6, 7, 8], [], [0, 1, 2, 3, 4, 5, 6, 7, 8, 9, 10], [0, 1, 2, 3, 4, 5, 6, 7, 8, 9, 10, 11]], .look 0 (.look 1 (.look 2 (.look 3 (.look 4 (.look 5 (.look 6 (.look 7 (.look 8 (.look 9 (.look 10 (.act 11 [] (.look 12 .done) .stop))))))))))))]) (nw := true) (cuts := []) mix tyOk (.cons (ok95) .nil) Try.func98 (by kernel_rfl) (by kernel_rfl) ?_
  rintro _ _ _ _ ⟨⟨ext, sets⟩, lanes, s, t, ⟨xa, xb, xs⟩, ⟨⟨sa, sb, ss⟩, mask, ⟨op, kind, n, ref, kids⟩⟩, rfl, rfl, hl, hs, hx, hln, hget, rfl, rfl⟩
  conv => whnf
  refine ⟨_, And.intro ⟨?_, enc_get hget⟩ ?_⟩
  · omega
  conv => whnf
  refine ⟨[], false, false, ?_⟩
  conv => whnf
  refine ⟨_, _, ⟨⟨ext, sets⟩, lanes, s, t, ⟨sa, sb, ss⟩, ⟨xa, xb, xs⟩, true, rfl, rfl, hl, hs, hx, hln, rfl, rfl⟩, ?_⟩
  conv => whnf
  (refine ⟨[], ?_⟩; (conv => whnf); refine ⟨[], .nil, .nil, ?_⟩; (conv => whnf))
end Go.Proofs.Ytahdihhhankhdaa.V

