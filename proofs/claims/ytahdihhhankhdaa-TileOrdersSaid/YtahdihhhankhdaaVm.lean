/-
  V: pairs within a group; what is wrong. By the session's own hand.
-/
import Derived.Test.YtahdihhhankhdaaVl
set_option linter.unusedVariables false
set_option linter.unusedSimpArgs false
set_option maxRecDepth 100000
set_option linter.all false
set_option linter.unnecessarySimpa false
set_option linter.deprecated false
namespace Go.Proofs.Ytahdihhhankhdaa.V
open Go.Proofs.YtahdihhhankhdaaVY Go.RowKit
/-- a pair that a group of so many lanes does not hold -/
def apart (lanes : Int) (q : Int × Int) : Bool := decide (q.1 = q.2 ∨ q.1.tdiv lanes ≠ q.2.tdiv lanes)
theorem tdiv_bd {a b : Int} (h0 : 0 ≤ a) (h1 : a ≤ 400) (hb : 1 ≤ b) : -9223372036854775808 ≤ a.tdiv b ∧ a.tdiv b ≤ 9223372036854775807 := by
  rw [Int.tdiv_eq_ediv_of_nonneg h0]
  have h2 : 0 ≤ a / b := Int.ediv_nonneg h0 (by omega)
  have h3 : a / b ≤ a := Int.ediv_le_self _ h0
  omega
def R145 : Ct := fun ss hp r out => ∃ qa qb lanes : Int, ss = [.v (.ag [.d (.int .i64 qa), .d (.int .i64 qb)]), .one (.pel (inC lanes))] ∧ hp = [] ∧ 1 ≤ lanes ∧ (0 ≤ qa ∧ qa ≤ 400) ∧ (0 ≤ qb ∧ qb ≤ 400) ∧ r = .db (apart lanes (qa, qb)) ∧ out = []
set_option maxHeartbeats 4000000 in
theorem ok145 : VSound Try.prog (145, R145) := by
  refine vsound (T := ty) (F := []) (pl := [(1, [[], [0], [], [2], [0, 1, 2, 3], [0, 1, 2, 3, 4], [0, 1, 2, 3, 4, 5], [0, 1, 2, 3, 4, 5, 6], [0, 1, 2, 3, 4, 5], [0, 1, 2, 3, 4, 5, 6, 7, 8], [0, 1, 2, 3, 4, 5], [0, 1, 2, 3, 4, 5, 10], [0, 1, 2, 3, 4, 5], [0, 1, 2, 3, 4, 5, 10, 11, 12], [0, 1, 2, 3, 4, 5, 6, 7, 8, 9, 10, 11, 12, 13], [0, 1, 2, 3, 4, 5, 6, 7, 8, 9, 10, 11, 12, 13, 14], [0, 1, 2, 3, 4, 5, 6, 7, 8, 9, 10, 11, 12, 13, 14, 15]], .look 0 (.look 1 (.look 2 (.look 3 (.look 4 (.look 5 (.look 6 (.look 7 (.look 8 (.look 9 (.look 10 (.look 11 (.look 12 (.look 13 (.look 14 (.look 15 (.look 16 .done)))))))))))))))))]) (nw := true) (cuts := []) mix tyOk .nil Try.func145 (by kernel_rfl) (by kernel_rfl) ?_
  rintro _ _ _ _ ⟨qa, qb, lanes, rfl, rfl, hl, ha, hb, rfl, rfl⟩
  have d1 := tdiv_bd ha.1 ha.2 hl
  have d2 := tdiv_bd hb.1 hb.2 hl
  conv => whnf
  (repeat' (first | ((with_reducible refine And.intro (fun (e : (_ : Bool) = true) => ?_) (fun (e : (_ : Bool) = false) => ?_)) <;> (try simp only [reduceCtorEq, ints_len, bools_len, Bool.not_false, Bool.not_true, List.length_map, decide_eq_true_eq, decide_eq_false_iff_not, Bool.not_eq_true', Bool.not_eq_false', Bool.and_eq_true, Bool.or_eq_true, Bool.and_eq_false_iff, Bool.or_eq_false_iff, beq_iff_eq, bne_iff_ne, beq_eq_false_iff_ne, bne_eq_false_iff_eq, Int.not_lt, Int.not_le, ge_iff_le, gt_iff_lt, not_or, not_and, Bool.cond_true_right, Bool.cond_true_left, Bool.cond_false_right, Bool.cond_false_left, bif_t, bif_f] at e) <;> (conv => whnf)) | (refine And.intro ?_ ?_; ((first | (with_reducible assumption) | (intro _; with_reducible assumption) | omega | (simp only [reduceCtorEq, ints_len, bools_len, Bool.not_false, Bool.not_true, List.length_map, decide_eq_true_eq, decide_eq_false_iff_not, Bool.not_eq_true', Bool.not_eq_false', Bool.and_eq_true, Bool.or_eq_true, Bool.and_eq_false_iff, Bool.or_eq_false_iff, beq_iff_eq, bne_iff_ne, beq_eq_false_iff_ne, bne_eq_false_iff_eq, Int.not_lt, Int.not_le, ge_iff_le, gt_iff_lt, not_or, not_and, Bool.cond_true_right, Bool.cond_true_left, Bool.cond_false_right, Bool.cond_false_left, bif_t, bif_f] at *; omega) | (intro hg; (try simp only [reduceCtorEq, ints_len, bools_len, Bool.not_false, Bool.not_true, List.length_map, decide_eq_true_eq, decide_eq_false_iff_not, Bool.not_eq_true', Bool.not_eq_false', Bool.and_eq_true, Bool.or_eq_true, Bool.and_eq_false_iff, Bool.or_eq_false_iff, beq_iff_eq, bne_iff_ne, beq_eq_false_iff_ne, bne_eq_false_iff_eq, Int.not_lt, Int.not_le, ge_iff_le, gt_iff_lt, not_or, not_and, Bool.cond_true_right, Bool.cond_true_left, Bool.cond_false_right, Bool.cond_false_left, bif_t, bif_f] at hg); first | (with_reducible assumption) | omega | (simp only [reduceCtorEq, ints_len, bools_len, Bool.not_false, Bool.not_true, List.length_map, decide_eq_true_eq, decide_eq_false_iff_not, Bool.not_eq_true', Bool.not_eq_false', Bool.and_eq_true, Bool.or_eq_true, Bool.and_eq_false_iff, Bool.or_eq_false_iff, beq_iff_eq, bne_iff_ne, beq_eq_false_iff_ne, bne_eq_false_iff_eq, Int.not_lt, Int.not_le, ge_iff_le, gt_iff_lt, not_or, not_and, Bool.cond_true_right, Bool.cond_true_left, Bool.cond_false_right, Bool.cond_false_left, bif_t, bif_f] at *; omega) | (refine ⟨?_, ?_⟩ <;> omega)) | (refine ⟨?_, ?_⟩ <;> omega) | (simp [*]; done) | grind)); (conv => whnf))))
  (refine ⟨[], ?_⟩; (conv => whnf); refine ⟨[], .nil, .nil, ?_⟩; (conv => whnf))
  congr 1
  unfold apart
  simp only [reduceCtorEq, ints_len, bools_len, Bool.not_false, Bool.not_true, List.length_map, decide_eq_true_eq, decide_eq_false_iff_not, Bool.not_eq_true', Bool.not_eq_false', Bool.and_eq_true, Bool.or_eq_true, Bool.and_eq_false_iff, Bool.or_eq_false_iff, beq_iff_eq, bne_iff_ne, beq_eq_false_iff_ne, bne_eq_false_iff_eq, Int.not_lt, Int.not_le, ge_iff_le, gt_iff_lt, not_or, not_and, Bool.cond_true_right, Bool.cond_true_left, Bool.cond_false_right, Bool.cond_false_left, bif_t, bif_f]
  by_cases h : qa = qb <;> by_cases h2 : qa.tdiv lanes = qb.tdiv lanes <;> simp [h, h2]
def wrongs (s t : Int) (load : Bool) (q : Int × Int) : Bool := if s ≠ t then (decide (q.1 < q.2) != decide (s < t)) else if load then decide (q.1 < q.2) else false
def R125 : Ct := fun ss hp r out => ∃ (qa qb s t : Int) (load : Bool), ss = [.v (.ag [.d (.int .i64 qa), .d (.int .i64 qb)]), .one (.pel (inC s)), .one (.pel (inC t)), .one (.pel (boC load))] ∧ hp = [] ∧ r = .db (wrongs s t load (qa, qb)) ∧ out = []
set_option maxHeartbeats 4000000 in
theorem ok125 : VSound Try.prog (125, R125) := by
  refine vsound (T := ty) (F := []) (pl := []) (nw := true) (cuts := []) mix tyOk .nil Try.func125 (by kernel_rfl) (by kernel_rfl) ?_
  rintro _ _ _ _ ⟨qa, qb, s, t, load, rfl, rfl, rfl, rfl⟩
  conv => whnf
  (repeat' (first | ((with_reducible refine And.intro (fun (e : (_ : Bool) = true) => ?_) (fun (e : (_ : Bool) = false) => ?_)) <;> (try simp only [reduceCtorEq, ints_len, bools_len, Bool.not_false, Bool.not_true, List.length_map, decide_eq_true_eq, decide_eq_false_iff_not, Bool.not_eq_true', Bool.not_eq_false', Bool.and_eq_true, Bool.or_eq_true, Bool.and_eq_false_iff, Bool.or_eq_false_iff, beq_iff_eq, bne_iff_ne, beq_eq_false_iff_ne, bne_eq_false_iff_eq, Int.not_lt, Int.not_le, ge_iff_le, gt_iff_lt, not_or, not_and, Bool.cond_true_right, Bool.cond_true_left, Bool.cond_false_right, Bool.cond_false_left, bif_t, bif_f] at e) <;> (conv => whnf)) | (refine And.intro ?_ ?_; ((first | (with_reducible assumption) | (intro _; with_reducible assumption) | omega | (simp only [reduceCtorEq, ints_len, bools_len, Bool.not_false, Bool.not_true, List.length_map, decide_eq_true_eq, decide_eq_false_iff_not, Bool.not_eq_true', Bool.not_eq_false', Bool.and_eq_true, Bool.or_eq_true, Bool.and_eq_false_iff, Bool.or_eq_false_iff, beq_iff_eq, bne_iff_ne, beq_eq_false_iff_ne, bne_eq_false_iff_eq, Int.not_lt, Int.not_le, ge_iff_le, gt_iff_lt, not_or, not_and, Bool.cond_true_right, Bool.cond_true_left, Bool.cond_false_right, Bool.cond_false_left, bif_t, bif_f] at *; omega) | (intro hg; (try simp only [reduceCtorEq, ints_len, bools_len, Bool.not_false, Bool.not_true, List.length_map, decide_eq_true_eq, decide_eq_false_iff_not, Bool.not_eq_true', Bool.not_eq_false', Bool.and_eq_true, Bool.or_eq_true, Bool.and_eq_false_iff, Bool.or_eq_false_iff, beq_iff_eq, bne_iff_ne, beq_eq_false_iff_ne, bne_eq_false_iff_eq, Int.not_lt, Int.not_le, ge_iff_le, gt_iff_lt, not_or, not_and, Bool.cond_true_right, Bool.cond_true_left, Bool.cond_false_right, Bool.cond_false_left, bif_t, bif_f] at hg); first | (with_reducible assumption) | omega | (simp only [reduceCtorEq, ints_len, bools_len, Bool.not_false, Bool.not_true, List.length_map, decide_eq_true_eq, decide_eq_false_iff_not, Bool.not_eq_true', Bool.not_eq_false', Bool.and_eq_true, Bool.or_eq_true, Bool.and_eq_false_iff, Bool.or_eq_false_iff, beq_iff_eq, bne_iff_ne, beq_eq_false_iff_ne, bne_eq_false_iff_eq, Int.not_lt, Int.not_le, ge_iff_le, gt_iff_lt, not_or, not_and, Bool.cond_true_right, Bool.cond_true_left, Bool.cond_false_right, Bool.cond_false_left, bif_t, bif_f] at *; omega) | (refine ⟨?_, ?_⟩ <;> omega)) | (refine ⟨?_, ?_⟩ <;> omega) | (simp [*]; done) | grind)); (conv => whnf))))
  all_goals
    (refine ⟨[], ?_⟩; (conv => whnf); refine ⟨[], .nil, .nil, ?_⟩; (conv => whnf))
    congr 1
    unfold wrongs
    first
    | (rw [if_pos (by assumption)]; rfl)
    | (subst_vars; simp)
    | simp [*]
/-- the pairs of one group in which two Refs meet -/
def inGroup (k : Kern) (lanes : Int) (a b : Ref) : List (Int × Int) := (pairs k.ext a b).filter fun q => !apart lanes q
theorem pairs_bd {l : List Int} {a b : Ref} : ∀ q ∈ pairs l a b, (0 ≤ q.1 ∧ q.1 ≤ 400) ∧ (0 ≤ q.2 ∧ q.2 ≤ 400) := by
  intro q hq
  unfold pairs at hq
  split at hq
  · rename_i h
    have hA := places_len h.1
    have hB := places_len h.2.1
    generalize places l a = A at *
    generalize places l b = B at *
    have key : ∀ i ≤ A.length, ∀ q ∈ pairsTo A B i, (0 ≤ q.1 ∧ q.1 < i) ∧ (0 ≤ q.2 ∧ q.2 < B.length) := by
      intro i
      induction i with
      | zero => intro _ q hq; simp [pairsTo] at hq
      | succ i ih =>
        intro hi q hq
        rw [pairsTo, List.mem_append, List.mem_map] at hq
        rcases hq with hq | ⟨v, hv, rfl⟩
        · have := ih (by omega) q hq; omega
        · have := idxs_mem B _ _ v hv
          simp only; omega
    have := key A.length (Nat.le_refl _) q hq
    omega
  · simp at hq
theorem pairs_len (l : List Int) (a b : Ref) : (pairs l a b).length ≤ 160000 := by
  unfold pairs
  split
  · rename_i h
    have hA := places_len h.1
    have hB := places_len h.2.1
    have := pairsTo_len (places l a) (places l b) (places l a).length
    have := Nat.mul_le_mul hA hB
    omega
  · simp
theorem prs_free (l : List (Int × Int)) : ∀ e ∈ l.map prC, ∀ x ∈ e, nslB x = true := by
  intro e he x hx
  obtain ⟨q, _, rfl⟩ := List.mem_map.1 he
  simp only [prC, List.mem_cons, List.not_mem_nil, or_false] at hx
  rcases hx with rfl | rfl <;> rfl
def R124 : Ct := fun ss hp r out => ∃ (k : Kern) (lanes : Int) (a b : Ref), ss = [.v (.ag (k.c.map .d)), .di .i64 lanes, .v (.ag (a.c.map .d)), .v (.ag (b.c.map .d))] ∧ hp = [] ∧ k.ext.length < 4611686018427387904 ∧ a.str.length < 4611686018427387904 ∧ b.str.length < 4611686018427387904 ∧ 1 ≤ lanes ∧ r = .one (.own 0) ∧ out = [.row 2 ((inGroup k lanes a b).map prC)]
set_option maxHeartbeats 4000000 in
theorem ok124 : VSound Try.prog (124, R124) := by
  refine vsound (T := ty) (F := [(143, R143), (144, R144 R145)]) (pl := []) (nw := true) (cuts := []) mix tyOk (.cons (ok143) (.cons (ok144 R145 ok145) .nil)) Try.func124 (by kernel_rfl) (by kernel_rfl) ?_
  rintro _ _ _ _ ⟨⟨ext, sets⟩, lanes, ⟨aa, ab, sa⟩, ⟨ba, bb, sb⟩, rfl, rfl, hl, ha, hb, hln, rfl, rfl⟩
  conv => whnf
  refine ⟨[], false, false, ?_⟩
  conv => whnf
  refine ⟨_, _, ⟨ext, ⟨aa, ab, sa⟩, ⟨ba, bb, sb⟩, rfl, rfl, hl, ha, hb, rfl, rfl⟩, ?_⟩
  conv => whnf
  refine ⟨[4], false, false, ?_⟩
  conv => whnf
  intro v
  conv => whnf
  have hpl := pairs_len ext ⟨aa, ab, sa⟩ ⟨ba, bb, sb⟩
  refine ⟨_, _, ⟨pairs ext ⟨aa, ab, sa⟩ ⟨ba, bb, sb⟩, [.pel (inC lanes)], apart lanes, v, rfl, rfl, by omega, rfl, fun q hq => ⟨q.1, q.2, lanes, rfl, rfl, hln, (pairs_bd q hq).1, (pairs_bd q hq).2, rfl, rfl⟩, rfl, rfl⟩, ?_⟩
  conv => whnf
  refine ⟨rfl, ?_⟩
  conv => whnf
  refine ⟨prs_free _, rfl, ?_⟩
  conv => whnf
  refine ⟨[], ?_⟩
  conv => whnf
  exact ⟨[4], by simp, .cons ⟨_, rfl, rfl, rfl⟩ .nil, rfl⟩
def wrong (k : Kern) (lanes s t : Int) (a b : Ref) (load : Bool) : Bool := (inGroup k lanes a b).any (wrongs s t load)
theorem inGroup_len (k : Kern) (lanes : Int) (a b : Ref) : (inGroup k lanes a b).length ≤ 160000 :=
  Nat.le_trans (List.length_filter_le ..) (pairs_len ..)
def R95 : Ct := fun ss hp r out => ∃ (k : Kern) (lanes s t : Int) (a b : Ref) (load : Bool), ss = [.v (.ag (k.c.map .d)), .di .i64 lanes, .di .i64 s, .di .i64 t, .v (.ag (a.c.map .d)), .v (.ag (b.c.map .d)), .db load] ∧ hp = [] ∧ k.ext.length < 4611686018427387904 ∧ a.str.length < 4611686018427387904 ∧ b.str.length < 4611686018427387904 ∧ 1 ≤ lanes ∧ r = .db (wrong k lanes s t a b load) ∧ out = []
set_option maxHeartbeats 4000000 in
theorem ok95 : VSound Try.prog (95, R95) := by
  refine vsound (T := ty) (F := [(123, R123 125 R125), (124, R124)]) (pl := []) (nw := true) (cuts := []) mix tyOk (.cons (ok123 125 R125 ok125) (.cons (ok124) .nil)) Try.func95 (by kernel_rfl) (by kernel_rfl) ?_
  rintro _ _ _ _ ⟨⟨ext, sets⟩, lanes, s, t, ⟨aa, ab, sa⟩, ⟨ba, bb, sb⟩, load, rfl, rfl, hl, ha, hb, hln, rfl, rfl⟩
  conv => whnf
  refine ⟨[], false, false, ?_⟩
  conv => whnf
  refine ⟨_, _, ⟨⟨ext, sets⟩, lanes, ⟨aa, ab, sa⟩, ⟨ba, bb, sb⟩, rfl, rfl, hl, ha, hb, hln, rfl, rfl⟩, ?_⟩
  conv => whnf
  refine ⟨[], false, false, ?_⟩
  conv => whnf
  have hgl := inGroup_len ⟨ext, sets⟩ lanes ⟨aa, ab, sa⟩ ⟨ba, bb, sb⟩
  refine ⟨_, _, ⟨inGroup ⟨ext, sets⟩ lanes ⟨aa, ab, sa⟩ ⟨ba, bb, sb⟩, _, wrongs s t load, rfl, rfl, by omega, rfl, fun q hq => ⟨q.1, q.2, s, t, load, rfl, rfl, rfl, rfl⟩, rfl, rfl⟩, ?_⟩
  conv => whnf
  (refine ⟨[], ?_⟩; (conv => whnf); refine ⟨[], .nil, .nil, ?_⟩; (conv => whnf))
  rfl
end Go.Proofs.Ytahdihhhankhdaa.V

