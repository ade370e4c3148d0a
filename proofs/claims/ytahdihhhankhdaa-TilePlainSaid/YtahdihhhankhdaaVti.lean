/-
  V: the law 8 (TileInverses). By the session's own hand.
-/
import Derived.Test.YtahdihhhankhdaaVwlk
set_option linter.unusedVariables false
set_option linter.unusedSimpArgs false
set_option maxRecDepth 100000
set_option linter.all false
set_option linter.unnecessarySimpa false
set_option linter.deprecated false
namespace Go.Proofs.Ytahdihhhankhdaa.V
open Go.Proofs.YtahdihhhankhdaaVY Go.RowKit
def R72 : Ct := fun ss hp r out => ∃ (e l : List Int), ss = [.one (.d (.sl 1 (e.map inC))), .one (.d (.sl 1 (l.map inC)))] ∧ hp = [] ∧ l.length ≤ 1000000 ∧ e.length ≤ 1000000 ∧ r = .db (isOrd l e.length) ∧ out = []
set_option maxHeartbeats 4000000 in
theorem ok72 : VSound Try.prog (72, R72) := by
  refine vsound (T := ty) (F := [(70, R70)]) (pl := []) (nw := true) (cuts := []) mix tyOk (.cons (ok70) .nil) Try.func72 (by kernel_rfl) (by kernel_rfl) ?_
  rintro _ _ _ _ ⟨e, l, rfl, rfl, hl, he, rfl, rfl⟩
  conv => whnf
  rw [map_len]
  (refine ⟨[], false, false, ?_⟩; (conv => whnf); refine ⟨_, _, ⟨l, e.length, rfl, rfl, hl, he, rfl, rfl⟩, ?_⟩; (conv => whnf))
  (refine ⟨[], ?_⟩; (conv => whnf); refine ⟨[], .nil, .nil, ?_⟩; (conv => whnf))
def zeros (n : Nat) : List Int := List.replicate n 0
def interOk (e l : List Int) : Bool := decide (0 ≤ many e) && isOrd l e.length
def inter (e l : List Int) : List Int := if interOk e l = true then walkL e (zeros e.length) e l else []
theorem many_ok {l : List Int} (h : 0 ≤ many l) : 1 ≤ l.length ∧ l.length ≤ 3 ∧ (∀ x ∈ l, 0 ≤ x ∧ x ≤ 400) ∧ prod l ≤ 400 ∧ many l = prod l := by
  unfold many at h ⊢
  split at h
  · exact absurd h (by decide)
  · rename_i h1
    rw [not_or, not_or] at h1
    split at h
    · exact absurd h (by decide)
    · rename_i h2
      rw [if_neg (by rw [not_or, not_or]; exact h1), if_neg h2]
      refine ⟨by omega, by omega, fun x hx => ?_, by omega, rfl⟩
      have h3 := h1.2.2
      simp only [List.any_eq_true, decide_eq_true_eq, not_exists, not_and] at h3
      have := h3 x hx
      omega
def R34 : Ct := fun ss hp r out => ∃ (e l : List Int), ss = [.one (.d (.sl 1 (e.map inC))), .one (.d (.sl 1 (l.map inC)))] ∧ hp = [] ∧ l.length ≤ 1000000 ∧ e.length ≤ 1000000 ∧ r = .tup [.c (.own 0), .c (.d (.int .i64 (if interOk e l then 0 else 2)))] ∧ out = [.row 1 ((inter e l).map inC)]
set_option maxHeartbeats 4000000 in
theorem ok34 : VSound Try.prog (34, R34) := by
  refine vsound (T := ty) (F := [(65, R65), (72, R72), (73, R73)]) (pl := []) (nw := true) (cuts := []) mix tyOk (.cons (ok65) (.cons (ok72) (.cons (ok73) .nil))) Try.func34 (by kernel_rfl) (by kernel_rfl) ?_
  rintro _ _ _ _ ⟨ex, l, rfl, rfl, hl, he, rfl, rfl⟩
  conv => whnf
  (refine ⟨[], false, false, ?_⟩; (conv => whnf); refine ⟨_, _, ⟨ex, rfl, rfl, by omega, rfl, rfl⟩, ?_⟩; (conv => whnf))
  (repeat' (first | ((with_reducible refine And.intro (fun (e : (_ : Bool) = true) => ?_) (fun (e : (_ : Bool) = false) => ?_)) <;> (try simp only [reduceCtorEq, ints_len, bools_len, Bool.not_false, Bool.not_true, List.length_map, decide_eq_true_eq, decide_eq_false_iff_not, Bool.not_eq_true', Bool.not_eq_false', Bool.and_eq_true, Bool.or_eq_true, Bool.and_eq_false_iff, Bool.or_eq_false_iff, beq_iff_eq, bne_iff_ne, beq_eq_false_iff_ne, bne_eq_false_iff_eq, Int.not_lt, Int.not_le, ge_iff_le, gt_iff_lt, not_or, not_and, Bool.cond_true_right, Bool.cond_true_left, Bool.cond_false_right, Bool.cond_false_left, bif_t, bif_f] at e) <;> (conv => whnf)) | ((with_reducible refine And.intro (fun (e : (_ : Bool) = false) => ?_) (fun (e : (_ : Bool) = true) => ?_)) <;> (try simp only [reduceCtorEq, ints_len, bools_len, Bool.not_false, Bool.not_true, List.length_map, decide_eq_true_eq, decide_eq_false_iff_not, Bool.not_eq_true', Bool.not_eq_false', Bool.and_eq_true, Bool.or_eq_true, Bool.and_eq_false_iff, Bool.or_eq_false_iff, beq_iff_eq, bne_iff_ne, beq_eq_false_iff_ne, bne_eq_false_iff_eq, Int.not_lt, Int.not_le, ge_iff_le, gt_iff_lt, not_or, not_and, Bool.cond_true_right, Bool.cond_true_left, Bool.cond_false_right, Bool.cond_false_left, bif_t, bif_f] at e) <;> (conv => whnf)) | (refine And.intro ?_ ?_; ((first | (with_reducible assumption) | (intro _; with_reducible assumption) | omega | (simp only [reduceCtorEq, ints_len, bools_len, Bool.not_false, Bool.not_true, List.length_map, decide_eq_true_eq, decide_eq_false_iff_not, Bool.not_eq_true', Bool.not_eq_false', Bool.and_eq_true, Bool.or_eq_true, Bool.and_eq_false_iff, Bool.or_eq_false_iff, beq_iff_eq, bne_iff_ne, beq_eq_false_iff_ne, bne_eq_false_iff_eq, Int.not_lt, Int.not_le, ge_iff_le, gt_iff_lt, not_or, not_and, Bool.cond_true_right, Bool.cond_true_left, Bool.cond_false_right, Bool.cond_false_left, bif_t, bif_f] at *; omega) | (intro hg; (try simp only [reduceCtorEq, ints_len, bools_len, Bool.not_false, Bool.not_true, List.length_map, decide_eq_true_eq, decide_eq_false_iff_not, Bool.not_eq_true', Bool.not_eq_false', Bool.and_eq_true, Bool.or_eq_true, Bool.and_eq_false_iff, Bool.or_eq_false_iff, beq_iff_eq, bne_iff_ne, beq_eq_false_iff_ne, bne_eq_false_iff_eq, Int.not_lt, Int.not_le, ge_iff_le, gt_iff_lt, not_or, not_and, Bool.cond_true_right, Bool.cond_true_left, Bool.cond_false_right, Bool.cond_false_left, bif_t, bif_f] at hg); first | (with_reducible assumption) | omega | (simp only [reduceCtorEq, ints_len, bools_len, Bool.not_false, Bool.not_true, List.length_map, decide_eq_true_eq, decide_eq_false_iff_not, Bool.not_eq_true', Bool.not_eq_false', Bool.and_eq_true, Bool.or_eq_true, Bool.and_eq_false_iff, Bool.or_eq_false_iff, beq_iff_eq, bne_iff_ne, beq_eq_false_iff_ne, bne_eq_false_iff_eq, Int.not_lt, Int.not_le, ge_iff_le, gt_iff_lt, not_or, not_and, Bool.cond_true_right, Bool.cond_true_left, Bool.cond_false_right, Bool.cond_false_left, bif_t, bif_f] at *; omega) | (refine ⟨?_, ?_⟩ <;> omega)) | (refine ⟨?_, ?_⟩ <;> omega) | (simp [*]; done) | grind)); (conv => whnf))))
  all_goals try ((refine ⟨[], false, false, ?_⟩; (conv => whnf); refine ⟨_, _, ⟨ex, l, rfl, rfl, hl, he, rfl, rfl⟩, ?_⟩; (conv => whnf)); (repeat' (first | ((with_reducible refine And.intro (fun (e : (_ : Bool) = true) => ?_) (fun (e : (_ : Bool) = false) => ?_)) <;> (try simp only [reduceCtorEq, ints_len, bools_len, Bool.not_false, Bool.not_true, List.length_map, decide_eq_true_eq, decide_eq_false_iff_not, Bool.not_eq_true', Bool.not_eq_false', Bool.and_eq_true, Bool.or_eq_true, Bool.and_eq_false_iff, Bool.or_eq_false_iff, beq_iff_eq, bne_iff_ne, beq_eq_false_iff_ne, bne_eq_false_iff_eq, Int.not_lt, Int.not_le, ge_iff_le, gt_iff_lt, not_or, not_and, Bool.cond_true_right, Bool.cond_true_left, Bool.cond_false_right, Bool.cond_false_left, bif_t, bif_f] at e) <;> (conv => whnf)) | ((with_reducible refine And.intro (fun (e : (_ : Bool) = false) => ?_) (fun (e : (_ : Bool) = true) => ?_)) <;> (try simp only [reduceCtorEq, ints_len, bools_len, Bool.not_false, Bool.not_true, List.length_map, decide_eq_true_eq, decide_eq_false_iff_not, Bool.not_eq_true', Bool.not_eq_false', Bool.and_eq_true, Bool.or_eq_true, Bool.and_eq_false_iff, Bool.or_eq_false_iff, beq_iff_eq, bne_iff_ne, beq_eq_false_iff_ne, bne_eq_false_iff_eq, Int.not_lt, Int.not_le, ge_iff_le, gt_iff_lt, not_or, not_and, Bool.cond_true_right, Bool.cond_true_left, Bool.cond_false_right, Bool.cond_false_left, bif_t, bif_f] at e) <;> (conv => whnf)) | (refine And.intro ?_ ?_; ((first | (with_reducible assumption) | (intro _; with_reducible assumption) | omega | (simp only [reduceCtorEq, ints_len, bools_len, Bool.not_false, Bool.not_true, List.length_map, decide_eq_true_eq, decide_eq_false_iff_not, Bool.not_eq_true', Bool.not_eq_false', Bool.and_eq_true, Bool.or_eq_true, Bool.and_eq_false_iff, Bool.or_eq_false_iff, beq_iff_eq, bne_iff_ne, beq_eq_false_iff_ne, bne_eq_false_iff_eq, Int.not_lt, Int.not_le, ge_iff_le, gt_iff_lt, not_or, not_and, Bool.cond_true_right, Bool.cond_true_left, Bool.cond_false_right, Bool.cond_false_left, bif_t, bif_f] at *; omega) | (intro hg; (try simp only [reduceCtorEq, ints_len, bools_len, Bool.not_false, Bool.not_true, List.length_map, decide_eq_true_eq, decide_eq_false_iff_not, Bool.not_eq_true', Bool.not_eq_false', Bool.and_eq_true, Bool.or_eq_true, Bool.and_eq_false_iff, Bool.or_eq_false_iff, beq_iff_eq, bne_iff_ne, beq_eq_false_iff_ne, bne_eq_false_iff_eq, Int.not_lt, Int.not_le, ge_iff_le, gt_iff_lt, not_or, not_and, Bool.cond_true_right, Bool.cond_true_left, Bool.cond_false_right, Bool.cond_false_left, bif_t, bif_f] at hg); first | (with_reducible assumption) | omega | (simp only [reduceCtorEq, ints_len, bools_len, Bool.not_false, Bool.not_true, List.length_map, decide_eq_true_eq, decide_eq_false_iff_not, Bool.not_eq_true', Bool.not_eq_false', Bool.and_eq_true, Bool.or_eq_true, Bool.and_eq_false_iff, Bool.or_eq_false_iff, beq_iff_eq, bne_iff_ne, beq_eq_false_iff_ne, bne_eq_false_iff_eq, Int.not_lt, Int.not_le, ge_iff_le, gt_iff_lt, not_or, not_and, Bool.cond_true_right, Bool.cond_true_left, Bool.cond_false_right, Bool.cond_false_left, bif_t, bif_f] at *; omega) | (refine ⟨?_, ?_⟩ <;> omega)) | (refine ⟨?_, ?_⟩ <;> omega) | (simp [*]; done) | grind)); (conv => whnf)))))
  · have e1 := e
    have ho : interOk ex l = false := by
      unfold interOk
      rcases e1 with h | h
      · rw [decide_eq_false (by omega)]; rfl
      · rw [h]; exact Bool.and_false _
    refine ⟨[.slot 4 true], ?_⟩
    conv => whnf
    unfold inter
    rw [ho]
    exact ⟨[0], by simp, .cons ⟨_, rfl, rfl, rfl⟩ .nil, .cons rfl (.cons rfl .nil)⟩
  · have e1 := e
    have ho : interOk ex l = true := by unfold interOk; rw [e1.2, decide_eq_true e1.1]; rfl
    obtain ⟨b1, b2, b3, b4, b5⟩ := many_ok e1.1
    obtain ⟨c1, c2, c3⟩ := isOrd_iff.1 e1.2
    unfold inter
    rw [ho]
    have hz : List.replicate (((ex.map inC).length : Nat) : Int).toNat [D.int .i64 0] = (zeros ex.length).map inC := by
      rw [map_len, Int.toNat_natCast, zeros, List.map_replicate]
    rw [hz]
    have hzl : (zeros ex.length).length = ex.length := List.length_replicate
    (refine ⟨[], false, false, ?_⟩; (conv => whnf); refine ⟨_, _, ⟨ex, zeros ex.length, ex, l, rfl, rfl, hzl, rfl, b2, b3, b4, fun x hx => by rw [List.eq_of_mem_replicate hx]; decide, fun i _ => Int.le_refl _, c2, by omega, c1, rfl, rfl⟩, ?_⟩; (conv => whnf))
    refine ⟨ints_free _, ?_⟩
    conv => whnf
    refine ⟨[], ?_⟩
    conv => whnf
    exact ⟨[1], by simp, .cons ⟨_, rfl, rfl, rfl⟩ .nil, .cons rfl (.cons rfl .nil)⟩
  · have ho : interOk ex l = false := by unfold interOk; rw [decide_eq_false (by omega)]; rfl
    refine ⟨[.slot 4 true], ?_⟩
    conv => whnf
    unfold inter
    rw [ho]
    exact ⟨[0], by simp, .cons ⟨_, rfl, rfl, rfl⟩ .nil, .cons rfl (.cons rfl .nil)⟩
def R29 : Ct := fun ss hp r out => ss = [] ∧ hp = [] ∧ r = .db true ∧ out = []
set_option maxHeartbeats 4000000 in
theorem ok29 : VSound Try.prog (29, R29) := by
  refine vsound (T := ty) (F := [(32, R32), (34, R34)]) (pl := []) (nw := true) (cuts := []) mix tyOk (.cons (ok32) (.cons (ok34) .nil)) Try.func29 (by kernel_rfl) (by kernel_rfl) ?_
  rintro _ _ _ _ ⟨rfl, rfl, rfl, rfl⟩
  conv => whnf
  (refine ⟨[], false, false, ?_⟩; (conv => whnf); refine ⟨_, _, ⟨[2, 2], [1, 0], rfl, rfl, by decide, by decide, rfl, rfl⟩, ?_⟩; (conv => whnf))
  refine ⟨ints_free _, ?_⟩
  have h0 : isOrd [1, 0] ([2, 2] : List Int).length = true := isOrd_iff.2 ⟨by simp, by decide, rfl⟩
  have h2 : interOk [2, 2] [1, 0] = true := by unfold interOk; rw [h0]; decide
  have h1 : inter [2, 2] [1, 0] = [0, 2, 1, 3] := by unfold inter; rw [if_pos h2]; decide +kernel
  rw [h1, h2, if_pos rfl]
  conv => whnf
  (repeat' (first | ((with_reducible refine And.intro (fun (e : (_ : Bool) = true) => ?_) (fun (e : (_ : Bool) = false) => ?_)) <;> (try simp only [reduceCtorEq, ints_len, bools_len, Bool.not_false, Bool.not_true, List.length_map, decide_eq_true_eq, decide_eq_false_iff_not, Bool.not_eq_true', Bool.not_eq_false', Bool.and_eq_true, Bool.or_eq_true, Bool.and_eq_false_iff, Bool.or_eq_false_iff, beq_iff_eq, bne_iff_ne, beq_eq_false_iff_ne, bne_eq_false_iff_eq, Int.not_lt, Int.not_le, ge_iff_le, gt_iff_lt, not_or, not_and, Bool.cond_true_right, Bool.cond_true_left, Bool.cond_false_right, Bool.cond_false_left, bif_t, bif_f] at e) <;> (conv => whnf)) | ((with_reducible refine And.intro (fun (e : (_ : Bool) = false) => ?_) (fun (e : (_ : Bool) = true) => ?_)) <;> (try simp only [reduceCtorEq, ints_len, bools_len, Bool.not_false, Bool.not_true, List.length_map, decide_eq_true_eq, decide_eq_false_iff_not, Bool.not_eq_true', Bool.not_eq_false', Bool.and_eq_true, Bool.or_eq_true, Bool.and_eq_false_iff, Bool.or_eq_false_iff, beq_iff_eq, bne_iff_ne, beq_eq_false_iff_ne, bne_eq_false_iff_eq, Int.not_lt, Int.not_le, ge_iff_le, gt_iff_lt, not_or, not_and, Bool.cond_true_right, Bool.cond_true_left, Bool.cond_false_right, Bool.cond_false_left, bif_t, bif_f] at e) <;> (conv => whnf)) | (refine And.intro ?_ ?_; ((first | (with_reducible assumption) | (intro _; with_reducible assumption) | omega | (simp only [reduceCtorEq, ints_len, bools_len, Bool.not_false, Bool.not_true, List.length_map, decide_eq_true_eq, decide_eq_false_iff_not, Bool.not_eq_true', Bool.not_eq_false', Bool.and_eq_true, Bool.or_eq_true, Bool.and_eq_false_iff, Bool.or_eq_false_iff, beq_iff_eq, bne_iff_ne, beq_eq_false_iff_ne, bne_eq_false_iff_eq, Int.not_lt, Int.not_le, ge_iff_le, gt_iff_lt, not_or, not_and, Bool.cond_true_right, Bool.cond_true_left, Bool.cond_false_right, Bool.cond_false_left, bif_t, bif_f] at *; omega) | (intro hg; (try simp only [reduceCtorEq, ints_len, bools_len, Bool.not_false, Bool.not_true, List.length_map, decide_eq_true_eq, decide_eq_false_iff_not, Bool.not_eq_true', Bool.not_eq_false', Bool.and_eq_true, Bool.or_eq_true, Bool.and_eq_false_iff, Bool.or_eq_false_iff, beq_iff_eq, bne_iff_ne, beq_eq_false_iff_ne, bne_eq_false_iff_eq, Int.not_lt, Int.not_le, ge_iff_le, gt_iff_lt, not_or, not_and, Bool.cond_true_right, Bool.cond_true_left, Bool.cond_false_right, Bool.cond_false_left, bif_t, bif_f] at hg); first | (with_reducible assumption) | omega | (simp only [reduceCtorEq, ints_len, bools_len, Bool.not_false, Bool.not_true, List.length_map, decide_eq_true_eq, decide_eq_false_iff_not, Bool.not_eq_true', Bool.not_eq_false', Bool.and_eq_true, Bool.or_eq_true, Bool.and_eq_false_iff, Bool.or_eq_false_iff, beq_iff_eq, bne_iff_ne, beq_eq_false_iff_ne, bne_eq_false_iff_eq, Int.not_lt, Int.not_le, ge_iff_le, gt_iff_lt, not_or, not_and, Bool.cond_true_right, Bool.cond_true_left, Bool.cond_false_right, Bool.cond_false_left, bif_t, bif_f] at *; omega) | (refine ⟨?_, ?_⟩ <;> omega)) | (refine ⟨?_, ?_⟩ <;> omega) | (simp [*]; done) | grind)); (conv => whnf))))
  · (refine ⟨[], false, false, ?_⟩; (conv => whnf); refine ⟨_, _, ⟨[0, 2, 1, 3], [0, 2, 1, 3], rfl, rfl, by decide, rfl, rfl⟩, ?_⟩; (conv => whnf))
    (repeat' (first | ((with_reducible refine And.intro (fun (e : (_ : Bool) = true) => ?_) (fun (e : (_ : Bool) = false) => ?_)) <;> (try simp only [reduceCtorEq, ints_len, bools_len, Bool.not_false, Bool.not_true, List.length_map, decide_eq_true_eq, decide_eq_false_iff_not, Bool.not_eq_true', Bool.not_eq_false', Bool.and_eq_true, Bool.or_eq_true, Bool.and_eq_false_iff, Bool.or_eq_false_iff, beq_iff_eq, bne_iff_ne, beq_eq_false_iff_ne, bne_eq_false_iff_eq, Int.not_lt, Int.not_le, ge_iff_le, gt_iff_lt, not_or, not_and, Bool.cond_true_right, Bool.cond_true_left, Bool.cond_false_right, Bool.cond_false_left, bif_t, bif_f] at e) <;> (conv => whnf)) | ((with_reducible refine And.intro (fun (e : (_ : Bool) = false) => ?_) (fun (e : (_ : Bool) = true) => ?_)) <;> (try simp only [reduceCtorEq, ints_len, bools_len, Bool.not_false, Bool.not_true, List.length_map, decide_eq_true_eq, decide_eq_false_iff_not, Bool.not_eq_true', Bool.not_eq_false', Bool.and_eq_true, Bool.or_eq_true, Bool.and_eq_false_iff, Bool.or_eq_false_iff, beq_iff_eq, bne_iff_ne, beq_eq_false_iff_ne, bne_eq_false_iff_eq, Int.not_lt, Int.not_le, ge_iff_le, gt_iff_lt, not_or, not_and, Bool.cond_true_right, Bool.cond_true_left, Bool.cond_false_right, Bool.cond_false_left, bif_t, bif_f] at e) <;> (conv => whnf)) | (refine And.intro ?_ ?_; ((first | (with_reducible assumption) | (intro _; with_reducible assumption) | omega | (simp only [reduceCtorEq, ints_len, bools_len, Bool.not_false, Bool.not_true, List.length_map, decide_eq_true_eq, decide_eq_false_iff_not, Bool.not_eq_true', Bool.not_eq_false', Bool.and_eq_true, Bool.or_eq_true, Bool.and_eq_false_iff, Bool.or_eq_false_iff, beq_iff_eq, bne_iff_ne, beq_eq_false_iff_ne, bne_eq_false_iff_eq, Int.not_lt, Int.not_le, ge_iff_le, gt_iff_lt, not_or, not_and, Bool.cond_true_right, Bool.cond_true_left, Bool.cond_false_right, Bool.cond_false_left, bif_t, bif_f] at *; omega) | (intro hg; (try simp only [reduceCtorEq, ints_len, bools_len, Bool.not_false, Bool.not_true, List.length_map, decide_eq_true_eq, decide_eq_false_iff_not, Bool.not_eq_true', Bool.not_eq_false', Bool.and_eq_true, Bool.or_eq_true, Bool.and_eq_false_iff, Bool.or_eq_false_iff, beq_iff_eq, bne_iff_ne, beq_eq_false_iff_ne, bne_eq_false_iff_eq, Int.not_lt, Int.not_le, ge_iff_le, gt_iff_lt, not_or, not_and, Bool.cond_true_right, Bool.cond_true_left, Bool.cond_false_right, Bool.cond_false_left, bif_t, bif_f] at hg); first | (with_reducible assumption) | omega | (simp only [reduceCtorEq, ints_len, bools_len, Bool.not_false, Bool.not_true, List.length_map, decide_eq_true_eq, decide_eq_false_iff_not, Bool.not_eq_true', Bool.not_eq_false', Bool.and_eq_true, Bool.or_eq_true, Bool.and_eq_false_iff, Bool.or_eq_false_iff, beq_iff_eq, bne_iff_ne, beq_eq_false_iff_ne, bne_eq_false_iff_eq, Int.not_lt, Int.not_le, ge_iff_le, gt_iff_lt, not_or, not_and, Bool.cond_true_right, Bool.cond_true_left, Bool.cond_false_right, Bool.cond_false_left, bif_t, bif_f] at *; omega) | (refine ⟨?_, ?_⟩ <;> omega)) | (refine ⟨?_, ?_⟩ <;> omega) | (simp [*]; done) | grind)); (conv => whnf))))
    all_goals ((refine ⟨[], ?_⟩; (conv => whnf); refine ⟨[], .nil, .nil, ?_⟩; (conv => whnf)); congr 1)
  all_goals first
    | (exfalso; simp at e; done)
    | (rename_i e0; exfalso; simp at e0; done)
def invOk (l : List Int) : Bool := decide (l.length ≤ 400) && isOrd l l.length
def invTo (l : List Int) : Nat → List Int
  | 0 => zeros l.length
  | i + 1 => (invTo l i).set (l.getD i 0).toNat i
def invL (l : List Int) : List Int := if invOk l = true then invTo l l.length else []
theorem invTo_len (l : List Int) (i : Nat) : (invTo l i).length = l.length := by
  induction i with
  | zero => exact List.length_replicate
  | succ i ih => rw [invTo, List.length_set, ih]
def R30 : Ct := fun ss hp r out => ∃ l : List Int, ss = [.one (.d (.sl 1 (l.map inC)))] ∧ hp = [] ∧ l.length ≤ 1000000 ∧ r = .tup [.c (.own 0), .c (.d (.int .i64 (if invOk l then 0 else 2)))] ∧ out = [.row 1 ((invL l).map inC)]
set_option maxHeartbeats 4000000 in
theorem ok30 : VSound Try.prog (30, R30) := by
  refine vsound (T := ty) (F := [(70, R70)]) (pl := []) (nw := true) (cuts := []) mix tyOk (.cons (ok70) .nil) Try.func30 (by kernel_rfl) (by kernel_rfl) ?_
  rintro _ _ _ _ ⟨l, rfl, rfl, hl, rfl, rfl⟩
  conv => whnf
  rw [map_len]
  (repeat' (first | ((with_reducible refine And.intro (fun (e : (_ : Bool) = true) => ?_) (fun (e : (_ : Bool) = false) => ?_)) <;> (try simp only [reduceCtorEq, ints_len, bools_len, Bool.not_false, Bool.not_true, List.length_map, decide_eq_true_eq, decide_eq_false_iff_not, Bool.not_eq_true', Bool.not_eq_false', Bool.and_eq_true, Bool.or_eq_true, Bool.and_eq_false_iff, Bool.or_eq_false_iff, beq_iff_eq, bne_iff_ne, beq_eq_false_iff_ne, bne_eq_false_iff_eq, Int.not_lt, Int.not_le, ge_iff_le, gt_iff_lt, not_or, not_and, Bool.cond_true_right, Bool.cond_true_left, Bool.cond_false_right, Bool.cond_false_left, bif_t, bif_f] at e) <;> (conv => whnf)) | ((with_reducible refine And.intro (fun (e : (_ : Bool) = false) => ?_) (fun (e : (_ : Bool) = true) => ?_)) <;> (try simp only [reduceCtorEq, ints_len, bools_len, Bool.not_false, Bool.not_true, List.length_map, decide_eq_true_eq, decide_eq_false_iff_not, Bool.not_eq_true', Bool.not_eq_false', Bool.and_eq_true, Bool.or_eq_true, Bool.and_eq_false_iff, Bool.or_eq_false_iff, beq_iff_eq, bne_iff_ne, beq_eq_false_iff_ne, bne_eq_false_iff_eq, Int.not_lt, Int.not_le, ge_iff_le, gt_iff_lt, not_or, not_and, Bool.cond_true_right, Bool.cond_true_left, Bool.cond_false_right, Bool.cond_false_left, bif_t, bif_f] at e) <;> (conv => whnf)) | (refine And.intro ?_ ?_; ((first | (with_reducible assumption) | (intro _; with_reducible assumption) | omega | (simp only [reduceCtorEq, ints_len, bools_len, Bool.not_false, Bool.not_true, List.length_map, decide_eq_true_eq, decide_eq_false_iff_not, Bool.not_eq_true', Bool.not_eq_false', Bool.and_eq_true, Bool.or_eq_true, Bool.and_eq_false_iff, Bool.or_eq_false_iff, beq_iff_eq, bne_iff_ne, beq_eq_false_iff_ne, bne_eq_false_iff_eq, Int.not_lt, Int.not_le, ge_iff_le, gt_iff_lt, not_or, not_and, Bool.cond_true_right, Bool.cond_true_left, Bool.cond_false_right, Bool.cond_false_left, bif_t, bif_f] at *; omega) | (intro hg; (try simp only [reduceCtorEq, ints_len, bools_len, Bool.not_false, Bool.not_true, List.length_map, decide_eq_true_eq, decide_eq_false_iff_not, Bool.not_eq_true', Bool.not_eq_false', Bool.and_eq_true, Bool.or_eq_true, Bool.and_eq_false_iff, Bool.or_eq_false_iff, beq_iff_eq, bne_iff_ne, beq_eq_false_iff_ne, bne_eq_false_iff_eq, Int.not_lt, Int.not_le, ge_iff_le, gt_iff_lt, not_or, not_and, Bool.cond_true_right, Bool.cond_true_left, Bool.cond_false_right, Bool.cond_false_left, bif_t, bif_f] at hg); first | (with_reducible assumption) | omega | (simp only [reduceCtorEq, ints_len, bools_len, Bool.not_false, Bool.not_true, List.length_map, decide_eq_true_eq, decide_eq_false_iff_not, Bool.not_eq_true', Bool.not_eq_false', Bool.and_eq_true, Bool.or_eq_true, Bool.and_eq_false_iff, Bool.or_eq_false_iff, beq_iff_eq, bne_iff_ne, beq_eq_false_iff_ne, bne_eq_false_iff_eq, Int.not_lt, Int.not_le, ge_iff_le, gt_iff_lt, not_or, not_and, Bool.cond_true_right, Bool.cond_true_left, Bool.cond_false_right, Bool.cond_false_left, bif_t, bif_f] at *; omega) | (refine ⟨?_, ?_⟩ <;> omega)) | (refine ⟨?_, ?_⟩ <;> omega) | (simp [*]; done) | grind)); (conv => whnf))))
  all_goals try (rw [map_len]; (refine ⟨[], false, false, ?_⟩; (conv => whnf); refine ⟨_, _, ⟨l, l.length, rfl, rfl, hl, hl, rfl, rfl⟩, ?_⟩; (conv => whnf)); (repeat' (first | ((with_reducible refine And.intro (fun (e : (_ : Bool) = true) => ?_) (fun (e : (_ : Bool) = false) => ?_)) <;> (try simp only [reduceCtorEq, ints_len, bools_len, Bool.not_false, Bool.not_true, List.length_map, decide_eq_true_eq, decide_eq_false_iff_not, Bool.not_eq_true', Bool.not_eq_false', Bool.and_eq_true, Bool.or_eq_true, Bool.and_eq_false_iff, Bool.or_eq_false_iff, beq_iff_eq, bne_iff_ne, beq_eq_false_iff_ne, bne_eq_false_iff_eq, Int.not_lt, Int.not_le, ge_iff_le, gt_iff_lt, not_or, not_and, Bool.cond_true_right, Bool.cond_true_left, Bool.cond_false_right, Bool.cond_false_left, bif_t, bif_f] at e) <;> (conv => whnf)) | ((with_reducible refine And.intro (fun (e : (_ : Bool) = false) => ?_) (fun (e : (_ : Bool) = true) => ?_)) <;> (try simp only [reduceCtorEq, ints_len, bools_len, Bool.not_false, Bool.not_true, List.length_map, decide_eq_true_eq, decide_eq_false_iff_not, Bool.not_eq_true', Bool.not_eq_false', Bool.and_eq_true, Bool.or_eq_true, Bool.and_eq_false_iff, Bool.or_eq_false_iff, beq_iff_eq, bne_iff_ne, beq_eq_false_iff_ne, bne_eq_false_iff_eq, Int.not_lt, Int.not_le, ge_iff_le, gt_iff_lt, not_or, not_and, Bool.cond_true_right, Bool.cond_true_left, Bool.cond_false_right, Bool.cond_false_left, bif_t, bif_f] at e) <;> (conv => whnf)) | (refine And.intro ?_ ?_; ((first | (with_reducible assumption) | (intro _; with_reducible assumption) | omega | (simp only [reduceCtorEq, ints_len, bools_len, Bool.not_false, Bool.not_true, List.length_map, decide_eq_true_eq, decide_eq_false_iff_not, Bool.not_eq_true', Bool.not_eq_false', Bool.and_eq_true, Bool.or_eq_true, Bool.and_eq_false_iff, Bool.or_eq_false_iff, beq_iff_eq, bne_iff_ne, beq_eq_false_iff_ne, bne_eq_false_iff_eq, Int.not_lt, Int.not_le, ge_iff_le, gt_iff_lt, not_or, not_and, Bool.cond_true_right, Bool.cond_true_left, Bool.cond_false_right, Bool.cond_false_left, bif_t, bif_f] at *; omega) | (intro hg; (try simp only [reduceCtorEq, ints_len, bools_len, Bool.not_false, Bool.not_true, List.length_map, decide_eq_true_eq, decide_eq_false_iff_not, Bool.not_eq_true', Bool.not_eq_false', Bool.and_eq_true, Bool.or_eq_true, Bool.and_eq_false_iff, Bool.or_eq_false_iff, beq_iff_eq, bne_iff_ne, beq_eq_false_iff_ne, bne_eq_false_iff_eq, Int.not_lt, Int.not_le, ge_iff_le, gt_iff_lt, not_or, not_and, Bool.cond_true_right, Bool.cond_true_left, Bool.cond_false_right, Bool.cond_false_left, bif_t, bif_f] at hg); first | (with_reducible assumption) | omega | (simp only [reduceCtorEq, ints_len, bools_len, Bool.not_false, Bool.not_true, List.length_map, decide_eq_true_eq, decide_eq_false_iff_not, Bool.not_eq_true', Bool.not_eq_false', Bool.and_eq_true, Bool.or_eq_true, Bool.and_eq_false_iff, Bool.or_eq_false_iff, beq_iff_eq, bne_iff_ne, beq_eq_false_iff_ne, bne_eq_false_iff_eq, Int.not_lt, Int.not_le, ge_iff_le, gt_iff_lt, not_or, not_and, Bool.cond_true_right, Bool.cond_true_left, Bool.cond_false_right, Bool.cond_false_left, bif_t, bif_f] at *; omega) | (refine ⟨?_, ?_⟩ <;> omega)) | (refine ⟨?_, ?_⟩ <;> omega) | (simp [*]; done) | grind)); (conv => whnf)))))
  · have e1 := e
    have ho : invOk l = false := by
      unfold invOk
      rcases e1 with h | h
      · rw [decide_eq_false (by omega)]; rfl
      · rw [h]; exact Bool.and_false _
    refine ⟨[.slot 2 true], ?_⟩
    conv => whnf
    unfold invL
    rw [ho]
    exact ⟨[0], by simp, .cons ⟨_, rfl, rfl, rfl⟩ .nil, .cons rfl (.cons rfl .nil)⟩
  · have e1 := e
    have ho : invOk l = true := by unfold invOk; rw [e1.2, decide_eq_true (by omega)]; rfl
    obtain ⟨c1, c2, c3⟩ := isOrd_iff.1 e1.2
    unfold invL
    rw [ho]
    have hz : List.replicate ((l.length : Nat) : Int).toNat [D.int .i64 0] = (invTo l 0).map inC := by
      rw [Int.toNat_natCast, invTo, zeros, List.map_replicate]
    have hz2 : List.replicate (((l.map inC).length : Nat) : Int).toNat [D.int .i64 0] = (invTo l 0).map inC := by
      rw [map_len, Int.toNat_natCast, invTo, zeros, List.map_replicate]
    refine ⟨[], [4, 20, 21, 22], 1, fun n1 σ => ∃ i : Nat, i ≤ l.length ∧ n1 = l.length - i ∧ σ = (⟨[.junk, .junk, .junk, .junk, .one (.own 0), .junk, .junk, .junk, .junk, .junk, .junk, .junk, .junk, .junk, .junk, .junk, .junk, .junk, .junk, .junk, .one (.d (.sl 1 (l.map inC))), .di .i64 l.length, .di .i64 i, .junk, .junk, .junk, .junk, .junk, .junk, .junk, .junk, .junk, .junk], [.row 1 ((invTo l i).map inC)]⟩ : St), ?_, ?_⟩
    · refine ⟨l.length, ?_⟩
      conv => whnf
      refine ⟨0, by omega, by omega, ?_⟩
      rw [← hz]; try rw [map_len]
      rfl
    · rintro n1 _ ⟨i, hi, rfl, rfl⟩
      conv => whnf
      skip
      ((with_reducible refine And.intro (fun (e : (_ : Bool) = true) => ?_) (fun (e : (_ : Bool) = false) => ?_)) <;> (try simp only [reduceCtorEq, ints_len, bools_len, Bool.not_false, Bool.not_true, List.length_map, decide_eq_true_eq, decide_eq_false_iff_not, Bool.not_eq_true', Bool.not_eq_false', Bool.and_eq_true, Bool.or_eq_true, Bool.and_eq_false_iff, Bool.or_eq_false_iff, beq_iff_eq, bne_iff_ne, beq_eq_false_iff_ne, bne_eq_false_iff_eq, Int.not_lt, Int.not_le, ge_iff_le, gt_iff_lt, not_or, not_and, Bool.cond_true_right, Bool.cond_true_left, Bool.cond_false_right, Bool.cond_false_left, bif_t, bif_f] at e) <;> (conv => whnf))
      · obtain ⟨x, hx⟩ := get_lt (l := l) (i := i) (by omega)
        have hxb := c1 x (List.mem_of_getElem? hx)
        obtain ⟨q, rfl⟩ := Int.eq_ofNat_of_zero_le hxb.1
        have hil := invTo_len l i
        obtain ⟨z, hz0⟩ := get_lt (l := invTo l i) (i := q) (by omega)
        have hset : (((invTo l i).map inC).set (q : Int).toNat [D.int .i64 i]) = (invTo l (i + 1)).map inC := by
          rw [invTo, gD_of hx, Int.toNat_natCast, List.map_set]
        (refine ⟨_, And.intro ⟨by omega, enc_get hx⟩ ?_⟩; (conv => whnf))
        refine And.intro ⟨by omega, by rw [map_len]; omega⟩ ?_
        show St.apply _ _ _ _ _ _ _
        unfold St.apply
        simp only [updsK, appK, putD, setK]
        unfold vcOps
        simp only [isLook, winAt]
        unfold actStep evM
        simp only [operand, nthK, strip]
        conv => whnf
        refine ⟨_, And.intro (enc_get hz0) ?_⟩
        conv => whnf
        rw [hset]
        try conv => whnf
        (refine And.intro ?_ ?_; ((first | (with_reducible assumption) | (intro _; with_reducible assumption) | omega | (simp only [reduceCtorEq, ints_len, bools_len, Bool.not_false, Bool.not_true, List.length_map, decide_eq_true_eq, decide_eq_false_iff_not, Bool.not_eq_true', Bool.not_eq_false', Bool.and_eq_true, Bool.or_eq_true, Bool.and_eq_false_iff, Bool.or_eq_false_iff, beq_iff_eq, bne_iff_ne, beq_eq_false_iff_ne, bne_eq_false_iff_eq, Int.not_lt, Int.not_le, ge_iff_le, gt_iff_lt, not_or, not_and, Bool.cond_true_right, Bool.cond_true_left, Bool.cond_false_right, Bool.cond_false_left, bif_t, bif_f] at *; omega) | (intro hg; (try simp only [reduceCtorEq, ints_len, bools_len, Bool.not_false, Bool.not_true, List.length_map, decide_eq_true_eq, decide_eq_false_iff_not, Bool.not_eq_true', Bool.not_eq_false', Bool.and_eq_true, Bool.or_eq_true, Bool.and_eq_false_iff, Bool.or_eq_false_iff, beq_iff_eq, bne_iff_ne, beq_eq_false_iff_ne, bne_eq_false_iff_eq, Int.not_lt, Int.not_le, ge_iff_le, gt_iff_lt, not_or, not_and, Bool.cond_true_right, Bool.cond_true_left, Bool.cond_false_right, Bool.cond_false_left, bif_t, bif_f] at hg); first | (with_reducible assumption) | omega | (simp only [reduceCtorEq, ints_len, bools_len, Bool.not_false, Bool.not_true, List.length_map, decide_eq_true_eq, decide_eq_false_iff_not, Bool.not_eq_true', Bool.not_eq_false', Bool.and_eq_true, Bool.or_eq_true, Bool.and_eq_false_iff, Bool.or_eq_false_iff, beq_iff_eq, bne_iff_ne, beq_eq_false_iff_ne, bne_eq_false_iff_eq, Int.not_lt, Int.not_le, ge_iff_le, gt_iff_lt, not_or, not_and, Bool.cond_true_right, Bool.cond_true_left, Bool.cond_false_right, Bool.cond_false_left, bif_t, bif_f] at *; omega) | (refine ⟨?_, ?_⟩ <;> omega)) | (refine ⟨?_, ?_⟩ <;> omega) | (simp [*]; done) | grind)); (conv => whnf))
        refine ⟨l.length - (i + 1), by omega, [], ?_⟩
        conv => whnf
        exact ⟨i + 1, by omega, rfl, rfl⟩
      · have hi' : i = l.length := by omega
        refine ⟨[], ?_⟩
        conv => whnf
        rw [hi']
        exact ⟨[0], by simp, .cons ⟨_, rfl, rfl, rfl⟩ .nil, .cons rfl (.cons rfl .nil)⟩
  · have ho : invOk l = false := by unfold invOk; rw [decide_eq_false (by omega)]; rfl
    refine ⟨[.slot 2 true], ?_⟩
    conv => whnf
    unfold invL
    rw [ho]
    exact ⟨[0], by simp, .cons ⟨_, rfl, rfl, rfl⟩ .nil, .cons rfl (.cons rfl .nil)⟩
def R31 : Ct := fun ss hp r out => ∃ l : List Int, ss = [.one (.d (.sl 1 (l.map inC)))] ∧ hp = [] ∧ l.length ≤ 1000000 ∧ r = .tup [.c (.own 0), .c (.d (.int .i64 (if invOk l then 0 else 2)))] ∧ out = [.row 1 ((invL l).map inC)]
set_option maxHeartbeats 4000000 in
theorem ok31 : VSound Try.prog (31, R31) := by
  refine vsound (T := ty) (F := [(71, R71)]) (pl := []) (nw := true) (cuts := []) mix tyOk (.cons (ok71) .nil) Try.func31 (by kernel_rfl) (by kernel_rfl) ?_
  rintro _ _ _ _ ⟨l, rfl, rfl, hl, rfl, rfl⟩
  conv => whnf
  rw [map_len]
  (repeat' (first | ((with_reducible refine And.intro (fun (e : (_ : Bool) = true) => ?_) (fun (e : (_ : Bool) = false) => ?_)) <;> (try simp only [reduceCtorEq, ints_len, bools_len, Bool.not_false, Bool.not_true, List.length_map, decide_eq_true_eq, decide_eq_false_iff_not, Bool.not_eq_true', Bool.not_eq_false', Bool.and_eq_true, Bool.or_eq_true, Bool.and_eq_false_iff, Bool.or_eq_false_iff, beq_iff_eq, bne_iff_ne, beq_eq_false_iff_ne, bne_eq_false_iff_eq, Int.not_lt, Int.not_le, ge_iff_le, gt_iff_lt, not_or, not_and, Bool.cond_true_right, Bool.cond_true_left, Bool.cond_false_right, Bool.cond_false_left, bif_t, bif_f] at e) <;> (conv => whnf)) | ((with_reducible refine And.intro (fun (e : (_ : Bool) = false) => ?_) (fun (e : (_ : Bool) = true) => ?_)) <;> (try simp only [reduceCtorEq, ints_len, bools_len, Bool.not_false, Bool.not_true, List.length_map, decide_eq_true_eq, decide_eq_false_iff_not, Bool.not_eq_true', Bool.not_eq_false', Bool.and_eq_true, Bool.or_eq_true, Bool.and_eq_false_iff, Bool.or_eq_false_iff, beq_iff_eq, bne_iff_ne, beq_eq_false_iff_ne, bne_eq_false_iff_eq, Int.not_lt, Int.not_le, ge_iff_le, gt_iff_lt, not_or, not_and, Bool.cond_true_right, Bool.cond_true_left, Bool.cond_false_right, Bool.cond_false_left, bif_t, bif_f] at e) <;> (conv => whnf)) | (refine And.intro ?_ ?_; ((first | (with_reducible assumption) | (intro _; with_reducible assumption) | omega | (simp only [reduceCtorEq, ints_len, bools_len, Bool.not_false, Bool.not_true, List.length_map, decide_eq_true_eq, decide_eq_false_iff_not, Bool.not_eq_true', Bool.not_eq_false', Bool.and_eq_true, Bool.or_eq_true, Bool.and_eq_false_iff, Bool.or_eq_false_iff, beq_iff_eq, bne_iff_ne, beq_eq_false_iff_ne, bne_eq_false_iff_eq, Int.not_lt, Int.not_le, ge_iff_le, gt_iff_lt, not_or, not_and, Bool.cond_true_right, Bool.cond_true_left, Bool.cond_false_right, Bool.cond_false_left, bif_t, bif_f] at *; omega) | (intro hg; (try simp only [reduceCtorEq, ints_len, bools_len, Bool.not_false, Bool.not_true, List.length_map, decide_eq_true_eq, decide_eq_false_iff_not, Bool.not_eq_true', Bool.not_eq_false', Bool.and_eq_true, Bool.or_eq_true, Bool.and_eq_false_iff, Bool.or_eq_false_iff, beq_iff_eq, bne_iff_ne, beq_eq_false_iff_ne, bne_eq_false_iff_eq, Int.not_lt, Int.not_le, ge_iff_le, gt_iff_lt, not_or, not_and, Bool.cond_true_right, Bool.cond_true_left, Bool.cond_false_right, Bool.cond_false_left, bif_t, bif_f] at hg); first | (with_reducible assumption) | omega | (simp only [reduceCtorEq, ints_len, bools_len, Bool.not_false, Bool.not_true, List.length_map, decide_eq_true_eq, decide_eq_false_iff_not, Bool.not_eq_true', Bool.not_eq_false', Bool.and_eq_true, Bool.or_eq_true, Bool.and_eq_false_iff, Bool.or_eq_false_iff, beq_iff_eq, bne_iff_ne, beq_eq_false_iff_ne, bne_eq_false_iff_eq, Int.not_lt, Int.not_le, ge_iff_le, gt_iff_lt, not_or, not_and, Bool.cond_true_right, Bool.cond_true_left, Bool.cond_false_right, Bool.cond_false_left, bif_t, bif_f] at *; omega) | (refine ⟨?_, ?_⟩ <;> omega)) | (refine ⟨?_, ?_⟩ <;> omega) | (simp [*]; done) | grind)); (conv => whnf))))
  all_goals try (rw [map_len]; (refine ⟨[], false, false, ?_⟩; (conv => whnf); refine ⟨_, _, ⟨l, l.length, rfl, rfl, hl, hl, rfl, rfl⟩, ?_⟩; (conv => whnf)); (repeat' (first | ((with_reducible refine And.intro (fun (e : (_ : Bool) = true) => ?_) (fun (e : (_ : Bool) = false) => ?_)) <;> (try simp only [reduceCtorEq, ints_len, bools_len, Bool.not_false, Bool.not_true, List.length_map, decide_eq_true_eq, decide_eq_false_iff_not, Bool.not_eq_true', Bool.not_eq_false', Bool.and_eq_true, Bool.or_eq_true, Bool.and_eq_false_iff, Bool.or_eq_false_iff, beq_iff_eq, bne_iff_ne, beq_eq_false_iff_ne, bne_eq_false_iff_eq, Int.not_lt, Int.not_le, ge_iff_le, gt_iff_lt, not_or, not_and, Bool.cond_true_right, Bool.cond_true_left, Bool.cond_false_right, Bool.cond_false_left, bif_t, bif_f] at e) <;> (conv => whnf)) | ((with_reducible refine And.intro (fun (e : (_ : Bool) = false) => ?_) (fun (e : (_ : Bool) = true) => ?_)) <;> (try simp only [reduceCtorEq, ints_len, bools_len, Bool.not_false, Bool.not_true, List.length_map, decide_eq_true_eq, decide_eq_false_iff_not, Bool.not_eq_true', Bool.not_eq_false', Bool.and_eq_true, Bool.or_eq_true, Bool.and_eq_false_iff, Bool.or_eq_false_iff, beq_iff_eq, bne_iff_ne, beq_eq_false_iff_ne, bne_eq_false_iff_eq, Int.not_lt, Int.not_le, ge_iff_le, gt_iff_lt, not_or, not_and, Bool.cond_true_right, Bool.cond_true_left, Bool.cond_false_right, Bool.cond_false_left, bif_t, bif_f] at e) <;> (conv => whnf)) | (refine And.intro ?_ ?_; ((first | (with_reducible assumption) | (intro _; with_reducible assumption) | omega | (simp only [reduceCtorEq, ints_len, bools_len, Bool.not_false, Bool.not_true, List.length_map, decide_eq_true_eq, decide_eq_false_iff_not, Bool.not_eq_true', Bool.not_eq_false', Bool.and_eq_true, Bool.or_eq_true, Bool.and_eq_false_iff, Bool.or_eq_false_iff, beq_iff_eq, bne_iff_ne, beq_eq_false_iff_ne, bne_eq_false_iff_eq, Int.not_lt, Int.not_le, ge_iff_le, gt_iff_lt, not_or, not_and, Bool.cond_true_right, Bool.cond_true_left, Bool.cond_false_right, Bool.cond_false_left, bif_t, bif_f] at *; omega) | (intro hg; (try simp only [reduceCtorEq, ints_len, bools_len, Bool.not_false, Bool.not_true, List.length_map, decide_eq_true_eq, decide_eq_false_iff_not, Bool.not_eq_true', Bool.not_eq_false', Bool.and_eq_true, Bool.or_eq_true, Bool.and_eq_false_iff, Bool.or_eq_false_iff, beq_iff_eq, bne_iff_ne, beq_eq_false_iff_ne, bne_eq_false_iff_eq, Int.not_lt, Int.not_le, ge_iff_le, gt_iff_lt, not_or, not_and, Bool.cond_true_right, Bool.cond_true_left, Bool.cond_false_right, Bool.cond_false_left, bif_t, bif_f] at hg); first | (with_reducible assumption) | omega | (simp only [reduceCtorEq, ints_len, bools_len, Bool.not_false, Bool.not_true, List.length_map, decide_eq_true_eq, decide_eq_false_iff_not, Bool.not_eq_true', Bool.not_eq_false', Bool.and_eq_true, Bool.or_eq_true, Bool.and_eq_false_iff, Bool.or_eq_false_iff, beq_iff_eq, bne_iff_ne, beq_eq_false_iff_ne, bne_eq_false_iff_eq, Int.not_lt, Int.not_le, ge_iff_le, gt_iff_lt, not_or, not_and, Bool.cond_true_right, Bool.cond_true_left, Bool.cond_false_right, Bool.cond_false_left, bif_t, bif_f] at *; omega) | (refine ⟨?_, ?_⟩ <;> omega)) | (refine ⟨?_, ?_⟩ <;> omega) | (simp [*]; done) | grind)); (conv => whnf)))))
  · have e1 := e
    have ho : invOk l = false := by
      unfold invOk
      rcases e1 with h | h
      · rw [decide_eq_false (by omega)]; rfl
      · rw [h]; exact Bool.and_false _
    refine ⟨[.slot 2 true], ?_⟩
    conv => whnf
    unfold invL
    rw [ho]
    exact ⟨[0], by simp, .cons ⟨_, rfl, rfl, rfl⟩ .nil, .cons rfl (.cons rfl .nil)⟩
  · have e1 := e
    have ho : invOk l = true := by unfold invOk; rw [e1.2, decide_eq_true (by omega)]; rfl
    obtain ⟨c1, c2, c3⟩ := isOrd_iff.1 e1.2
    unfold invL
    rw [ho]
    have hz : List.replicate ((l.length : Nat) : Int).toNat [D.int .i64 0] = (invTo l 0).map inC := by
      rw [Int.toNat_natCast, invTo, zeros, List.map_replicate]
    have hz2 : List.replicate (((l.map inC).length : Nat) : Int).toNat [D.int .i64 0] = (invTo l 0).map inC := by
      rw [map_len, Int.toNat_natCast, invTo, zeros, List.map_replicate]
    refine ⟨[], [0, 4, 5], 1, fun n1 σ => ∃ i : Nat, i ≤ l.length ∧ n1 = l.length - i ∧ σ = (⟨[.one (.d (.sl 1 (l.map inC))), .junk, .junk, .junk, .one (.own 0), .di .i64 i, .junk, .junk, .junk, .junk, .junk, .junk, .junk, .junk, .junk, .junk, .junk, .junk, .junk, .junk, .junk, .junk, .junk, .junk, .junk, .junk, .junk, .junk, .junk, .junk, .junk, .junk, .junk], [.row 1 ((invTo l i).map inC)]⟩ : St), ?_, ?_⟩
    · refine ⟨l.length, ?_⟩
      conv => whnf
      refine ⟨0, by omega, by omega, ?_⟩
      rw [← hz]; try rw [map_len]
      rfl
    · rintro n1 _ ⟨i, hi, rfl, rfl⟩
      conv => whnf
      rw [map_len]
      ((with_reducible refine And.intro (fun (e : (_ : Bool) = true) => ?_) (fun (e : (_ : Bool) = false) => ?_)) <;> (try simp only [reduceCtorEq, ints_len, bools_len, Bool.not_false, Bool.not_true, List.length_map, decide_eq_true_eq, decide_eq_false_iff_not, Bool.not_eq_true', Bool.not_eq_false', Bool.and_eq_true, Bool.or_eq_true, Bool.and_eq_false_iff, Bool.or_eq_false_iff, beq_iff_eq, bne_iff_ne, beq_eq_false_iff_ne, bne_eq_false_iff_eq, Int.not_lt, Int.not_le, ge_iff_le, gt_iff_lt, not_or, not_and, Bool.cond_true_right, Bool.cond_true_left, Bool.cond_false_right, Bool.cond_false_left, bif_t, bif_f] at e) <;> (conv => whnf))
      · obtain ⟨x, hx⟩ := get_lt (l := l) (i := i) (by omega)
        have hxb := c1 x (List.mem_of_getElem? hx)
        obtain ⟨q, rfl⟩ := Int.eq_ofNat_of_zero_le hxb.1
        have hil := invTo_len l i
        obtain ⟨z, hz0⟩ := get_lt (l := invTo l i) (i := q) (by omega)
        have hset : (((invTo l i).map inC).set (q : Int).toNat [D.int .i64 i]) = (invTo l (i + 1)).map inC := by
          rw [invTo, gD_of hx, Int.toNat_natCast, List.map_set]
        (refine ⟨_, And.intro ⟨by omega, enc_get hx⟩ ?_⟩; (conv => whnf))
        refine And.intro ⟨by omega, by rw [map_len]; omega⟩ ?_
        show St.apply _ _ _ _ _ _ _
        unfold St.apply
        simp only [updsK, appK, putD, setK]
        unfold vcOps
        simp only [isLook, winAt]
        unfold actStep evM
        simp only [operand, nthK, strip]
        conv => whnf
        refine ⟨_, And.intro (enc_get hz0) ?_⟩
        conv => whnf
        rw [hset]
        try conv => whnf
        (refine And.intro ?_ ?_; ((first | (with_reducible assumption) | (intro _; with_reducible assumption) | omega | (simp only [reduceCtorEq, ints_len, bools_len, Bool.not_false, Bool.not_true, List.length_map, decide_eq_true_eq, decide_eq_false_iff_not, Bool.not_eq_true', Bool.not_eq_false', Bool.and_eq_true, Bool.or_eq_true, Bool.and_eq_false_iff, Bool.or_eq_false_iff, beq_iff_eq, bne_iff_ne, beq_eq_false_iff_ne, bne_eq_false_iff_eq, Int.not_lt, Int.not_le, ge_iff_le, gt_iff_lt, not_or, not_and, Bool.cond_true_right, Bool.cond_true_left, Bool.cond_false_right, Bool.cond_false_left, bif_t, bif_f] at *; omega) | (intro hg; (try simp only [reduceCtorEq, ints_len, bools_len, Bool.not_false, Bool.not_true, List.length_map, decide_eq_true_eq, decide_eq_false_iff_not, Bool.not_eq_true', Bool.not_eq_false', Bool.and_eq_true, Bool.or_eq_true, Bool.and_eq_false_iff, Bool.or_eq_false_iff, beq_iff_eq, bne_iff_ne, beq_eq_false_iff_ne, bne_eq_false_iff_eq, Int.not_lt, Int.not_le, ge_iff_le, gt_iff_lt, not_or, not_and, Bool.cond_true_right, Bool.cond_true_left, Bool.cond_false_right, Bool.cond_false_left, bif_t, bif_f] at hg); first | (with_reducible assumption) | omega | (simp only [reduceCtorEq, ints_len, bools_len, Bool.not_false, Bool.not_true, List.length_map, decide_eq_true_eq, decide_eq_false_iff_not, Bool.not_eq_true', Bool.not_eq_false', Bool.and_eq_true, Bool.or_eq_true, Bool.and_eq_false_iff, Bool.or_eq_false_iff, beq_iff_eq, bne_iff_ne, beq_eq_false_iff_ne, bne_eq_false_iff_eq, Int.not_lt, Int.not_le, ge_iff_le, gt_iff_lt, not_or, not_and, Bool.cond_true_right, Bool.cond_true_left, Bool.cond_false_right, Bool.cond_false_left, bif_t, bif_f] at *; omega) | (refine ⟨?_, ?_⟩ <;> omega)) | (refine ⟨?_, ?_⟩ <;> omega) | (simp [*]; done) | grind)); (conv => whnf))
        refine ⟨l.length - (i + 1), by omega, [], ?_⟩
        conv => whnf
        exact ⟨i + 1, by omega, rfl, rfl⟩
      · have hi' : i = l.length := by omega
        refine ⟨[], ?_⟩
        conv => whnf
        rw [hi']
        exact ⟨[0], by simp, .cons ⟨_, rfl, rfl, rfl⟩ .nil, .cons rfl (.cons rfl .nil)⟩
  · have ho : invOk l = false := by unfold invOk; rw [decide_eq_false (by omega)]; rfl
    refine ⟨[.slot 2 true], ?_⟩
    conv => whnf
    unfold invL
    rw [ho]
    exact ⟨[0], by simp, .cons ⟨_, rfl, rfl, rfl⟩ .nil, .cons rfl (.cons rfl .nil)⟩
def R8 : Ct := fun ss hp r out => ∃ l : List Int, ss = [.one (.d (.sl 1 (l.map inC)))] ∧ hp = [] ∧ r = .db true ∧ out = []
set_option maxHeartbeats 4000000 in
theorem ok8 : VSound Try.prog (8, R8) := by
  refine vsound (T := ty) (F := [(29, R29), (30, R30), (31, R31), (32, R32)]) (pl := []) (nw := true) (cuts := []) mix tyOk (.cons (ok29) (.cons (ok30) (.cons (ok31) (.cons (ok32) .nil)))) Try.func8 (by kernel_rfl) (by kernel_rfl) ?_
  rintro _ _ _ _ ⟨l, rfl, rfl, rfl, rfl⟩
  conv => whnf
  rw [map_len]
  (repeat' (first | ((with_reducible refine And.intro (fun (e : (_ : Bool) = true) => ?_) (fun (e : (_ : Bool) = false) => ?_)) <;> (try simp only [reduceCtorEq, ints_len, bools_len, Bool.not_false, Bool.not_true, List.length_map, decide_eq_true_eq, decide_eq_false_iff_not, Bool.not_eq_true', Bool.not_eq_false', Bool.and_eq_true, Bool.or_eq_true, Bool.and_eq_false_iff, Bool.or_eq_false_iff, beq_iff_eq, bne_iff_ne, beq_eq_false_iff_ne, bne_eq_false_iff_eq, Int.not_lt, Int.not_le, ge_iff_le, gt_iff_lt, not_or, not_and, Bool.cond_true_right, Bool.cond_true_left, Bool.cond_false_right, Bool.cond_false_left, bif_t, bif_f] at e) <;> (conv => whnf)) | ((with_reducible refine And.intro (fun (e : (_ : Bool) = false) => ?_) (fun (e : (_ : Bool) = true) => ?_)) <;> (try simp only [reduceCtorEq, ints_len, bools_len, Bool.not_false, Bool.not_true, List.length_map, decide_eq_true_eq, decide_eq_false_iff_not, Bool.not_eq_true', Bool.not_eq_false', Bool.and_eq_true, Bool.or_eq_true, Bool.and_eq_false_iff, Bool.or_eq_false_iff, beq_iff_eq, bne_iff_ne, beq_eq_false_iff_ne, bne_eq_false_iff_eq, Int.not_lt, Int.not_le, ge_iff_le, gt_iff_lt, not_or, not_and, Bool.cond_true_right, Bool.cond_true_left, Bool.cond_false_right, Bool.cond_false_left, bif_t, bif_f] at e) <;> (conv => whnf)) | (refine And.intro ?_ ?_; ((first | (with_reducible assumption) | (intro _; with_reducible assumption) | omega | (simp only [reduceCtorEq, ints_len, bools_len, Bool.not_false, Bool.not_true, List.length_map, decide_eq_true_eq, decide_eq_false_iff_not, Bool.not_eq_true', Bool.not_eq_false', Bool.and_eq_true, Bool.or_eq_true, Bool.and_eq_false_iff, Bool.or_eq_false_iff, beq_iff_eq, bne_iff_ne, beq_eq_false_iff_ne, bne_eq_false_iff_eq, Int.not_lt, Int.not_le, ge_iff_le, gt_iff_lt, not_or, not_and, Bool.cond_true_right, Bool.cond_true_left, Bool.cond_false_right, Bool.cond_false_left, bif_t, bif_f] at *; omega) | (intro hg; (try simp only [reduceCtorEq, ints_len, bools_len, Bool.not_false, Bool.not_true, List.length_map, decide_eq_true_eq, decide_eq_false_iff_not, Bool.not_eq_true', Bool.not_eq_false', Bool.and_eq_true, Bool.or_eq_true, Bool.and_eq_false_iff, Bool.or_eq_false_iff, beq_iff_eq, bne_iff_ne, beq_eq_false_iff_ne, bne_eq_false_iff_eq, Int.not_lt, Int.not_le, ge_iff_le, gt_iff_lt, not_or, not_and, Bool.cond_true_right, Bool.cond_true_left, Bool.cond_false_right, Bool.cond_false_left, bif_t, bif_f] at hg); first | (with_reducible assumption) | omega | (simp only [reduceCtorEq, ints_len, bools_len, Bool.not_false, Bool.not_true, List.length_map, decide_eq_true_eq, decide_eq_false_iff_not, Bool.not_eq_true', Bool.not_eq_false', Bool.and_eq_true, Bool.or_eq_true, Bool.and_eq_false_iff, Bool.or_eq_false_iff, beq_iff_eq, bne_iff_ne, beq_eq_false_iff_ne, bne_eq_false_iff_eq, Int.not_lt, Int.not_le, ge_iff_le, gt_iff_lt, not_or, not_and, Bool.cond_true_right, Bool.cond_true_left, Bool.cond_false_right, Bool.cond_false_left, bif_t, bif_f] at *; omega) | (refine ⟨?_, ?_⟩ <;> omega)) | (refine ⟨?_, ?_⟩ <;> omega) | (simp [*]; done) | grind)); (conv => whnf))))
  · (refine ⟨[], false, false, ?_⟩; (conv => whnf); refine ⟨_, _, ⟨rfl, rfl, rfl, rfl⟩, ?_⟩; (conv => whnf))
    (refine ⟨[], ?_⟩; (conv => whnf); refine ⟨[], .nil, .nil, ?_⟩; (conv => whnf))
  · have e1 := e
    (refine ⟨[], false, false, ?_⟩; (conv => whnf); refine ⟨_, _, ⟨l, rfl, rfl, by omega, rfl, rfl⟩, ?_⟩; (conv => whnf))
    (refine ⟨[], false, false, ?_⟩; (conv => whnf); refine ⟨_, _, ⟨l, rfl, rfl, by omega, rfl, rfl⟩, ?_⟩; (conv => whnf))
    have hil : (invL l).length < 4611686018427387904 := by
      unfold invL
      split
      · rw [invTo_len]; omega
      · simp
    generalize (if invOk l = true then (0 : Int) else 2) = B
    (refine ⟨[], false, false, ?_⟩; (conv => whnf); refine ⟨_, _, ⟨invL l, invL l, rfl, rfl, hil, rfl, rfl⟩, ?_⟩; (conv => whnf))
    (repeat (refine And.intro ?_ ?_; ((first | (with_reducible assumption) | (intro _; with_reducible assumption) | omega | (simp only [reduceCtorEq, ints_len, bools_len, Bool.not_false, Bool.not_true, List.length_map, decide_eq_true_eq, decide_eq_false_iff_not, Bool.not_eq_true', Bool.not_eq_false', Bool.and_eq_true, Bool.or_eq_true, Bool.and_eq_false_iff, Bool.or_eq_false_iff, beq_iff_eq, bne_iff_ne, beq_eq_false_iff_ne, bne_eq_false_iff_eq, Int.not_lt, Int.not_le, ge_iff_le, gt_iff_lt, not_or, not_and, Bool.cond_true_right, Bool.cond_true_left, Bool.cond_false_right, Bool.cond_false_left, bif_t, bif_f] at *; omega) | (intro hg; (try simp only [reduceCtorEq, ints_len, bools_len, Bool.not_false, Bool.not_true, List.length_map, decide_eq_true_eq, decide_eq_false_iff_not, Bool.not_eq_true', Bool.not_eq_false', Bool.and_eq_true, Bool.or_eq_true, Bool.and_eq_false_iff, Bool.or_eq_false_iff, beq_iff_eq, bne_iff_ne, beq_eq_false_iff_ne, bne_eq_false_iff_eq, Int.not_lt, Int.not_le, ge_iff_le, gt_iff_lt, not_or, not_and, Bool.cond_true_right, Bool.cond_true_left, Bool.cond_false_right, Bool.cond_false_left, bif_t, bif_f] at hg); first | (with_reducible assumption) | omega | (simp only [reduceCtorEq, ints_len, bools_len, Bool.not_false, Bool.not_true, List.length_map, decide_eq_true_eq, decide_eq_false_iff_not, Bool.not_eq_true', Bool.not_eq_false', Bool.and_eq_true, Bool.or_eq_true, Bool.and_eq_false_iff, Bool.or_eq_false_iff, beq_iff_eq, bne_iff_ne, beq_eq_false_iff_ne, bne_eq_false_iff_eq, Int.not_lt, Int.not_le, ge_iff_le, gt_iff_lt, not_or, not_and, Bool.cond_true_right, Bool.cond_true_left, Bool.cond_false_right, Bool.cond_false_left, bif_t, bif_f] at *; omega) | (refine ⟨?_, ?_⟩ <;> omega)) | (refine ⟨?_, ?_⟩ <;> omega) | (simp [*]; done) | grind)); (conv => whnf)))
    (repeat' (first | ((with_reducible refine And.intro (fun (e : (_ : Bool) = true) => ?_) (fun (e : (_ : Bool) = false) => ?_)) <;> (try simp only [reduceCtorEq, ints_len, bools_len, Bool.not_false, Bool.not_true, List.length_map, decide_eq_true_eq, decide_eq_false_iff_not, Bool.not_eq_true', Bool.not_eq_false', Bool.and_eq_true, Bool.or_eq_true, Bool.and_eq_false_iff, Bool.or_eq_false_iff, beq_iff_eq, bne_iff_ne, beq_eq_false_iff_ne, bne_eq_false_iff_eq, Int.not_lt, Int.not_le, ge_iff_le, gt_iff_lt, not_or, not_and, Bool.cond_true_right, Bool.cond_true_left, Bool.cond_false_right, Bool.cond_false_left, bif_t, bif_f] at e) <;> (conv => whnf)) | ((with_reducible refine And.intro (fun (e : (_ : Bool) = false) => ?_) (fun (e : (_ : Bool) = true) => ?_)) <;> (try simp only [reduceCtorEq, ints_len, bools_len, Bool.not_false, Bool.not_true, List.length_map, decide_eq_true_eq, decide_eq_false_iff_not, Bool.not_eq_true', Bool.not_eq_false', Bool.and_eq_true, Bool.or_eq_true, Bool.and_eq_false_iff, Bool.or_eq_false_iff, beq_iff_eq, bne_iff_ne, beq_eq_false_iff_ne, bne_eq_false_iff_eq, Int.not_lt, Int.not_le, ge_iff_le, gt_iff_lt, not_or, not_and, Bool.cond_true_right, Bool.cond_true_left, Bool.cond_false_right, Bool.cond_false_left, bif_t, bif_f] at e) <;> (conv => whnf)) | (refine And.intro ?_ ?_; ((first | (with_reducible assumption) | (intro _; with_reducible assumption) | omega | (simp only [reduceCtorEq, ints_len, bools_len, Bool.not_false, Bool.not_true, List.length_map, decide_eq_true_eq, decide_eq_false_iff_not, Bool.not_eq_true', Bool.not_eq_false', Bool.and_eq_true, Bool.or_eq_true, Bool.and_eq_false_iff, Bool.or_eq_false_iff, beq_iff_eq, bne_iff_ne, beq_eq_false_iff_ne, bne_eq_false_iff_eq, Int.not_lt, Int.not_le, ge_iff_le, gt_iff_lt, not_or, not_and, Bool.cond_true_right, Bool.cond_true_left, Bool.cond_false_right, Bool.cond_false_left, bif_t, bif_f] at *; omega) | (intro hg; (try simp only [reduceCtorEq, ints_len, bools_len, Bool.not_false, Bool.not_true, List.length_map, decide_eq_true_eq, decide_eq_false_iff_not, Bool.not_eq_true', Bool.not_eq_false', Bool.and_eq_true, Bool.or_eq_true, Bool.and_eq_false_iff, Bool.or_eq_false_iff, beq_iff_eq, bne_iff_ne, beq_eq_false_iff_ne, bne_eq_false_iff_eq, Int.not_lt, Int.not_le, ge_iff_le, gt_iff_lt, not_or, not_and, Bool.cond_true_right, Bool.cond_true_left, Bool.cond_false_right, Bool.cond_false_left, bif_t, bif_f] at hg); first | (with_reducible assumption) | omega | (simp only [reduceCtorEq, ints_len, bools_len, Bool.not_false, Bool.not_true, List.length_map, decide_eq_true_eq, decide_eq_false_iff_not, Bool.not_eq_true', Bool.not_eq_false', Bool.and_eq_true, Bool.or_eq_true, Bool.and_eq_false_iff, Bool.or_eq_false_iff, beq_iff_eq, bne_iff_ne, beq_eq_false_iff_ne, bne_eq_false_iff_eq, Int.not_lt, Int.not_le, ge_iff_le, gt_iff_lt, not_or, not_and, Bool.cond_true_right, Bool.cond_true_left, Bool.cond_false_right, Bool.cond_false_left, bif_t, bif_f] at *; omega) | (refine ⟨?_, ?_⟩ <;> omega)) | (refine ⟨?_, ?_⟩ <;> omega) | (simp [*]; done) | grind)); (conv => whnf))))
    · (refine ⟨[], false, false, ?_⟩; (conv => whnf); refine ⟨_, _, ⟨rfl, rfl, rfl, rfl⟩, ?_⟩; (conv => whnf))
      (repeat' (first | ((with_reducible refine And.intro (fun (e : (_ : Bool) = true) => ?_) (fun (e : (_ : Bool) = false) => ?_)) <;> (try simp only [reduceCtorEq, ints_len, bools_len, Bool.not_false, Bool.not_true, List.length_map, decide_eq_true_eq, decide_eq_false_iff_not, Bool.not_eq_true', Bool.not_eq_false', Bool.and_eq_true, Bool.or_eq_true, Bool.and_eq_false_iff, Bool.or_eq_false_iff, beq_iff_eq, bne_iff_ne, beq_eq_false_iff_ne, bne_eq_false_iff_eq, Int.not_lt, Int.not_le, ge_iff_le, gt_iff_lt, not_or, not_and, Bool.cond_true_right, Bool.cond_true_left, Bool.cond_false_right, Bool.cond_false_left, bif_t, bif_f] at e) <;> (conv => whnf)) | ((with_reducible refine And.intro (fun (e : (_ : Bool) = false) => ?_) (fun (e : (_ : Bool) = true) => ?_)) <;> (try simp only [reduceCtorEq, ints_len, bools_len, Bool.not_false, Bool.not_true, List.length_map, decide_eq_true_eq, decide_eq_false_iff_not, Bool.not_eq_true', Bool.not_eq_false', Bool.and_eq_true, Bool.or_eq_true, Bool.and_eq_false_iff, Bool.or_eq_false_iff, beq_iff_eq, bne_iff_ne, beq_eq_false_iff_ne, bne_eq_false_iff_eq, Int.not_lt, Int.not_le, ge_iff_le, gt_iff_lt, not_or, not_and, Bool.cond_true_right, Bool.cond_true_left, Bool.cond_false_right, Bool.cond_false_left, bif_t, bif_f] at e) <;> (conv => whnf)) | (refine And.intro ?_ ?_; ((first | (with_reducible assumption) | (intro _; with_reducible assumption) | omega | (simp only [reduceCtorEq, ints_len, bools_len, Bool.not_false, Bool.not_true, List.length_map, decide_eq_true_eq, decide_eq_false_iff_not, Bool.not_eq_true', Bool.not_eq_false', Bool.and_eq_true, Bool.or_eq_true, Bool.and_eq_false_iff, Bool.or_eq_false_iff, beq_iff_eq, bne_iff_ne, beq_eq_false_iff_ne, bne_eq_false_iff_eq, Int.not_lt, Int.not_le, ge_iff_le, gt_iff_lt, not_or, not_and, Bool.cond_true_right, Bool.cond_true_left, Bool.cond_false_right, Bool.cond_false_left, bif_t, bif_f] at *; omega) | (intro hg; (try simp only [reduceCtorEq, ints_len, bools_len, Bool.not_false, Bool.not_true, List.length_map, decide_eq_true_eq, decide_eq_false_iff_not, Bool.not_eq_true', Bool.not_eq_false', Bool.and_eq_true, Bool.or_eq_true, Bool.and_eq_false_iff, Bool.or_eq_false_iff, beq_iff_eq, bne_iff_ne, beq_eq_false_iff_ne, bne_eq_false_iff_eq, Int.not_lt, Int.not_le, ge_iff_le, gt_iff_lt, not_or, not_and, Bool.cond_true_right, Bool.cond_true_left, Bool.cond_false_right, Bool.cond_false_left, bif_t, bif_f] at hg); first | (with_reducible assumption) | omega | (simp only [reduceCtorEq, ints_len, bools_len, Bool.not_false, Bool.not_true, List.length_map, decide_eq_true_eq, decide_eq_false_iff_not, Bool.not_eq_true', Bool.not_eq_false', Bool.and_eq_true, Bool.or_eq_true, Bool.and_eq_false_iff, Bool.or_eq_false_iff, beq_iff_eq, bne_iff_ne, beq_eq_false_iff_ne, bne_eq_false_iff_eq, Int.not_lt, Int.not_le, ge_iff_le, gt_iff_lt, not_or, not_and, Bool.cond_true_right, Bool.cond_true_left, Bool.cond_false_right, Bool.cond_false_left, bif_t, bif_f] at *; omega) | (refine ⟨?_, ?_⟩ <;> omega)) | (refine ⟨?_, ?_⟩ <;> omega) | (simp [*]; done) | grind)); (conv => whnf))))
      all_goals ((refine ⟨[], ?_⟩; (conv => whnf); refine ⟨[], .nil, .nil, ?_⟩; (conv => whnf)); congr 1; simp)
    all_goals (exfalso; simp at e)
end Go.Proofs.Ytahdihhhankhdaa.V

