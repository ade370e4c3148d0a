/-
  V: contracts of functions, texts of the session's own hand, in one file.
-/
import Derived.Test.YtahdihhhankhdaaGFuseSplits1
set_option linter.unusedVariables false
set_option linter.unusedSimpArgs false
set_option maxRecDepth 100000
set_option linter.all false
set_option linter.unnecessarySimpa false
set_option linter.deprecated false
-- Vt
namespace Go.Proofs.Ytahdihhhankhdaa.V
open Go.Proofs.YtahdihhhankhdaaVY Go.RowKit
def R62 : Ct := fun ss hp r out => ∃ n : Int, ss = [.di .i64 n] ∧ hp = [] ∧ r = .db (decide (1 ≤ n ∧ n ≤ 64)) ∧ out = []
set_option maxHeartbeats 4000000 in
theorem ok62 : VSound Try.prog (62, R62) := by
  refine vsound (T := ty) (F := []) (pl := []) (nw := true) (cuts := []) mix tyOk .nil Try.func62 (by kernel_rfl) (by kernel_rfl) ?_
  rintro _ _ _ _ ⟨n, rfl, rfl, rfl, rfl⟩
  conv => whnf
  (repeat' (first | ((with_reducible refine And.intro (fun (e : (_ : Bool) = true) => ?_) (fun (e : (_ : Bool) = false) => ?_)) <;> (try simp only [reduceCtorEq, ints_len, bools_len, Bool.not_false, Bool.not_true, List.length_map, decide_eq_true_eq, decide_eq_false_iff_not, Bool.not_eq_true', Bool.not_eq_false', Bool.and_eq_true, Bool.or_eq_true, Bool.and_eq_false_iff, Bool.or_eq_false_iff, beq_iff_eq, bne_iff_ne, beq_eq_false_iff_ne, bne_eq_false_iff_eq, Int.not_lt, Int.not_le, ge_iff_le, gt_iff_lt, not_or, not_and, Bool.cond_true_right, Bool.cond_true_left, Bool.cond_false_right, Bool.cond_false_left, bif_t, bif_f] at e) <;> (conv => whnf)) | ((with_reducible refine And.intro (fun (e : (_ : Bool) = false) => ?_) (fun (e : (_ : Bool) = true) => ?_)) <;> (try simp only [reduceCtorEq, ints_len, bools_len, Bool.not_false, Bool.not_true, List.length_map, decide_eq_true_eq, decide_eq_false_iff_not, Bool.not_eq_true', Bool.not_eq_false', Bool.and_eq_true, Bool.or_eq_true, Bool.and_eq_false_iff, Bool.or_eq_false_iff, beq_iff_eq, bne_iff_ne, beq_eq_false_iff_ne, bne_eq_false_iff_eq, Int.not_lt, Int.not_le, ge_iff_le, gt_iff_lt, not_or, not_and, Bool.cond_true_right, Bool.cond_true_left, Bool.cond_false_right, Bool.cond_false_left, bif_t, bif_f] at e) <;> (conv => whnf)) | (refine And.intro ?_ ?_; ((first | (with_reducible assumption) | (intro _; with_reducible assumption) | omega | (simp only [reduceCtorEq, ints_len, bools_len, Bool.not_false, Bool.not_true, List.length_map, decide_eq_true_eq, decide_eq_false_iff_not, Bool.not_eq_true', Bool.not_eq_false', Bool.and_eq_true, Bool.or_eq_true, Bool.and_eq_false_iff, Bool.or_eq_false_iff, beq_iff_eq, bne_iff_ne, beq_eq_false_iff_ne, bne_eq_false_iff_eq, Int.not_lt, Int.not_le, ge_iff_le, gt_iff_lt, not_or, not_and, Bool.cond_true_right, Bool.cond_true_left, Bool.cond_false_right, Bool.cond_false_left, bif_t, bif_f] at *; omega) | (intro hg; (try simp only [reduceCtorEq, ints_len, bools_len, Bool.not_false, Bool.not_true, List.length_map, decide_eq_true_eq, decide_eq_false_iff_not, Bool.not_eq_true', Bool.not_eq_false', Bool.and_eq_true, Bool.or_eq_true, Bool.and_eq_false_iff, Bool.or_eq_false_iff, beq_iff_eq, bne_iff_ne, beq_eq_false_iff_ne, bne_eq_false_iff_eq, Int.not_lt, Int.not_le, ge_iff_le, gt_iff_lt, not_or, not_and, Bool.cond_true_right, Bool.cond_true_left, Bool.cond_false_right, Bool.cond_false_left, bif_t, bif_f] at hg); first | (with_reducible assumption) | omega | (simp only [reduceCtorEq, ints_len, bools_len, Bool.not_false, Bool.not_true, List.length_map, decide_eq_true_eq, decide_eq_false_iff_not, Bool.not_eq_true', Bool.not_eq_false', Bool.and_eq_true, Bool.or_eq_true, Bool.and_eq_false_iff, Bool.or_eq_false_iff, beq_iff_eq, bne_iff_ne, beq_eq_false_iff_ne, bne_eq_false_iff_eq, Int.not_lt, Int.not_le, ge_iff_le, gt_iff_lt, not_or, not_and, Bool.cond_true_right, Bool.cond_true_left, Bool.cond_false_right, Bool.cond_false_left, bif_t, bif_f] at *; omega) | (refine ⟨?_, ?_⟩ <;> omega)) | (refine ⟨?_, ?_⟩ <;> omega) | (simp [*]; done) | grind)); (conv => whnf))))
  (refine ⟨[], ?_⟩; (conv => whnf); refine ⟨[], .nil, .nil, ?_⟩; (conv => whnf))
  congr 1
  grind
def R129 : Ct := fun ss hp r out => ∃ n : Int, ss = [.di .i64 n] ∧ hp = [] ∧ r = .db (isNum n) ∧ out = []
set_option maxHeartbeats 4000000 in
theorem ok129 : VSound Try.prog (129, R129) := by
  refine vsound (T := ty) (F := []) (pl := []) (nw := true) (cuts := []) mix tyOk .nil Try.func129 (by kernel_rfl) (by kernel_rfl) ?_
  rintro _ _ _ _ ⟨n, rfl, rfl, rfl, rfl⟩
  conv => whnf
  (repeat' (first | ((with_reducible refine And.intro (fun (e : (_ : Bool) = true) => ?_) (fun (e : (_ : Bool) = false) => ?_)) <;> (try simp only [reduceCtorEq, ints_len, bools_len, Bool.not_false, Bool.not_true, List.length_map, decide_eq_true_eq, decide_eq_false_iff_not, Bool.not_eq_true', Bool.not_eq_false', Bool.and_eq_true, Bool.or_eq_true, Bool.and_eq_false_iff, Bool.or_eq_false_iff, beq_iff_eq, bne_iff_ne, beq_eq_false_iff_ne, bne_eq_false_iff_eq, Int.not_lt, Int.not_le, ge_iff_le, gt_iff_lt, not_or, not_and, Bool.cond_true_right, Bool.cond_true_left, Bool.cond_false_right, Bool.cond_false_left, bif_t, bif_f] at e) <;> (conv => whnf)) | ((with_reducible refine And.intro (fun (e : (_ : Bool) = false) => ?_) (fun (e : (_ : Bool) = true) => ?_)) <;> (try simp only [reduceCtorEq, ints_len, bools_len, Bool.not_false, Bool.not_true, List.length_map, decide_eq_true_eq, decide_eq_false_iff_not, Bool.not_eq_true', Bool.not_eq_false', Bool.and_eq_true, Bool.or_eq_true, Bool.and_eq_false_iff, Bool.or_eq_false_iff, beq_iff_eq, bne_iff_ne, beq_eq_false_iff_ne, bne_eq_false_iff_eq, Int.not_lt, Int.not_le, ge_iff_le, gt_iff_lt, not_or, not_and, Bool.cond_true_right, Bool.cond_true_left, Bool.cond_false_right, Bool.cond_false_left, bif_t, bif_f] at e) <;> (conv => whnf)) | (refine And.intro ?_ ?_; ((first | (with_reducible assumption) | (intro _; with_reducible assumption) | omega | (simp only [reduceCtorEq, ints_len, bools_len, Bool.not_false, Bool.not_true, List.length_map, decide_eq_true_eq, decide_eq_false_iff_not, Bool.not_eq_true', Bool.not_eq_false', Bool.and_eq_true, Bool.or_eq_true, Bool.and_eq_false_iff, Bool.or_eq_false_iff, beq_iff_eq, bne_iff_ne, beq_eq_false_iff_ne, bne_eq_false_iff_eq, Int.not_lt, Int.not_le, ge_iff_le, gt_iff_lt, not_or, not_and, Bool.cond_true_right, Bool.cond_true_left, Bool.cond_false_right, Bool.cond_false_left, bif_t, bif_f] at *; omega) | (intro hg; (try simp only [reduceCtorEq, ints_len, bools_len, Bool.not_false, Bool.not_true, List.length_map, decide_eq_true_eq, decide_eq_false_iff_not, Bool.not_eq_true', Bool.not_eq_false', Bool.and_eq_true, Bool.or_eq_true, Bool.and_eq_false_iff, Bool.or_eq_false_iff, beq_iff_eq, bne_iff_ne, beq_eq_false_iff_ne, bne_eq_false_iff_eq, Int.not_lt, Int.not_le, ge_iff_le, gt_iff_lt, not_or, not_and, Bool.cond_true_right, Bool.cond_true_left, Bool.cond_false_right, Bool.cond_false_left, bif_t, bif_f] at hg); first | (with_reducible assumption) | omega | (simp only [reduceCtorEq, ints_len, bools_len, Bool.not_false, Bool.not_true, List.length_map, decide_eq_true_eq, decide_eq_false_iff_not, Bool.not_eq_true', Bool.not_eq_false', Bool.and_eq_true, Bool.or_eq_true, Bool.and_eq_false_iff, Bool.or_eq_false_iff, beq_iff_eq, bne_iff_ne, beq_eq_false_iff_ne, bne_eq_false_iff_eq, Int.not_lt, Int.not_le, ge_iff_le, gt_iff_lt, not_or, not_and, Bool.cond_true_right, Bool.cond_true_left, Bool.cond_false_right, Bool.cond_false_left, bif_t, bif_f] at *; omega) | (refine ⟨?_, ?_⟩ <;> omega)) | (refine ⟨?_, ?_⟩ <;> omega) | (simp [*]; done) | grind)); (conv => whnf))))
  (refine ⟨[], ?_⟩; (conv => whnf); refine ⟨[], .nil, .nil, ?_⟩; (conv => whnf))
  congr 1
  unfold isNum
  grind
theorem prod_zero : ∀ {l : List Int}, l.any (fun n => decide (n = 0)) = true → prod l = 0
  | x :: l, h => by
    rw [List.any_cons, Bool.or_eq_true] at h
    rcases h with h | h
    · have := of_decide_eq_true h; subst this; rw [prod, Int.zero_mul]
    · rw [prod, prod_zero h, Int.mul_zero]
theorem prod_ge : ∀ {l : List Int}, (∀ n ∈ l, 1 ≤ n) → 1 ≤ prod l
  | [], _ => by decide
  | x :: l, h => by
    have h1 := h x (List.mem_cons_self ..)
    have h2 := prod_ge fun n hn => h n (List.mem_cons_of_mem _ hn)
    rw [prod]
    have := Int.mul_le_mul h1 h2 (by decide) (by omega)
    omega
theorem any_take {α : Type} {p : α → Bool} {l : List α} {i : Nat} {x : α} (h : l[i]? = some x) : (l.take (i + 1)).any p = ((l.take i).any p || p x) := by
  rw [List.take_add_one, h, List.any_append]; simp
def R59 : Ct := fun ss hp r out => ∃ l : List Int, ss = [.one (.d (.sl 1 (l.map inC)))] ∧ hp = [] ∧ l.length < 4611686018427387904 ∧ r = .di .i64 (many l) ∧ out = []
set_option maxHeartbeats 4000000 in
theorem ok59 : VSound Try.prog (59, R59) := by
  refine vsound (T := ty) (F := []) (pl := []) (nw := true) (cuts := []) mix tyOk .nil Try.func59 (by kernel_rfl) (by kernel_rfl) ?_
  rintro _ _ _ _ ⟨l, rfl, rfl, hl, rfl, rfl⟩
  conv => whnf
  (repeat' (first | ((with_reducible refine And.intro (fun (e : (_ : Bool) = true) => ?_) (fun (e : (_ : Bool) = false) => ?_)) <;> (try simp only [reduceCtorEq, ints_len, bools_len, Bool.not_false, Bool.not_true, List.length_map, decide_eq_true_eq, decide_eq_false_iff_not, Bool.not_eq_true', Bool.not_eq_false', Bool.and_eq_true, Bool.or_eq_true, Bool.and_eq_false_iff, Bool.or_eq_false_iff, beq_iff_eq, bne_iff_ne, beq_eq_false_iff_ne, bne_eq_false_iff_eq, Int.not_lt, Int.not_le, ge_iff_le, gt_iff_lt, not_or, not_and, Bool.cond_true_right, Bool.cond_true_left, Bool.cond_false_right, Bool.cond_false_left, bif_t, bif_f] at e) <;> (conv => whnf)) | ((with_reducible refine And.intro (fun (e : (_ : Bool) = false) => ?_) (fun (e : (_ : Bool) = true) => ?_)) <;> (try simp only [reduceCtorEq, ints_len, bools_len, Bool.not_false, Bool.not_true, List.length_map, decide_eq_true_eq, decide_eq_false_iff_not, Bool.not_eq_true', Bool.not_eq_false', Bool.and_eq_true, Bool.or_eq_true, Bool.and_eq_false_iff, Bool.or_eq_false_iff, beq_iff_eq, bne_iff_ne, beq_eq_false_iff_ne, bne_eq_false_iff_eq, Int.not_lt, Int.not_le, ge_iff_le, gt_iff_lt, not_or, not_and, Bool.cond_true_right, Bool.cond_true_left, Bool.cond_false_right, Bool.cond_false_left, bif_t, bif_f] at e) <;> (conv => whnf)) | (refine And.intro ?_ ?_; ((first | (with_reducible assumption) | (intro _; with_reducible assumption) | omega | (simp only [reduceCtorEq, ints_len, bools_len, Bool.not_false, Bool.not_true, List.length_map, decide_eq_true_eq, decide_eq_false_iff_not, Bool.not_eq_true', Bool.not_eq_false', Bool.and_eq_true, Bool.or_eq_true, Bool.and_eq_false_iff, Bool.or_eq_false_iff, beq_iff_eq, bne_iff_ne, beq_eq_false_iff_ne, bne_eq_false_iff_eq, Int.not_lt, Int.not_le, ge_iff_le, gt_iff_lt, not_or, not_and, Bool.cond_true_right, Bool.cond_true_left, Bool.cond_false_right, Bool.cond_false_left, bif_t, bif_f] at *; omega) | (intro hg; (try simp only [reduceCtorEq, ints_len, bools_len, Bool.not_false, Bool.not_true, List.length_map, decide_eq_true_eq, decide_eq_false_iff_not, Bool.not_eq_true', Bool.not_eq_false', Bool.and_eq_true, Bool.or_eq_true, Bool.and_eq_false_iff, Bool.or_eq_false_iff, beq_iff_eq, bne_iff_ne, beq_eq_false_iff_ne, bne_eq_false_iff_eq, Int.not_lt, Int.not_le, ge_iff_le, gt_iff_lt, not_or, not_and, Bool.cond_true_right, Bool.cond_true_left, Bool.cond_false_right, Bool.cond_false_left, bif_t, bif_f] at hg); first | (with_reducible assumption) | omega | (simp only [reduceCtorEq, ints_len, bools_len, Bool.not_false, Bool.not_true, List.length_map, decide_eq_true_eq, decide_eq_false_iff_not, Bool.not_eq_true', Bool.not_eq_false', Bool.and_eq_true, Bool.or_eq_true, Bool.and_eq_false_iff, Bool.or_eq_false_iff, beq_iff_eq, bne_iff_ne, beq_eq_false_iff_ne, bne_eq_false_iff_eq, Int.not_lt, Int.not_le, ge_iff_le, gt_iff_lt, not_or, not_and, Bool.cond_true_right, Bool.cond_true_left, Bool.cond_false_right, Bool.cond_false_left, bif_t, bif_f] at *; omega) | (refine ⟨?_, ?_⟩ <;> omega)) | (refine ⟨?_, ?_⟩ <;> omega) | (simp [*]; done) | grind)); (conv => whnf))))
  · have e1 := e
    (refine ⟨[], ?_⟩; (conv => whnf); refine ⟨[], .nil, .nil, ?_⟩; (conv => whnf))
    congr 1
    unfold many
    rw [if_pos (by omega)]
  · have e1 := e
    refine ⟨[], [0, 3, 4], 0, fun n σ => ∃ i : Nat, i ≤ l.length ∧ n = l.length - i ∧ (∀ j < i, ∀ y, l[j]? = some y → 0 ≤ y ∧ y ≤ 400) ∧ σ = (⟨[.one (.d (.sl 1 (l.map inC))), .junk, .junk, .di .i64 (if (l.take i).any (fun n => decide (n = 0)) then 0 else 1), .di .i64 i, .junk, .junk, .junk, .junk, .junk, .junk, .junk, .junk, .junk, .junk, .junk, .junk, .junk, .junk, .junk, .junk, .junk, .junk, .junk, .junk, .junk, .junk, .junk, .junk, .junk, .junk, .junk, .junk, .junk, .junk, .junk, .junk, .junk, .junk, .junk, .junk, .junk, .junk, .junk, .junk, .junk, .junk, .junk, .junk, .junk, .junk, .junk, .junk, .junk, .junk, .junk], []⟩ : St), ?_, ?_⟩
    · refine ⟨l.length, ?_⟩
      conv => whnf
      exact ⟨0, by omega, by omega, by omega, rfl⟩
    · rintro n _ ⟨i, hi, rfl, hall, rfl⟩
      conv => whnf
      ((with_reducible refine And.intro (fun (e : (_ : Bool) = true) => ?_) (fun (e : (_ : Bool) = false) => ?_)) <;> (try simp only [reduceCtorEq, ints_len, bools_len, Bool.not_false, Bool.not_true, List.length_map, decide_eq_true_eq, decide_eq_false_iff_not, Bool.not_eq_true', Bool.not_eq_false', Bool.and_eq_true, Bool.or_eq_true, Bool.and_eq_false_iff, Bool.or_eq_false_iff, beq_iff_eq, bne_iff_ne, beq_eq_false_iff_ne, bne_eq_false_iff_eq, Int.not_lt, Int.not_le, ge_iff_le, gt_iff_lt, not_or, not_and, Bool.cond_true_right, Bool.cond_true_left, Bool.cond_false_right, Bool.cond_false_left, bif_t, bif_f] at e) <;> (conv => whnf))
      · obtain ⟨x, hx⟩ := get_lt (l := l) (i := i) (by omega)
        have ha := any_take (p := fun n : Int => decide (n = 0)) hx
        (refine ⟨_, And.intro ⟨by omega, enc_get hx⟩ ?_⟩; (conv => whnf))
        (repeat (refine And.intro ?_ ?_; ((first | (with_reducible assumption) | (intro _; with_reducible assumption) | omega | (simp only [reduceCtorEq, ints_len, bools_len, Bool.not_false, Bool.not_true, List.length_map, decide_eq_true_eq, decide_eq_false_iff_not, Bool.not_eq_true', Bool.not_eq_false', Bool.and_eq_true, Bool.or_eq_true, Bool.and_eq_false_iff, Bool.or_eq_false_iff, beq_iff_eq, bne_iff_ne, beq_eq_false_iff_ne, bne_eq_false_iff_eq, Int.not_lt, Int.not_le, ge_iff_le, gt_iff_lt, not_or, not_and, Bool.cond_true_right, Bool.cond_true_left, Bool.cond_false_right, Bool.cond_false_left, bif_t, bif_f] at *; omega) | (intro hg; (try simp only [reduceCtorEq, ints_len, bools_len, Bool.not_false, Bool.not_true, List.length_map, decide_eq_true_eq, decide_eq_false_iff_not, Bool.not_eq_true', Bool.not_eq_false', Bool.and_eq_true, Bool.or_eq_true, Bool.and_eq_false_iff, Bool.or_eq_false_iff, beq_iff_eq, bne_iff_ne, beq_eq_false_iff_ne, bne_eq_false_iff_eq, Int.not_lt, Int.not_le, ge_iff_le, gt_iff_lt, not_or, not_and, Bool.cond_true_right, Bool.cond_true_left, Bool.cond_false_right, Bool.cond_false_left, bif_t, bif_f] at hg); first | (with_reducible assumption) | omega | (simp only [reduceCtorEq, ints_len, bools_len, Bool.not_false, Bool.not_true, List.length_map, decide_eq_true_eq, decide_eq_false_iff_not, Bool.not_eq_true', Bool.not_eq_false', Bool.and_eq_true, Bool.or_eq_true, Bool.and_eq_false_iff, Bool.or_eq_false_iff, beq_iff_eq, bne_iff_ne, beq_eq_false_iff_ne, bne_eq_false_iff_eq, Int.not_lt, Int.not_le, ge_iff_le, gt_iff_lt, not_or, not_and, Bool.cond_true_right, Bool.cond_true_left, Bool.cond_false_right, Bool.cond_false_left, bif_t, bif_f] at *; omega) | (refine ⟨?_, ?_⟩ <;> omega)) | (refine ⟨?_, ?_⟩ <;> omega) | (simp [*]; done) | grind)); (conv => whnf)))
        (refine ⟨_, And.intro (fun _ => ⟨by omega, enc_get hx⟩) ?_⟩; (conv => whnf))
        (repeat (refine And.intro ?_ ?_; ((first | (with_reducible assumption) | (intro _; with_reducible assumption) | omega | (simp only [reduceCtorEq, ints_len, bools_len, Bool.not_false, Bool.not_true, List.length_map, decide_eq_true_eq, decide_eq_false_iff_not, Bool.not_eq_true', Bool.not_eq_false', Bool.and_eq_true, Bool.or_eq_true, Bool.and_eq_false_iff, Bool.or_eq_false_iff, beq_iff_eq, bne_iff_ne, beq_eq_false_iff_ne, bne_eq_false_iff_eq, Int.not_lt, Int.not_le, ge_iff_le, gt_iff_lt, not_or, not_and, Bool.cond_true_right, Bool.cond_true_left, Bool.cond_false_right, Bool.cond_false_left, bif_t, bif_f] at *; omega) | (intro hg; (try simp only [reduceCtorEq, ints_len, bools_len, Bool.not_false, Bool.not_true, List.length_map, decide_eq_true_eq, decide_eq_false_iff_not, Bool.not_eq_true', Bool.not_eq_false', Bool.and_eq_true, Bool.or_eq_true, Bool.and_eq_false_iff, Bool.or_eq_false_iff, beq_iff_eq, bne_iff_ne, beq_eq_false_iff_ne, bne_eq_false_iff_eq, Int.not_lt, Int.not_le, ge_iff_le, gt_iff_lt, not_or, not_and, Bool.cond_true_right, Bool.cond_true_left, Bool.cond_false_right, Bool.cond_false_left, bif_t, bif_f] at hg); first | (with_reducible assumption) | omega | (simp only [reduceCtorEq, ints_len, bools_len, Bool.not_false, Bool.not_true, List.length_map, decide_eq_true_eq, decide_eq_false_iff_not, Bool.not_eq_true', Bool.not_eq_false', Bool.and_eq_true, Bool.or_eq_true, Bool.and_eq_false_iff, Bool.or_eq_false_iff, beq_iff_eq, bne_iff_ne, beq_eq_false_iff_ne, bne_eq_false_iff_eq, Int.not_lt, Int.not_le, ge_iff_le, gt_iff_lt, not_or, not_and, Bool.cond_true_right, Bool.cond_true_left, Bool.cond_false_right, Bool.cond_false_left, bif_t, bif_f] at *; omega) | (refine ⟨?_, ?_⟩ <;> omega)) | (refine ⟨?_, ?_⟩ <;> omega) | (simp [*]; done) | grind)); (conv => whnf)))
        ((with_reducible refine And.intro (fun (e : (_ : Bool) = true) => ?_) (fun (e : (_ : Bool) = false) => ?_)) <;> (try simp only [reduceCtorEq, ints_len, bools_len, Bool.not_false, Bool.not_true, List.length_map, decide_eq_true_eq, decide_eq_false_iff_not, Bool.not_eq_true', Bool.not_eq_false', Bool.and_eq_true, Bool.or_eq_true, Bool.and_eq_false_iff, Bool.or_eq_false_iff, beq_iff_eq, bne_iff_ne, beq_eq_false_iff_ne, bne_eq_false_iff_eq, Int.not_lt, Int.not_le, ge_iff_le, gt_iff_lt, not_or, not_and, Bool.cond_true_right, Bool.cond_true_left, Bool.cond_false_right, Bool.cond_false_left, bif_t, bif_f] at e) <;> (conv => whnf))
        · have e2 := e
          (refine ⟨[], ?_⟩; (conv => whnf); refine ⟨[], .nil, .nil, ?_⟩; (conv => whnf))
          congr 1
          unfold many
          rw [if_pos]
          refine .inr (.inr (List.any_eq_true.2 ⟨x, List.mem_of_getElem? hx, ?_⟩))
          exact decide_eq_true (by omega)
        · have e2 := e
          (refine ⟨_, And.intro ⟨by omega, enc_get hx⟩ ?_⟩; (conv => whnf))
          ((with_reducible refine And.intro (fun (e : (_ : Bool) = true) => ?_) (fun (e : (_ : Bool) = false) => ?_)) <;> (try simp only [reduceCtorEq, ints_len, bools_len, Bool.not_false, Bool.not_true, List.length_map, decide_eq_true_eq, decide_eq_false_iff_not, Bool.not_eq_true', Bool.not_eq_false', Bool.and_eq_true, Bool.or_eq_true, Bool.and_eq_false_iff, Bool.or_eq_false_iff, beq_iff_eq, bne_iff_ne, beq_eq_false_iff_ne, bne_eq_false_iff_eq, Int.not_lt, Int.not_le, ge_iff_le, gt_iff_lt, not_or, not_and, Bool.cond_true_right, Bool.cond_true_left, Bool.cond_false_right, Bool.cond_false_left, bif_t, bif_f] at e) <;> (conv => whnf))
          · have e3 := e
            (refine And.intro ?_ ?_; ((first | (with_reducible assumption) | (intro _; with_reducible assumption) | omega | (simp only [reduceCtorEq, ints_len, bools_len, Bool.not_false, Bool.not_true, List.length_map, decide_eq_true_eq, decide_eq_false_iff_not, Bool.not_eq_true', Bool.not_eq_false', Bool.and_eq_true, Bool.or_eq_true, Bool.and_eq_false_iff, Bool.or_eq_false_iff, beq_iff_eq, bne_iff_ne, beq_eq_false_iff_ne, bne_eq_false_iff_eq, Int.not_lt, Int.not_le, ge_iff_le, gt_iff_lt, not_or, not_and, Bool.cond_true_right, Bool.cond_true_left, Bool.cond_false_right, Bool.cond_false_left, bif_t, bif_f] at *; omega) | (intro hg; (try simp only [reduceCtorEq, ints_len, bools_len, Bool.not_false, Bool.not_true, List.length_map, decide_eq_true_eq, decide_eq_false_iff_not, Bool.not_eq_true', Bool.not_eq_false', Bool.and_eq_true, Bool.or_eq_true, Bool.and_eq_false_iff, Bool.or_eq_false_iff, beq_iff_eq, bne_iff_ne, beq_eq_false_iff_ne, bne_eq_false_iff_eq, Int.not_lt, Int.not_le, ge_iff_le, gt_iff_lt, not_or, not_and, Bool.cond_true_right, Bool.cond_true_left, Bool.cond_false_right, Bool.cond_false_left, bif_t, bif_f] at hg); first | (with_reducible assumption) | omega | (simp only [reduceCtorEq, ints_len, bools_len, Bool.not_false, Bool.not_true, List.length_map, decide_eq_true_eq, decide_eq_false_iff_not, Bool.not_eq_true', Bool.not_eq_false', Bool.and_eq_true, Bool.or_eq_true, Bool.and_eq_false_iff, Bool.or_eq_false_iff, beq_iff_eq, bne_iff_ne, beq_eq_false_iff_ne, bne_eq_false_iff_eq, Int.not_lt, Int.not_le, ge_iff_le, gt_iff_lt, not_or, not_and, Bool.cond_true_right, Bool.cond_true_left, Bool.cond_false_right, Bool.cond_false_left, bif_t, bif_f] at *; omega) | (refine ⟨?_, ?_⟩ <;> omega)) | (refine ⟨?_, ?_⟩ <;> omega) | (simp [*]; done) | grind)); (conv => whnf))
            refine ⟨l.length - (i + 1), by omega, [], ?_⟩
            conv => whnf
            refine ⟨i + 1, by omega, rfl, fun j hj y hy => ?_, ?_⟩
            · by_cases ej : j = i
              · subst ej; rw [hx] at hy; cases hy; omega
              · exact hall j (by omega) y hy
            · rw [ha, show decide (x = 0) = true from decide_eq_true e3, Bool.or_true]; rfl
          · have e3 := e
            (refine And.intro ?_ ?_; ((first | (with_reducible assumption) | (intro _; with_reducible assumption) | omega | (simp only [reduceCtorEq, ints_len, bools_len, Bool.not_false, Bool.not_true, List.length_map, decide_eq_true_eq, decide_eq_false_iff_not, Bool.not_eq_true', Bool.not_eq_false', Bool.and_eq_true, Bool.or_eq_true, Bool.and_eq_false_iff, Bool.or_eq_false_iff, beq_iff_eq, bne_iff_ne, beq_eq_false_iff_ne, bne_eq_false_iff_eq, Int.not_lt, Int.not_le, ge_iff_le, gt_iff_lt, not_or, not_and, Bool.cond_true_right, Bool.cond_true_left, Bool.cond_false_right, Bool.cond_false_left, bif_t, bif_f] at *; omega) | (intro hg; (try simp only [reduceCtorEq, ints_len, bools_len, Bool.not_false, Bool.not_true, List.length_map, decide_eq_true_eq, decide_eq_false_iff_not, Bool.not_eq_true', Bool.not_eq_false', Bool.and_eq_true, Bool.or_eq_true, Bool.and_eq_false_iff, Bool.or_eq_false_iff, beq_iff_eq, bne_iff_ne, beq_eq_false_iff_ne, bne_eq_false_iff_eq, Int.not_lt, Int.not_le, ge_iff_le, gt_iff_lt, not_or, not_and, Bool.cond_true_right, Bool.cond_true_left, Bool.cond_false_right, Bool.cond_false_left, bif_t, bif_f] at hg); first | (with_reducible assumption) | omega | (simp only [reduceCtorEq, ints_len, bools_len, Bool.not_false, Bool.not_true, List.length_map, decide_eq_true_eq, decide_eq_false_iff_not, Bool.not_eq_true', Bool.not_eq_false', Bool.and_eq_true, Bool.or_eq_true, Bool.and_eq_false_iff, Bool.or_eq_false_iff, beq_iff_eq, bne_iff_ne, beq_eq_false_iff_ne, bne_eq_false_iff_eq, Int.not_lt, Int.not_le, ge_iff_le, gt_iff_lt, not_or, not_and, Bool.cond_true_right, Bool.cond_true_left, Bool.cond_false_right, Bool.cond_false_left, bif_t, bif_f] at *; omega) | (refine ⟨?_, ?_⟩ <;> omega)) | (refine ⟨?_, ?_⟩ <;> omega) | (simp [*]; done) | grind)); (conv => whnf))
            refine ⟨l.length - (i + 1), by omega, [], ?_⟩
            conv => whnf
            refine ⟨i + 1, by omega, rfl, fun j hj y hy => ?_, ?_⟩
            · by_cases ej : j = i
              · subst ej; rw [hx] at hy; cases hy; omega
              · exact hall j (by omega) y hy
            · rw [ha, show decide (x = 0) = false from decide_eq_false e3, Bool.or_false]; rfl
      · have hi' : i = l.length := by omega
        subst hi'
        rw [List.take_length]
        have hok : l.any (fun n => decide (n < 0 ∨ 400 < n)) = false := by
          rw [List.any_eq_false]
          intro y hy
          obtain ⟨j, hj⟩ := List.getElem?_of_mem hy
          have := hall j ((List.getElem?_eq_some_iff.1 hj).1) y hj
          simp; omega
        have hm : many l = if 400 < prod l then -1 else prod l := by
          unfold many
          rw [if_neg]
          rintro (h | h | h)
          · omega
          · omega
          · rw [hok] at h; cases h
        have hb3 := prod_bd3 hok (by omega)
        rw [hm]
        cases hz : l.any (fun n => decide (n = 0)) with
        | true =>
          have hp0 := prod_zero hz
          refine ⟨[], [0, 3, 5], 0, fun n σ => n = 0 ∧ σ = (⟨[.one (.d (.sl 1 (l.map inC))), .junk, .junk, .di .i64 0, .junk, .di .i64 0, .junk, .junk, .junk, .junk, .junk, .junk, .junk, .junk, .junk, .junk, .junk, .junk, .junk, .junk, .junk, .junk, .junk, .junk, .junk, .junk, .junk, .junk, .junk, .junk, .junk, .junk, .junk, .junk, .junk, .junk, .junk, .junk, .junk, .junk, .junk, .junk, .junk, .junk, .junk, .junk, .junk, .junk, .junk, .junk, .junk, .junk, .junk, .junk, .junk, .junk], []⟩ : St), ?_, ?_⟩
          · refine ⟨0, ?_⟩
            conv => whnf
            exact ⟨rfl, rfl⟩
          · rintro n _ ⟨rfl, rfl⟩
            conv => whnf
            (repeat (refine And.intro ?_ ?_; ((first | (with_reducible assumption) | (intro _; with_reducible assumption) | omega | (simp only [reduceCtorEq, ints_len, bools_len, Bool.not_false, Bool.not_true, List.length_map, decide_eq_true_eq, decide_eq_false_iff_not, Bool.not_eq_true', Bool.not_eq_false', Bool.and_eq_true, Bool.or_eq_true, Bool.and_eq_false_iff, Bool.or_eq_false_iff, beq_iff_eq, bne_iff_ne, beq_eq_false_iff_ne, bne_eq_false_iff_eq, Int.not_lt, Int.not_le, ge_iff_le, gt_iff_lt, not_or, not_and, Bool.cond_true_right, Bool.cond_true_left, Bool.cond_false_right, Bool.cond_false_left, bif_t, bif_f] at *; omega) | (intro hg; (try simp only [reduceCtorEq, ints_len, bools_len, Bool.not_false, Bool.not_true, List.length_map, decide_eq_true_eq, decide_eq_false_iff_not, Bool.not_eq_true', Bool.not_eq_false', Bool.and_eq_true, Bool.or_eq_true, Bool.and_eq_false_iff, Bool.or_eq_false_iff, beq_iff_eq, bne_iff_ne, beq_eq_false_iff_ne, bne_eq_false_iff_eq, Int.not_lt, Int.not_le, ge_iff_le, gt_iff_lt, not_or, not_and, Bool.cond_true_right, Bool.cond_true_left, Bool.cond_false_right, Bool.cond_false_left, bif_t, bif_f] at hg); first | (with_reducible assumption) | omega | (simp only [reduceCtorEq, ints_len, bools_len, Bool.not_false, Bool.not_true, List.length_map, decide_eq_true_eq, decide_eq_false_iff_not, Bool.not_eq_true', Bool.not_eq_false', Bool.and_eq_true, Bool.or_eq_true, Bool.and_eq_false_iff, Bool.or_eq_false_iff, beq_iff_eq, bne_iff_ne, beq_eq_false_iff_ne, bne_eq_false_iff_eq, Int.not_lt, Int.not_le, ge_iff_le, gt_iff_lt, not_or, not_and, Bool.cond_true_right, Bool.cond_true_left, Bool.cond_false_right, Bool.cond_false_left, bif_t, bif_f] at *; omega) | (refine ⟨?_, ?_⟩ <;> omega)) | (refine ⟨?_, ?_⟩ <;> omega) | (simp [*]; done) | grind)); (conv => whnf)))
            intro e
            conv => whnf
            (repeat (refine And.intro ?_ ?_; ((first | (with_reducible assumption) | (intro _; with_reducible assumption) | omega | (simp only [reduceCtorEq, ints_len, bools_len, Bool.not_false, Bool.not_true, List.length_map, decide_eq_true_eq, decide_eq_false_iff_not, Bool.not_eq_true', Bool.not_eq_false', Bool.and_eq_true, Bool.or_eq_true, Bool.and_eq_false_iff, Bool.or_eq_false_iff, beq_iff_eq, bne_iff_ne, beq_eq_false_iff_ne, bne_eq_false_iff_eq, Int.not_lt, Int.not_le, ge_iff_le, gt_iff_lt, not_or, not_and, Bool.cond_true_right, Bool.cond_true_left, Bool.cond_false_right, Bool.cond_false_left, bif_t, bif_f] at *; omega) | (intro hg; (try simp only [reduceCtorEq, ints_len, bools_len, Bool.not_false, Bool.not_true, List.length_map, decide_eq_true_eq, decide_eq_false_iff_not, Bool.not_eq_true', Bool.not_eq_false', Bool.and_eq_true, Bool.or_eq_true, Bool.and_eq_false_iff, Bool.or_eq_false_iff, beq_iff_eq, bne_iff_ne, beq_eq_false_iff_ne, bne_eq_false_iff_eq, Int.not_lt, Int.not_le, ge_iff_le, gt_iff_lt, not_or, not_and, Bool.cond_true_right, Bool.cond_true_left, Bool.cond_false_right, Bool.cond_false_left, bif_t, bif_f] at hg); first | (with_reducible assumption) | omega | (simp only [reduceCtorEq, ints_len, bools_len, Bool.not_false, Bool.not_true, List.length_map, decide_eq_true_eq, decide_eq_false_iff_not, Bool.not_eq_true', Bool.not_eq_false', Bool.and_eq_true, Bool.or_eq_true, Bool.and_eq_false_iff, Bool.or_eq_false_iff, beq_iff_eq, bne_iff_ne, beq_eq_false_iff_ne, bne_eq_false_iff_eq, Int.not_lt, Int.not_le, ge_iff_le, gt_iff_lt, not_or, not_and, Bool.cond_true_right, Bool.cond_true_left, Bool.cond_false_right, Bool.cond_false_left, bif_t, bif_f] at *; omega) | (refine ⟨?_, ?_⟩ <;> omega)) | (refine ⟨?_, ?_⟩ <;> omega) | (simp [*]; done) | grind)); (conv => whnf)))
            intro e
            conv => whnf
            (refine ⟨[], ?_⟩; (conv => whnf); refine ⟨[], .nil, .nil, ?_⟩; (conv => whnf))
            congr 1
            rw [hp0]; decide
        | false =>
          have hge : ∀ i, 1 ≤ prod (l.take i) := fun i => prod_ge fun n hn => by
            have hn' := List.mem_of_mem_take hn
            obtain ⟨j, hj⟩ := List.getElem?_of_mem hn'
            have := hall j ((List.getElem?_eq_some_iff.1 hj).1) n hj
            have h0 := List.any_eq_false.1 hz n hn'
            simp at h0
            omega
          refine ⟨[], [0, 3, 5], 0, fun n σ => ∃ i : Nat, i ≤ l.length ∧ n = l.length - i ∧ σ = (⟨[.one (.d (.sl 1 (l.map inC))), .junk, .junk, .di .i64 (prod (l.take i)), .junk, .di .i64 i, .junk, .junk, .junk, .junk, .junk, .junk, .junk, .junk, .junk, .junk, .junk, .junk, .junk, .junk, .junk, .junk, .junk, .junk, .junk, .junk, .junk, .junk, .junk, .junk, .junk, .junk, .junk, .junk, .junk, .junk, .junk, .junk, .junk, .junk, .junk, .junk, .junk, .junk, .junk, .junk, .junk, .junk, .junk, .junk, .junk, .junk, .junk, .junk, .junk, .junk], []⟩ : St), ?_, ?_⟩
          · refine ⟨l.length, ?_⟩
            conv => whnf
            exact ⟨0, by omega, by omega, rfl⟩
          · rintro n _ ⟨i, hi, rfl, rfl⟩
            have hgi := hge i
            have hbi := hb3 i
            conv => whnf
            (repeat (refine And.intro ?_ ?_; ((first | (with_reducible assumption) | (intro _; with_reducible assumption) | omega | (simp only [reduceCtorEq, ints_len, bools_len, Bool.not_false, Bool.not_true, List.length_map, decide_eq_true_eq, decide_eq_false_iff_not, Bool.not_eq_true', Bool.not_eq_false', Bool.and_eq_true, Bool.or_eq_true, Bool.and_eq_false_iff, Bool.or_eq_false_iff, beq_iff_eq, bne_iff_ne, beq_eq_false_iff_ne, bne_eq_false_iff_eq, Int.not_lt, Int.not_le, ge_iff_le, gt_iff_lt, not_or, not_and, Bool.cond_true_right, Bool.cond_true_left, Bool.cond_false_right, Bool.cond_false_left, bif_t, bif_f] at *; omega) | (intro hg; (try simp only [reduceCtorEq, ints_len, bools_len, Bool.not_false, Bool.not_true, List.length_map, decide_eq_true_eq, decide_eq_false_iff_not, Bool.not_eq_true', Bool.not_eq_false', Bool.and_eq_true, Bool.or_eq_true, Bool.and_eq_false_iff, Bool.or_eq_false_iff, beq_iff_eq, bne_iff_ne, beq_eq_false_iff_ne, bne_eq_false_iff_eq, Int.not_lt, Int.not_le, ge_iff_le, gt_iff_lt, not_or, not_and, Bool.cond_true_right, Bool.cond_true_left, Bool.cond_false_right, Bool.cond_false_left, bif_t, bif_f] at hg); first | (with_reducible assumption) | omega | (simp only [reduceCtorEq, ints_len, bools_len, Bool.not_false, Bool.not_true, List.length_map, decide_eq_true_eq, decide_eq_false_iff_not, Bool.not_eq_true', Bool.not_eq_false', Bool.and_eq_true, Bool.or_eq_true, Bool.and_eq_false_iff, Bool.or_eq_false_iff, beq_iff_eq, bne_iff_ne, beq_eq_false_iff_ne, bne_eq_false_iff_eq, Int.not_lt, Int.not_le, ge_iff_le, gt_iff_lt, not_or, not_and, Bool.cond_true_right, Bool.cond_true_left, Bool.cond_false_right, Bool.cond_false_left, bif_t, bif_f] at *; omega) | (refine ⟨?_, ?_⟩ <;> omega)) | (refine ⟨?_, ?_⟩ <;> omega) | (simp [*]; done) | grind)); (conv => whnf)))
            ((with_reducible refine And.intro (fun (e : (_ : Bool) = true) => ?_) (fun (e : (_ : Bool) = false) => ?_)) <;> (try simp only [reduceCtorEq, ints_len, bools_len, Bool.not_false, Bool.not_true, List.length_map, decide_eq_true_eq, decide_eq_false_iff_not, Bool.not_eq_true', Bool.not_eq_false', Bool.and_eq_true, Bool.or_eq_true, Bool.and_eq_false_iff, Bool.or_eq_false_iff, beq_iff_eq, bne_iff_ne, beq_eq_false_iff_ne, bne_eq_false_iff_eq, Int.not_lt, Int.not_le, ge_iff_le, gt_iff_lt, not_or, not_and, Bool.cond_true_right, Bool.cond_true_left, Bool.cond_false_right, Bool.cond_false_left, bif_t, bif_f] at e) <;> (conv => whnf))
            · obtain ⟨x, hx⟩ := get_lt (l := l) (i := i) (by omega)
              have hp := prod_take hx
              have hb1 := hb3 (i + 1)
              rw [hp] at hb1
              (refine ⟨_, And.intro ⟨by omega, enc_get hx⟩ ?_⟩; (conv => whnf))
              (refine And.intro ?_ ?_; ((first | (with_reducible assumption) | (intro _; with_reducible assumption) | omega | (simp only [reduceCtorEq, ints_len, bools_len, Bool.not_false, Bool.not_true, List.length_map, decide_eq_true_eq, decide_eq_false_iff_not, Bool.not_eq_true', Bool.not_eq_false', Bool.and_eq_true, Bool.or_eq_true, Bool.and_eq_false_iff, Bool.or_eq_false_iff, beq_iff_eq, bne_iff_ne, beq_eq_false_iff_ne, bne_eq_false_iff_eq, Int.not_lt, Int.not_le, ge_iff_le, gt_iff_lt, not_or, not_and, Bool.cond_true_right, Bool.cond_true_left, Bool.cond_false_right, Bool.cond_false_left, bif_t, bif_f] at *; omega) | (intro hg; (try simp only [reduceCtorEq, ints_len, bools_len, Bool.not_false, Bool.not_true, List.length_map, decide_eq_true_eq, decide_eq_false_iff_not, Bool.not_eq_true', Bool.not_eq_false', Bool.and_eq_true, Bool.or_eq_true, Bool.and_eq_false_iff, Bool.or_eq_false_iff, beq_iff_eq, bne_iff_ne, beq_eq_false_iff_ne, bne_eq_false_iff_eq, Int.not_lt, Int.not_le, ge_iff_le, gt_iff_lt, not_or, not_and, Bool.cond_true_right, Bool.cond_true_left, Bool.cond_false_right, Bool.cond_false_left, bif_t, bif_f] at hg); first | (with_reducible assumption) | omega | (simp only [reduceCtorEq, ints_len, bools_len, Bool.not_false, Bool.not_true, List.length_map, decide_eq_true_eq, decide_eq_false_iff_not, Bool.not_eq_true', Bool.not_eq_false', Bool.and_eq_true, Bool.or_eq_true, Bool.and_eq_false_iff, Bool.or_eq_false_iff, beq_iff_eq, bne_iff_ne, beq_eq_false_iff_ne, bne_eq_false_iff_eq, Int.not_lt, Int.not_le, ge_iff_le, gt_iff_lt, not_or, not_and, Bool.cond_true_right, Bool.cond_true_left, Bool.cond_false_right, Bool.cond_false_left, bif_t, bif_f] at *; omega) | (refine ⟨?_, ?_⟩ <;> omega)) | (refine ⟨?_, ?_⟩ <;> omega) | (simp [*]; done) | grind)); (conv => whnf))
              (refine And.intro ?_ ?_; ((first | (with_reducible assumption) | (intro _; with_reducible assumption) | omega | (simp only [reduceCtorEq, ints_len, bools_len, Bool.not_false, Bool.not_true, List.length_map, decide_eq_true_eq, decide_eq_false_iff_not, Bool.not_eq_true', Bool.not_eq_false', Bool.and_eq_true, Bool.or_eq_true, Bool.and_eq_false_iff, Bool.or_eq_false_iff, beq_iff_eq, bne_iff_ne, beq_eq_false_iff_ne, bne_eq_false_iff_eq, Int.not_lt, Int.not_le, ge_iff_le, gt_iff_lt, not_or, not_and, Bool.cond_true_right, Bool.cond_true_left, Bool.cond_false_right, Bool.cond_false_left, bif_t, bif_f] at *; omega) | (intro hg; (try simp only [reduceCtorEq, ints_len, bools_len, Bool.not_false, Bool.not_true, List.length_map, decide_eq_true_eq, decide_eq_false_iff_not, Bool.not_eq_true', Bool.not_eq_false', Bool.and_eq_true, Bool.or_eq_true, Bool.and_eq_false_iff, Bool.or_eq_false_iff, beq_iff_eq, bne_iff_ne, beq_eq_false_iff_ne, bne_eq_false_iff_eq, Int.not_lt, Int.not_le, ge_iff_le, gt_iff_lt, not_or, not_and, Bool.cond_true_right, Bool.cond_true_left, Bool.cond_false_right, Bool.cond_false_left, bif_t, bif_f] at hg); first | (with_reducible assumption) | omega | (simp only [reduceCtorEq, ints_len, bools_len, Bool.not_false, Bool.not_true, List.length_map, decide_eq_true_eq, decide_eq_false_iff_not, Bool.not_eq_true', Bool.not_eq_false', Bool.and_eq_true, Bool.or_eq_true, Bool.and_eq_false_iff, Bool.or_eq_false_iff, beq_iff_eq, bne_iff_ne, beq_eq_false_iff_ne, bne_eq_false_iff_eq, Int.not_lt, Int.not_le, ge_iff_le, gt_iff_lt, not_or, not_and, Bool.cond_true_right, Bool.cond_true_left, Bool.cond_false_right, Bool.cond_false_left, bif_t, bif_f] at *; omega) | (refine ⟨?_, ?_⟩ <;> omega)) | (refine ⟨?_, ?_⟩ <;> omega) | (simp [*]; done) | grind)); (conv => whnf))
              refine ⟨l.length - (i + 1), by omega, [], ?_⟩
              conv => whnf
              refine ⟨i + 1, by omega, rfl, ?_⟩
              rw [hp]; rfl
            · have hi' : i = l.length := by omega
              subst hi'
              rw [List.take_length]
              ((with_reducible refine And.intro (fun (e : (_ : Bool) = true) => ?_) (fun (e : (_ : Bool) = false) => ?_)) <;> (try simp only [reduceCtorEq, ints_len, bools_len, Bool.not_false, Bool.not_true, List.length_map, decide_eq_true_eq, decide_eq_false_iff_not, Bool.not_eq_true', Bool.not_eq_false', Bool.and_eq_true, Bool.or_eq_true, Bool.and_eq_false_iff, Bool.or_eq_false_iff, beq_iff_eq, bne_iff_ne, beq_eq_false_iff_ne, bne_eq_false_iff_eq, Int.not_lt, Int.not_le, ge_iff_le, gt_iff_lt, not_or, not_and, Bool.cond_true_right, Bool.cond_true_left, Bool.cond_false_right, Bool.cond_false_left, bif_t, bif_f] at e) <;> (conv => whnf))
              · (refine ⟨[], ?_⟩; (conv => whnf); refine ⟨[], .nil, .nil, ?_⟩; (conv => whnf))
                congr 1
                rw [if_pos e]
              · (refine ⟨[], ?_⟩; (conv => whnf); refine ⟨[], .nil, .nil, ?_⟩; (conv => whnf))
                congr 1
                rw [if_neg (by omega)]
def R100 : Ct := fun ss hp r out => ∃ (l : List Int) (x : Ref), ss = [.one (.d (.sl 1 (l.map inC))), .v (.ag (x.c.map .d))] ∧ hp = [] ∧ l.length < 4611686018427387904 ∧ x.str.length < 4611686018427387904 ∧ r = .db (refOk l x) ∧ out = []
set_option maxHeartbeats 4000000 in
theorem ok100 : VSound Try.prog (100, R100) := by
  refine vsound (T := ty) (F := [(59, R59), (129, R129)]) (pl := []) (nw := true) (cuts := []) mix tyOk (.cons (ok59) (.cons (ok129) .nil)) Try.func100 (by kernel_rfl) (by kernel_rfl) ?_
  rintro _ _ _ _ ⟨l, ⟨xa, xb, xs⟩, rfl, rfl, hl, hx, rfl, rfl⟩
  conv => whnf
  (refine ⟨[], false, false, ?_⟩; (conv => whnf); refine ⟨_, _, ⟨l, rfl, rfl, hl, rfl, rfl⟩, ?_⟩; (conv => whnf))
  (repeat' (first | ((with_reducible refine And.intro (fun (e : (_ : Bool) = true) => ?_) (fun (e : (_ : Bool) = false) => ?_)) <;> (try simp only [reduceCtorEq, ints_len, bools_len, Bool.not_false, Bool.not_true, List.length_map, decide_eq_true_eq, decide_eq_false_iff_not, Bool.not_eq_true', Bool.not_eq_false', Bool.and_eq_true, Bool.or_eq_true, Bool.and_eq_false_iff, Bool.or_eq_false_iff, beq_iff_eq, bne_iff_ne, beq_eq_false_iff_ne, bne_eq_false_iff_eq, Int.not_lt, Int.not_le, ge_iff_le, gt_iff_lt, not_or, not_and, Bool.cond_true_right, Bool.cond_true_left, Bool.cond_false_right, Bool.cond_false_left, bif_t, bif_f] at e) <;> (conv => whnf)) | ((with_reducible refine And.intro (fun (e : (_ : Bool) = false) => ?_) (fun (e : (_ : Bool) = true) => ?_)) <;> (try simp only [reduceCtorEq, ints_len, bools_len, Bool.not_false, Bool.not_true, List.length_map, decide_eq_true_eq, decide_eq_false_iff_not, Bool.not_eq_true', Bool.not_eq_false', Bool.and_eq_true, Bool.or_eq_true, Bool.and_eq_false_iff, Bool.or_eq_false_iff, beq_iff_eq, bne_iff_ne, beq_eq_false_iff_ne, bne_eq_false_iff_eq, Int.not_lt, Int.not_le, ge_iff_le, gt_iff_lt, not_or, not_and, Bool.cond_true_right, Bool.cond_true_left, Bool.cond_false_right, Bool.cond_false_left, bif_t, bif_f] at e) <;> (conv => whnf)) | (refine And.intro ?_ ?_; ((first | (with_reducible assumption) | (intro _; with_reducible assumption) | omega | (simp only [reduceCtorEq, ints_len, bools_len, Bool.not_false, Bool.not_true, List.length_map, decide_eq_true_eq, decide_eq_false_iff_not, Bool.not_eq_true', Bool.not_eq_false', Bool.and_eq_true, Bool.or_eq_true, Bool.and_eq_false_iff, Bool.or_eq_false_iff, beq_iff_eq, bne_iff_ne, beq_eq_false_iff_ne, bne_eq_false_iff_eq, Int.not_lt, Int.not_le, ge_iff_le, gt_iff_lt, not_or, not_and, Bool.cond_true_right, Bool.cond_true_left, Bool.cond_false_right, Bool.cond_false_left, bif_t, bif_f] at *; omega) | (intro hg; (try simp only [reduceCtorEq, ints_len, bools_len, Bool.not_false, Bool.not_true, List.length_map, decide_eq_true_eq, decide_eq_false_iff_not, Bool.not_eq_true', Bool.not_eq_false', Bool.and_eq_true, Bool.or_eq_true, Bool.and_eq_false_iff, Bool.or_eq_false_iff, beq_iff_eq, bne_iff_ne, beq_eq_false_iff_ne, bne_eq_false_iff_eq, Int.not_lt, Int.not_le, ge_iff_le, gt_iff_lt, not_or, not_and, Bool.cond_true_right, Bool.cond_true_left, Bool.cond_false_right, Bool.cond_false_left, bif_t, bif_f] at hg); first | (with_reducible assumption) | omega | (simp only [reduceCtorEq, ints_len, bools_len, Bool.not_false, Bool.not_true, List.length_map, decide_eq_true_eq, decide_eq_false_iff_not, Bool.not_eq_true', Bool.not_eq_false', Bool.and_eq_true, Bool.or_eq_true, Bool.and_eq_false_iff, Bool.or_eq_false_iff, beq_iff_eq, bne_iff_ne, beq_eq_false_iff_ne, bne_eq_false_iff_eq, Int.not_lt, Int.not_le, ge_iff_le, gt_iff_lt, not_or, not_and, Bool.cond_true_right, Bool.cond_true_left, Bool.cond_false_right, Bool.cond_false_left, bif_t, bif_f] at *; omega) | (refine ⟨?_, ?_⟩ <;> omega)) | (refine ⟨?_, ?_⟩ <;> omega) | (simp [*]; done) | grind)); (conv => whnf))))
  · (refine ⟨[], false, false, ?_⟩; (conv => whnf); refine ⟨_, _, ⟨_, rfl, rfl, rfl, rfl⟩, ?_⟩; (conv => whnf))
    (repeat' (first | ((with_reducible refine And.intro (fun (e : (_ : Bool) = true) => ?_) (fun (e : (_ : Bool) = false) => ?_)) <;> (try simp only [reduceCtorEq, ints_len, bools_len, Bool.not_false, Bool.not_true, List.length_map, decide_eq_true_eq, decide_eq_false_iff_not, Bool.not_eq_true', Bool.not_eq_false', Bool.and_eq_true, Bool.or_eq_true, Bool.and_eq_false_iff, Bool.or_eq_false_iff, beq_iff_eq, bne_iff_ne, beq_eq_false_iff_ne, bne_eq_false_iff_eq, Int.not_lt, Int.not_le, ge_iff_le, gt_iff_lt, not_or, not_and, Bool.cond_true_right, Bool.cond_true_left, Bool.cond_false_right, Bool.cond_false_left, bif_t, bif_f] at e) <;> (conv => whnf)) | ((with_reducible refine And.intro (fun (e : (_ : Bool) = false) => ?_) (fun (e : (_ : Bool) = true) => ?_)) <;> (try simp only [reduceCtorEq, ints_len, bools_len, Bool.not_false, Bool.not_true, List.length_map, decide_eq_true_eq, decide_eq_false_iff_not, Bool.not_eq_true', Bool.not_eq_false', Bool.and_eq_true, Bool.or_eq_true, Bool.and_eq_false_iff, Bool.or_eq_false_iff, beq_iff_eq, bne_iff_ne, beq_eq_false_iff_ne, bne_eq_false_iff_eq, Int.not_lt, Int.not_le, ge_iff_le, gt_iff_lt, not_or, not_and, Bool.cond_true_right, Bool.cond_true_left, Bool.cond_false_right, Bool.cond_false_left, bif_t, bif_f] at e) <;> (conv => whnf)) | (refine And.intro ?_ ?_; ((first | (with_reducible assumption) | (intro _; with_reducible assumption) | omega | (simp only [reduceCtorEq, ints_len, bools_len, Bool.not_false, Bool.not_true, List.length_map, decide_eq_true_eq, decide_eq_false_iff_not, Bool.not_eq_true', Bool.not_eq_false', Bool.and_eq_true, Bool.or_eq_true, Bool.and_eq_false_iff, Bool.or_eq_false_iff, beq_iff_eq, bne_iff_ne, beq_eq_false_iff_ne, bne_eq_false_iff_eq, Int.not_lt, Int.not_le, ge_iff_le, gt_iff_lt, not_or, not_and, Bool.cond_true_right, Bool.cond_true_left, Bool.cond_false_right, Bool.cond_false_left, bif_t, bif_f] at *; omega) | (intro hg; (try simp only [reduceCtorEq, ints_len, bools_len, Bool.not_false, Bool.not_true, List.length_map, decide_eq_true_eq, decide_eq_false_iff_not, Bool.not_eq_true', Bool.not_eq_false', Bool.and_eq_true, Bool.or_eq_true, Bool.and_eq_false_iff, Bool.or_eq_false_iff, beq_iff_eq, bne_iff_ne, beq_eq_false_iff_ne, bne_eq_false_iff_eq, Int.not_lt, Int.not_le, ge_iff_le, gt_iff_lt, not_or, not_and, Bool.cond_true_right, Bool.cond_true_left, Bool.cond_false_right, Bool.cond_false_left, bif_t, bif_f] at hg); first | (with_reducible assumption) | omega | (simp only [reduceCtorEq, ints_len, bools_len, Bool.not_false, Bool.not_true, List.length_map, decide_eq_true_eq, decide_eq_false_iff_not, Bool.not_eq_true', Bool.not_eq_false', Bool.and_eq_true, Bool.or_eq_true, Bool.and_eq_false_iff, Bool.or_eq_false_iff, beq_iff_eq, bne_iff_ne, beq_eq_false_iff_ne, bne_eq_false_iff_eq, Int.not_lt, Int.not_le, ge_iff_le, gt_iff_lt, not_or, not_and, Bool.cond_true_right, Bool.cond_true_left, Bool.cond_false_right, Bool.cond_false_left, bif_t, bif_f] at *; omega) | (refine ⟨?_, ?_⟩ <;> omega)) | (refine ⟨?_, ?_⟩ <;> omega) | (simp [*]; done) | grind)); (conv => whnf))))
    · have e2 := e
      (refine ⟨[], ?_⟩; (conv => whnf); refine ⟨[], .nil, .nil, ?_⟩; (conv => whnf))
      congr 1
      refine (Bool.eq_false_iff.2 fun h => ?_).symm
      unfold refOk at h
      simp only [Bool.and_eq_true, decide_eq_true_eq] at h
      try simp only [reduceCtorEq, ints_len, bools_len, Bool.not_false, Bool.not_true, List.length_map, decide_eq_true_eq, decide_eq_false_iff_not, Bool.not_eq_true', Bool.not_eq_false', Bool.and_eq_true, Bool.or_eq_true, Bool.and_eq_false_iff, Bool.or_eq_false_iff, beq_iff_eq, bne_iff_ne, beq_eq_false_iff_ne, bne_eq_false_iff_eq, Int.not_lt, Int.not_le, ge_iff_le, gt_iff_lt, not_or, not_and, Bool.cond_true_right, Bool.cond_true_left, Bool.cond_false_right, Bool.cond_false_left, bif_t, bif_f] at e2
      grind
    · have e2 := e
      refine ⟨[], [3, 5], 1, fun n σ => ∃ i : Nat, i ≤ xs.length ∧ n = xs.length - i ∧ (∀ j < i, ∀ y, xs[j]? = some y → isNum y = true) ∧ σ = (⟨[.junk, .junk, .junk, .one (.ptr 0 0), .junk, .di .i64 i, .junk, .junk, .junk, .junk, .junk, .junk, .junk, .junk, .junk, .junk, .junk, .junk, .junk, .junk, .junk, .junk, .junk, .junk, .junk, .junk, .junk, .junk, .junk, .junk, .junk, .junk, .junk, .junk, .junk, .junk, .junk], [.box (List.map .d (Ref.mk xa xb xs).c)]⟩ : St), ?_, ?_⟩
      · refine ⟨xs.length, ?_⟩
        conv => whnf
        exact ⟨0, by omega, by omega, by omega, rfl⟩
      · rintro n _ ⟨i, hi, rfl, hall, rfl⟩
        conv => whnf
        ((with_reducible refine And.intro (fun (e : (_ : Bool) = true) => ?_) (fun (e : (_ : Bool) = false) => ?_)) <;> (try simp only [reduceCtorEq, ints_len, bools_len, Bool.not_false, Bool.not_true, List.length_map, decide_eq_true_eq, decide_eq_false_iff_not, Bool.not_eq_true', Bool.not_eq_false', Bool.and_eq_true, Bool.or_eq_true, Bool.and_eq_false_iff, Bool.or_eq_false_iff, beq_iff_eq, bne_iff_ne, beq_eq_false_iff_ne, bne_eq_false_iff_eq, Int.not_lt, Int.not_le, ge_iff_le, gt_iff_lt, not_or, not_and, Bool.cond_true_right, Bool.cond_true_left, Bool.cond_false_right, Bool.cond_false_left, bif_t, bif_f] at e) <;> (conv => whnf))
        · obtain ⟨x, hx⟩ := get_lt (l := xs) (i := i) (by omega)
          (refine ⟨_, And.intro ⟨by omega, enc_get hx⟩ ?_⟩; (conv => whnf))
          (refine ⟨[], false, false, ?_⟩; (conv => whnf); refine ⟨_, _, ⟨_, rfl, rfl, rfl, rfl⟩, ?_⟩; (conv => whnf))
          ((with_reducible refine And.intro (fun (e : (_ : Bool) = true) => ?_) (fun (e : (_ : Bool) = false) => ?_)) <;> (try simp only [reduceCtorEq, ints_len, bools_len, Bool.not_false, Bool.not_true, List.length_map, decide_eq_true_eq, decide_eq_false_iff_not, Bool.not_eq_true', Bool.not_eq_false', Bool.and_eq_true, Bool.or_eq_true, Bool.and_eq_false_iff, Bool.or_eq_false_iff, beq_iff_eq, bne_iff_ne, beq_eq_false_iff_ne, bne_eq_false_iff_eq, Int.not_lt, Int.not_le, ge_iff_le, gt_iff_lt, not_or, not_and, Bool.cond_true_right, Bool.cond_true_left, Bool.cond_false_right, Bool.cond_false_left, bif_t, bif_f] at e) <;> (conv => whnf))
          · have e3 := e
            (refine ⟨[], ?_⟩; (conv => whnf); refine ⟨[], .nil, .nil, ?_⟩; (conv => whnf))
            congr 1
            refine (Bool.eq_false_iff.2 fun h => ?_).symm
            unfold refOk at h
            simp only [Bool.and_eq_true, Bool.not_eq_true', List.any_eq_false] at h
            have := h.2.2.2 x (List.mem_of_getElem? hx)
            simp at this
            simp [this] at e3
          · have e3 := e
            (refine And.intro ?_ ?_; ((first | (with_reducible assumption) | (intro _; with_reducible assumption) | omega | (simp only [reduceCtorEq, ints_len, bools_len, Bool.not_false, Bool.not_true, List.length_map, decide_eq_true_eq, decide_eq_false_iff_not, Bool.not_eq_true', Bool.not_eq_false', Bool.and_eq_true, Bool.or_eq_true, Bool.and_eq_false_iff, Bool.or_eq_false_iff, beq_iff_eq, bne_iff_ne, beq_eq_false_iff_ne, bne_eq_false_iff_eq, Int.not_lt, Int.not_le, ge_iff_le, gt_iff_lt, not_or, not_and, Bool.cond_true_right, Bool.cond_true_left, Bool.cond_false_right, Bool.cond_false_left, bif_t, bif_f] at *; omega) | (intro hg; (try simp only [reduceCtorEq, ints_len, bools_len, Bool.not_false, Bool.not_true, List.length_map, decide_eq_true_eq, decide_eq_false_iff_not, Bool.not_eq_true', Bool.not_eq_false', Bool.and_eq_true, Bool.or_eq_true, Bool.and_eq_false_iff, Bool.or_eq_false_iff, beq_iff_eq, bne_iff_ne, beq_eq_false_iff_ne, bne_eq_false_iff_eq, Int.not_lt, Int.not_le, ge_iff_le, gt_iff_lt, not_or, not_and, Bool.cond_true_right, Bool.cond_true_left, Bool.cond_false_right, Bool.cond_false_left, bif_t, bif_f] at hg); first | (with_reducible assumption) | omega | (simp only [reduceCtorEq, ints_len, bools_len, Bool.not_false, Bool.not_true, List.length_map, decide_eq_true_eq, decide_eq_false_iff_not, Bool.not_eq_true', Bool.not_eq_false', Bool.and_eq_true, Bool.or_eq_true, Bool.and_eq_false_iff, Bool.or_eq_false_iff, beq_iff_eq, bne_iff_ne, beq_eq_false_iff_ne, bne_eq_false_iff_eq, Int.not_lt, Int.not_le, ge_iff_le, gt_iff_lt, not_or, not_and, Bool.cond_true_right, Bool.cond_true_left, Bool.cond_false_right, Bool.cond_false_left, bif_t, bif_f] at *; omega) | (refine ⟨?_, ?_⟩ <;> omega)) | (refine ⟨?_, ?_⟩ <;> omega) | (simp [*]; done) | grind)); (conv => whnf))
            refine ⟨xs.length - (i + 1), by omega, [], ?_⟩
            conv => whnf
            refine ⟨i + 1, by omega, rfl, fun j hj y hy => ?_, rfl⟩
            by_cases ej : j = i
            · subst ej; rw [hx] at hy; cases hy; simpa using e3
            · exact hall j (by omega) y hy
        · (refine ⟨[], ?_⟩; (conv => whnf); refine ⟨[], .nil, .nil, ?_⟩; (conv => whnf))
          congr 1
          try simp only [reduceCtorEq, ints_len, bools_len, Bool.not_false, Bool.not_true, List.length_map, decide_eq_true_eq, decide_eq_false_iff_not, Bool.not_eq_true', Bool.not_eq_false', Bool.and_eq_true, Bool.or_eq_true, Bool.and_eq_false_iff, Bool.or_eq_false_iff, beq_iff_eq, bne_iff_ne, beq_eq_false_iff_ne, bne_eq_false_iff_eq, Int.not_lt, Int.not_le, ge_iff_le, gt_iff_lt, not_or, not_and, Bool.cond_true_right, Bool.cond_true_left, Bool.cond_false_right, Bool.cond_false_left, bif_t, bif_f] at e2
          unfold refOk
          have h4 : (xs.any fun n => !isNum n) = false := by
            rw [List.any_eq_false]
            intro y hy
            obtain ⟨j, hj⟩ := List.getElem?_of_mem hy
            have := hall j (by have := (List.getElem?_eq_some_iff.1 hj).1; omega) y hj
            simp [this]
          simp only [h4]
          simp
          grind
  · have e2 := e
    (refine ⟨[], ?_⟩; (conv => whnf); refine ⟨[], .nil, .nil, ?_⟩; (conv => whnf))
    congr 1
    refine (Bool.eq_false_iff.2 fun h => ?_).symm
    unfold refOk at h
    simp only [Bool.and_eq_true, decide_eq_true_eq] at h
    simp only [reduceCtorEq, ints_len, bools_len, Bool.not_false, Bool.not_true, List.length_map, decide_eq_true_eq, decide_eq_false_iff_not, Bool.not_eq_true', Bool.not_eq_false', Bool.and_eq_true, Bool.or_eq_true, Bool.and_eq_false_iff, Bool.or_eq_false_iff, beq_iff_eq, bne_iff_ne, beq_eq_false_iff_ne, bne_eq_false_iff_eq, Int.not_lt, Int.not_le, ge_iff_le, gt_iff_lt, not_or, not_and, Bool.cond_true_right, Bool.cond_true_left, Bool.cond_false_right, Bool.cond_false_left, bif_t, bif_f] at *
    grind
end Go.Proofs.Ytahdihhhankhdaa.V
-- Vik
namespace Go.Proofs.Ytahdihhhankhdaa.V
open Go.Proofs.YtahdihhhankhdaaVY Go.RowKit
def isKern (k : Kern) : Bool := formed k && decide (1 ≤ k.sets.length ∧ k.sets.length ≤ 8)
end Go.Proofs.Ytahdihhhankhdaa.V
-- Vu
namespace Go.Proofs.Ytahdihhhankhdaa.V
open Go.Proofs.YtahdihhhankhdaaVY Go.RowKit
theorem treesBulk_snoc (t : Tree) : ∀ l : List Tree, treesBulk (l ++ [t]) = treesBulk l + t.bulk
  | [] => by simp [treesBulk]
  | x :: l => by rw [List.cons_append, treesBulk, treesBulk_snoc t l, treesBulk, Nat.add_assoc]
theorem treesBulk_take1 {l : List Tree} {i : Nat} {x : Tree} (h : l[i]? = some x) : treesBulk (l.take (i + 1)) = treesBulk (l.take i) + x.bulk := by
  rw [List.take_add_one, h]; exact treesBulk_snoc ..
def R60 (m : Nat) : Ct := fun ss hp r out => ∃ t : Tree, ss = [.v (.ag (t.c.map .d))] ∧ hp = [] ∧ t.bulk < m ∧ m ≤ 4194305 ∧ r = .di .i64 t.bulk ∧ out = []
theorem ok60_0 : VSound Try.prog (60, R60 0) := by
  refine .inl ⟨?_, enterB_ok (by kernel_rfl)⟩
  unfold Ok
  intros
  rename_i hR
  obtain ⟨t, _, _, h, _⟩ := hR
  omega
set_option maxHeartbeats 4000000 in
theorem ok60_s (m : Nat) (ih : VSound Try.prog (60, R60 m)) : VSound Try.prog (60, R60 (m + 1)) := by
  refine vsound (T := ty) (F := [(60, R60 m)]) (pl := []) (nw := true) (cuts := []) mix tyOk (.cons (ih) .nil) Try.func60 (by kernel_rfl) (by kernel_rfl) ?_
  rintro _ _ _ _ ⟨⟨op, kind, n, ref, kids⟩, rfl, rfl, hm, hm2, rfl, rfl⟩
  have hbk : (Tree.mk op kind n ref kids).bulk = treesBulk kids + ref.str.length + 1 := by rw [Tree.bulk]
  rw [hbk] at hm ⊢
  have hkl := treesBulk_len kids
  conv => whnf
  (refine And.intro ?_ ?_; ((first | (with_reducible assumption) | (intro _; with_reducible assumption) | omega | (simp only [reduceCtorEq, ints_len, bools_len, Bool.not_false, Bool.not_true, List.length_map, decide_eq_true_eq, decide_eq_false_iff_not, Bool.not_eq_true', Bool.not_eq_false', Bool.and_eq_true, Bool.or_eq_true, Bool.and_eq_false_iff, Bool.or_eq_false_iff, beq_iff_eq, bne_iff_ne, beq_eq_false_iff_ne, bne_eq_false_iff_eq, Int.not_lt, Int.not_le, ge_iff_le, gt_iff_lt, not_or, not_and, Bool.cond_true_right, Bool.cond_true_left, Bool.cond_false_right, Bool.cond_false_left, bif_t, bif_f] at *; omega) | (intro hg; (try simp only [reduceCtorEq, ints_len, bools_len, Bool.not_false, Bool.not_true, List.length_map, decide_eq_true_eq, decide_eq_false_iff_not, Bool.not_eq_true', Bool.not_eq_false', Bool.and_eq_true, Bool.or_eq_true, Bool.and_eq_false_iff, Bool.or_eq_false_iff, beq_iff_eq, bne_iff_ne, beq_eq_false_iff_ne, bne_eq_false_iff_eq, Int.not_lt, Int.not_le, ge_iff_le, gt_iff_lt, not_or, not_and, Bool.cond_true_right, Bool.cond_true_left, Bool.cond_false_right, Bool.cond_false_left, bif_t, bif_f] at hg); first | (with_reducible assumption) | omega | (simp only [reduceCtorEq, ints_len, bools_len, Bool.not_false, Bool.not_true, List.length_map, decide_eq_true_eq, decide_eq_false_iff_not, Bool.not_eq_true', Bool.not_eq_false', Bool.and_eq_true, Bool.or_eq_true, Bool.and_eq_false_iff, Bool.or_eq_false_iff, beq_iff_eq, bne_iff_ne, beq_eq_false_iff_ne, bne_eq_false_iff_eq, Int.not_lt, Int.not_le, ge_iff_le, gt_iff_lt, not_or, not_and, Bool.cond_true_right, Bool.cond_true_left, Bool.cond_false_right, Bool.cond_false_left, bif_t, bif_f] at *; omega) | (refine ⟨?_, ?_⟩ <;> omega)) | (refine ⟨?_, ?_⟩ <;> omega) | (simp [*]; done) | grind)); (conv => whnf))
  refine ⟨[], [1, 3, 4], 1, fun n1 σ => ∃ i : Nat, i ≤ kids.length ∧ n1 = kids.length - i ∧ σ = (⟨[.junk, .one (.ptr 0 0), .junk, .di .i64 (treesBulk (kids.take i) + ref.str.length + 1 : Nat), .di .i64 i, .junk, .junk, .junk, .junk, .junk, .junk, .junk, .junk, .junk, .junk, .junk, .junk, .junk, .junk, .junk, .junk, .junk, .junk, .junk, .junk, .junk], [.box (List.map .d (Tree.mk op kind n ref kids).c)]⟩ : St), ?_, ?_⟩
  · refine ⟨kids.length, ?_⟩
    conv => whnf
    refine ⟨0, by omega, by omega, ?_⟩
    rw [ints_len]
    have e : (1 + (ref.str.length : Int)) = ((treesBulk (kids.take 0) + ref.str.length + 1 : Nat) : Int) := by simp [treesBulk]; omega
    rw [e]; rfl
  · rintro n1 _ ⟨i, hi, rfl, rfl⟩
    conv => whnf
    rw [show ((treesC kids).length : Int) = kids.length by rw [treesC_map, map_len]]
    ((with_reducible refine And.intro (fun (e : (_ : Bool) = true) => ?_) (fun (e : (_ : Bool) = false) => ?_)) <;> (try simp only [reduceCtorEq, ints_len, bools_len, Bool.not_false, Bool.not_true, List.length_map, decide_eq_true_eq, decide_eq_false_iff_not, Bool.not_eq_true', Bool.not_eq_false', Bool.and_eq_true, Bool.or_eq_true, Bool.and_eq_false_iff, Bool.or_eq_false_iff, beq_iff_eq, bne_iff_ne, beq_eq_false_iff_ne, bne_eq_false_iff_eq, Int.not_lt, Int.not_le, ge_iff_le, gt_iff_lt, not_or, not_and, Bool.cond_true_right, Bool.cond_true_left, Bool.cond_false_right, Bool.cond_false_left, bif_t, bif_f] at e) <;> (conv => whnf))
    · have hlt : i < kids.length := by omega
      obtain ⟨x, hget⟩ := get_lt hlt
      have hb := treesBulk_get hget
      have htk := treesBulk_take1 hget
      have hw2 := treesBulk_take kids (i + 1)
      (refine ⟨_, And.intro ⟨by omega, (trees_get hget)⟩ ?_⟩; (conv => whnf))
      obtain ⟨xop, xkind, xn, xref, xkids⟩ := x
      conv => whnf
      (refine ⟨[], false, false, ?_⟩; (conv => whnf); refine ⟨_, _, ⟨.mk xop xkind xn xref xkids, rfl, rfl, by omega, by omega, rfl, rfl⟩, ?_⟩; (conv => whnf))
      rw [htk] at hw2
      (refine And.intro ?_ ?_; ((first | (with_reducible assumption) | (intro _; with_reducible assumption) | omega | (simp only [reduceCtorEq, ints_len, bools_len, Bool.not_false, Bool.not_true, List.length_map, decide_eq_true_eq, decide_eq_false_iff_not, Bool.not_eq_true', Bool.not_eq_false', Bool.and_eq_true, Bool.or_eq_true, Bool.and_eq_false_iff, Bool.or_eq_false_iff, beq_iff_eq, bne_iff_ne, beq_eq_false_iff_ne, bne_eq_false_iff_eq, Int.not_lt, Int.not_le, ge_iff_le, gt_iff_lt, not_or, not_and, Bool.cond_true_right, Bool.cond_true_left, Bool.cond_false_right, Bool.cond_false_left, bif_t, bif_f] at *; omega) | (intro hg; (try simp only [reduceCtorEq, ints_len, bools_len, Bool.not_false, Bool.not_true, List.length_map, decide_eq_true_eq, decide_eq_false_iff_not, Bool.not_eq_true', Bool.not_eq_false', Bool.and_eq_true, Bool.or_eq_true, Bool.and_eq_false_iff, Bool.or_eq_false_iff, beq_iff_eq, bne_iff_ne, beq_eq_false_iff_ne, bne_eq_false_iff_eq, Int.not_lt, Int.not_le, ge_iff_le, gt_iff_lt, not_or, not_and, Bool.cond_true_right, Bool.cond_true_left, Bool.cond_false_right, Bool.cond_false_left, bif_t, bif_f] at hg); first | (with_reducible assumption) | omega | (simp only [reduceCtorEq, ints_len, bools_len, Bool.not_false, Bool.not_true, List.length_map, decide_eq_true_eq, decide_eq_false_iff_not, Bool.not_eq_true', Bool.not_eq_false', Bool.and_eq_true, Bool.or_eq_true, Bool.and_eq_false_iff, Bool.or_eq_false_iff, beq_iff_eq, bne_iff_ne, beq_eq_false_iff_ne, bne_eq_false_iff_eq, Int.not_lt, Int.not_le, ge_iff_le, gt_iff_lt, not_or, not_and, Bool.cond_true_right, Bool.cond_true_left, Bool.cond_false_right, Bool.cond_false_left, bif_t, bif_f] at *; omega) | (refine ⟨?_, ?_⟩ <;> omega)) | (refine ⟨?_, ?_⟩ <;> omega) | (simp [*]; done) | grind)); (conv => whnf))
      (refine And.intro ?_ ?_; ((first | (with_reducible assumption) | (intro _; with_reducible assumption) | omega | (simp only [reduceCtorEq, ints_len, bools_len, Bool.not_false, Bool.not_true, List.length_map, decide_eq_true_eq, decide_eq_false_iff_not, Bool.not_eq_true', Bool.not_eq_false', Bool.and_eq_true, Bool.or_eq_true, Bool.and_eq_false_iff, Bool.or_eq_false_iff, beq_iff_eq, bne_iff_ne, beq_eq_false_iff_ne, bne_eq_false_iff_eq, Int.not_lt, Int.not_le, ge_iff_le, gt_iff_lt, not_or, not_and, Bool.cond_true_right, Bool.cond_true_left, Bool.cond_false_right, Bool.cond_false_left, bif_t, bif_f] at *; omega) | (intro hg; (try simp only [reduceCtorEq, ints_len, bools_len, Bool.not_false, Bool.not_true, List.length_map, decide_eq_true_eq, decide_eq_false_iff_not, Bool.not_eq_true', Bool.not_eq_false', Bool.and_eq_true, Bool.or_eq_true, Bool.and_eq_false_iff, Bool.or_eq_false_iff, beq_iff_eq, bne_iff_ne, beq_eq_false_iff_ne, bne_eq_false_iff_eq, Int.not_lt, Int.not_le, ge_iff_le, gt_iff_lt, not_or, not_and, Bool.cond_true_right, Bool.cond_true_left, Bool.cond_false_right, Bool.cond_false_left, bif_t, bif_f] at hg); first | (with_reducible assumption) | omega | (simp only [reduceCtorEq, ints_len, bools_len, Bool.not_false, Bool.not_true, List.length_map, decide_eq_true_eq, decide_eq_false_iff_not, Bool.not_eq_true', Bool.not_eq_false', Bool.and_eq_true, Bool.or_eq_true, Bool.and_eq_false_iff, Bool.or_eq_false_iff, beq_iff_eq, bne_iff_ne, beq_eq_false_iff_ne, bne_eq_false_iff_eq, Int.not_lt, Int.not_le, ge_iff_le, gt_iff_lt, not_or, not_and, Bool.cond_true_right, Bool.cond_true_left, Bool.cond_false_right, Bool.cond_false_left, bif_t, bif_f] at *; omega) | (refine ⟨?_, ?_⟩ <;> omega)) | (refine ⟨?_, ?_⟩ <;> omega) | (simp [*]; done) | grind)); (conv => whnf))
      refine ⟨kids.length - (i + 1), by omega, [], ?_⟩
      conv => whnf
      refine ⟨i + 1, by omega, rfl, ?_⟩
      have e : (((treesBulk (kids.take i) + ref.str.length + 1 : Nat) : Int) + ((Tree.mk xop xkind xn xref xkids).bulk : Int)) = ((treesBulk (kids.take (i + 1)) + ref.str.length + 1 : Nat) : Int) := by rw [htk]; omega
      rw [← e]; rfl
    · have hi' : i = kids.length := by omega
      subst hi'
      rw [List.take_length]
      (refine ⟨[], ?_⟩; (conv => whnf); refine ⟨[], .nil, .nil, ?_⟩; (conv => whnf))
theorem ok60 : ∀ m : Nat, VSound Try.prog (60, R60 m)
  | 0 => ok60_0
  | m + 1 => ok60_s m (ok60 m)
/-- how large a kernel's Sets are -/
def setsSize : List ASet → Nat
  | [] => 0
  | s :: l => s.val.bulk + s.to.str.length + treesBulk s.mask + setsSize l
theorem setsSize_le : ∀ l : List ASet, setsSize l ≤ setsBulk l
  | [] => Nat.le_refl _
  | s :: l => by have := setsSize_le l; rw [setsSize, setsBulk, ASet.bulk]; omega
theorem setsSize_snoc (s : ASet) : ∀ l : List ASet, setsSize (l ++ [s]) = setsSize l + (s.val.bulk + s.to.str.length + treesBulk s.mask)
  | [] => by simp [setsSize]
  | x :: l => by rw [List.cons_append, setsSize, setsSize_snoc s l, setsSize]; omega
theorem setsSize_take1 {l : List ASet} {i : Nat} {x : ASet} (h : l[i]? = some x) : setsSize (l.take (i + 1)) = setsSize (l.take i) + (x.val.bulk + x.to.str.length + treesBulk x.mask) := by
  rw [List.take_add_one, h]; exact setsSize_snoc ..
theorem setsSize_take : ∀ (l : List ASet) (i : Nat), setsSize (l.take i) ≤ setsSize l
  | [], i => by simp
  | t :: l, 0 => by simp [setsSize]
  | t :: l, i + 1 => by have := setsSize_take l i; rw [List.take_succ_cons, setsSize, setsSize]; omega
def large (k : Kern) : Bool := decide (60 < many k.ext ∨ 20 < k.ext.length ∨ 20 < k.sets.length ∨ 200 < setsSize k.sets)
def R15 : Ct := fun ss hp r out => ∃ k : Kern, ss = [.v (.ag (k.c.map .d))] ∧ hp = [] ∧ k.bulk ≤ 4194304 ∧ r = .db (large k) ∧ out = []
set_option maxHeartbeats 4000000 in
theorem ok15 : VSound Try.prog (15, R15) := by
  refine vsound (T := ty) (F := [(59, R59), (60, R60 4194305)]) (pl := [(7, [[], [], [1], [], [1, 2, 3], [1, 2, 3, 4], [1, 2, 3, 4, 5], [1, 2, 3, 4, 5, 6], [], [8], [], [8, 9, 10], [8, 9, 10, 11], [8, 9, 10, 11, 12], [8, 9, 10, 11, 12, 13], [8, 9, 10, 11, 12, 13, 14], [1, 2, 3, 4, 5, 6, 7, 8, 9, 10, 11, 12, 13, 14, 15], [0, 1, 2, 3, 4, 5, 6, 7, 8, 9, 10, 11, 12, 13, 14, 15, 16], [0, 1, 2, 3, 4, 5, 6, 7, 8, 9, 10, 11, 12, 13, 14, 15, 16, 17]], .look 0 (.look 1 (.look 2 (.look 3 (.look 4 (.look 5 (.look 6 (.look 8 (.look 9 (.look 10 (.look 11 (.look 12 (.look 13 (.look 14 (.look 15 (.act 7 [0, 8, 9, 10, 11, 12, 13, 14, 15] (.look 16 (.look 17 (.look 18 .done))) .stop))))))))))))))))]) (nw := true) (cuts := []) mix tyOk (.cons (ok59) (.cons (ok60 4194305) .nil)) Try.func15 (by kernel_rfl) (by kernel_rfl) ?_
  rintro _ _ _ _ ⟨⟨ext, sets⟩, rfl, rfl, hm, rfl, rfl⟩
  simp only [Kern.bulk] at hm
  have hkl := setsBulk_len sets
  have hsz := setsSize_le sets
  conv => whnf
  (refine ⟨[], false, false, ?_⟩; (conv => whnf); refine ⟨_, _, ⟨ext, rfl, rfl, by omega, rfl, rfl⟩, ?_⟩; (conv => whnf))
  (repeat (refine And.intro ?_ ?_; ((first | (with_reducible assumption) | (intro _; with_reducible assumption) | omega | (simp only [reduceCtorEq, ints_len, bools_len, Bool.not_false, Bool.not_true, List.length_map, decide_eq_true_eq, decide_eq_false_iff_not, Bool.not_eq_true', Bool.not_eq_false', Bool.and_eq_true, Bool.or_eq_true, Bool.and_eq_false_iff, Bool.or_eq_false_iff, beq_iff_eq, bne_iff_ne, beq_eq_false_iff_ne, bne_eq_false_iff_eq, Int.not_lt, Int.not_le, ge_iff_le, gt_iff_lt, not_or, not_and, Bool.cond_true_right, Bool.cond_true_left, Bool.cond_false_right, Bool.cond_false_left, bif_t, bif_f] at *; omega) | (intro hg; (try simp only [reduceCtorEq, ints_len, bools_len, Bool.not_false, Bool.not_true, List.length_map, decide_eq_true_eq, decide_eq_false_iff_not, Bool.not_eq_true', Bool.not_eq_false', Bool.and_eq_true, Bool.or_eq_true, Bool.and_eq_false_iff, Bool.or_eq_false_iff, beq_iff_eq, bne_iff_ne, beq_eq_false_iff_ne, bne_eq_false_iff_eq, Int.not_lt, Int.not_le, ge_iff_le, gt_iff_lt, not_or, not_and, Bool.cond_true_right, Bool.cond_true_left, Bool.cond_false_right, Bool.cond_false_left, bif_t, bif_f] at hg); first | (with_reducible assumption) | omega | (simp only [reduceCtorEq, ints_len, bools_len, Bool.not_false, Bool.not_true, List.length_map, decide_eq_true_eq, decide_eq_false_iff_not, Bool.not_eq_true', Bool.not_eq_false', Bool.and_eq_true, Bool.or_eq_true, Bool.and_eq_false_iff, Bool.or_eq_false_iff, beq_iff_eq, bne_iff_ne, beq_eq_false_iff_ne, bne_eq_false_iff_eq, Int.not_lt, Int.not_le, ge_iff_le, gt_iff_lt, not_or, not_and, Bool.cond_true_right, Bool.cond_true_left, Bool.cond_false_right, Bool.cond_false_left, bif_t, bif_f] at *; omega) | (refine ⟨?_, ?_⟩ <;> omega)) | (refine ⟨?_, ?_⟩ <;> omega) | (simp [*]; done) | grind)); (conv => whnf)))
  refine ⟨fun e => ?_, fun e => ?_⟩
  · try simp only [reduceCtorEq, ints_len, bools_len, Bool.not_false, Bool.not_true, List.length_map, decide_eq_true_eq, decide_eq_false_iff_not, Bool.not_eq_true', Bool.not_eq_false', Bool.and_eq_true, Bool.or_eq_true, Bool.and_eq_false_iff, Bool.or_eq_false_iff, beq_iff_eq, bne_iff_ne, beq_eq_false_iff_ne, bne_eq_false_iff_eq, Int.not_lt, Int.not_le, ge_iff_le, gt_iff_lt, not_or, not_and, Bool.cond_true_right, Bool.cond_true_left, Bool.cond_false_right, Bool.cond_false_left, bif_t, bif_f] at e
    conv => whnf
    (refine ⟨[], ?_⟩; (conv => whnf); refine ⟨[], .nil, .nil, ?_⟩; (conv => whnf))
    congr 1
    unfold large
    refine (decide_eq_true ?_).symm
    simp only
    omega
  · try simp only [reduceCtorEq, ints_len, bools_len, Bool.not_false, Bool.not_true, List.length_map, decide_eq_true_eq, decide_eq_false_iff_not, Bool.not_eq_true', Bool.not_eq_false', Bool.and_eq_true, Bool.or_eq_true, Bool.and_eq_false_iff, Bool.or_eq_false_iff, beq_iff_eq, bne_iff_ne, beq_eq_false_iff_ne, bne_eq_false_iff_eq, Int.not_lt, Int.not_le, ge_iff_le, gt_iff_lt, not_or, not_and, Bool.cond_true_right, Bool.cond_true_left, Bool.cond_false_right, Bool.cond_false_left, bif_t, bif_f] at e
    have e1 := e
    conv => whnf
    refine ⟨[], [1, 3, 4], 1, fun n1 σ => ∃ i : Nat, i ≤ sets.length ∧ n1 = sets.length - i ∧ σ = (⟨[.junk, .one (.ptr 0 0), .junk, .di .i64 (setsSize (sets.take i) : Nat), .di .i64 i, .junk, .junk, .junk, .junk, .junk, .junk, .junk, .junk, .junk, .junk, .junk, .junk, .junk, .junk, .junk, .junk, .junk, .junk, .junk, .junk, .junk, .junk, .junk, .junk, .junk, .junk, .junk, .junk, .junk, .junk, .junk, .junk, .junk, .junk, .junk, .junk, .junk, .junk, .junk, .junk, .junk, .junk, .junk, .junk, .junk, .junk, .junk, .junk, .junk, .junk, .junk, .junk, .junk, .junk, .junk, .junk, .junk, .junk, .junk, .junk, .junk, .junk, .junk, .junk, .junk, .junk, .junk], [.box (List.map .d (Kern.mk ext sets).c)]⟩ : St), ?_, ?_⟩
    · refine ⟨sets.length, ?_⟩
      conv => whnf
      exact ⟨0, by omega, by omega, rfl⟩
    · rintro n1 _ ⟨i, hi, rfl, rfl⟩
      conv => whnf
      ((with_reducible refine And.intro (fun (e : (_ : Bool) = true) => ?_) (fun (e : (_ : Bool) = false) => ?_)) <;> (try simp only [reduceCtorEq, ints_len, bools_len, Bool.not_false, Bool.not_true, List.length_map, decide_eq_true_eq, decide_eq_false_iff_not, Bool.not_eq_true', Bool.not_eq_false', Bool.and_eq_true, Bool.or_eq_true, Bool.and_eq_false_iff, Bool.or_eq_false_iff, beq_iff_eq, bne_iff_ne, beq_eq_false_iff_ne, bne_eq_false_iff_eq, Int.not_lt, Int.not_le, ge_iff_le, gt_iff_lt, not_or, not_and, Bool.cond_true_right, Bool.cond_true_left, Bool.cond_false_right, Bool.cond_false_left, bif_t, bif_f] at e) <;> (conv => whnf))
      · have hlt : i < sets.length := by omega
        obtain ⟨x, hget⟩ := get_lt hlt
        have hb := setsBulk_get hget
        have htk := setsSize_take1 hget
        have hw2 := setsSize_take sets (i + 1)
        (refine ⟨_, And.intro ⟨by omega, enc_get hget⟩ ?_⟩; (conv => whnf))
        obtain ⟨⟨xa, xb, xs⟩, mask, ⟨op, kind, n, ref, kids⟩⟩ := x
        simp only [ASet.bulk] at hb
        simp only at htk
        have hmk := treesBulk_len mask
        conv => whnf
        (refine ⟨_, And.intro ⟨by omega, enc_get hget⟩ ?_⟩; (conv => whnf))
        (refine ⟨[], false, false, ?_⟩; (conv => whnf); refine ⟨_, _, ⟨.mk op kind n ref kids, rfl, rfl, by omega, by omega, rfl, rfl⟩, ?_⟩; (conv => whnf))
        rw [htk] at hw2
        generalize hV : (Tree.mk op kind n ref kids).bulk = V at *
        (refine And.intro ?_ ?_; ((first | (with_reducible assumption) | (intro _; with_reducible assumption) | omega | (simp only [reduceCtorEq, ints_len, bools_len, Bool.not_false, Bool.not_true, List.length_map, decide_eq_true_eq, decide_eq_false_iff_not, Bool.not_eq_true', Bool.not_eq_false', Bool.and_eq_true, Bool.or_eq_true, Bool.and_eq_false_iff, Bool.or_eq_false_iff, beq_iff_eq, bne_iff_ne, beq_eq_false_iff_ne, bne_eq_false_iff_eq, Int.not_lt, Int.not_le, ge_iff_le, gt_iff_lt, not_or, not_and, Bool.cond_true_right, Bool.cond_true_left, Bool.cond_false_right, Bool.cond_false_left, bif_t, bif_f] at *; omega) | (intro hg; (try simp only [reduceCtorEq, ints_len, bools_len, Bool.not_false, Bool.not_true, List.length_map, decide_eq_true_eq, decide_eq_false_iff_not, Bool.not_eq_true', Bool.not_eq_false', Bool.and_eq_true, Bool.or_eq_true, Bool.and_eq_false_iff, Bool.or_eq_false_iff, beq_iff_eq, bne_iff_ne, beq_eq_false_iff_ne, bne_eq_false_iff_eq, Int.not_lt, Int.not_le, ge_iff_le, gt_iff_lt, not_or, not_and, Bool.cond_true_right, Bool.cond_true_left, Bool.cond_false_right, Bool.cond_false_left, bif_t, bif_f] at hg); first | (with_reducible assumption) | omega | (simp only [reduceCtorEq, ints_len, bools_len, Bool.not_false, Bool.not_true, List.length_map, decide_eq_true_eq, decide_eq_false_iff_not, Bool.not_eq_true', Bool.not_eq_false', Bool.and_eq_true, Bool.or_eq_true, Bool.and_eq_false_iff, Bool.or_eq_false_iff, beq_iff_eq, bne_iff_ne, beq_eq_false_iff_ne, bne_eq_false_iff_eq, Int.not_lt, Int.not_le, ge_iff_le, gt_iff_lt, not_or, not_and, Bool.cond_true_right, Bool.cond_true_left, Bool.cond_false_right, Bool.cond_false_left, bif_t, bif_f] at *; omega) | (refine ⟨?_, ?_⟩ <;> omega)) | (refine ⟨?_, ?_⟩ <;> omega) | (simp [*]; done) | grind)); (conv => whnf))
        (refine And.intro ?_ ?_; ((first | (with_reducible assumption) | (intro _; with_reducible assumption) | omega | (simp only [reduceCtorEq, ints_len, bools_len, Bool.not_false, Bool.not_true, List.length_map, decide_eq_true_eq, decide_eq_false_iff_not, Bool.not_eq_true', Bool.not_eq_false', Bool.and_eq_true, Bool.or_eq_true, Bool.and_eq_false_iff, Bool.or_eq_false_iff, beq_iff_eq, bne_iff_ne, beq_eq_false_iff_ne, bne_eq_false_iff_eq, Int.not_lt, Int.not_le, ge_iff_le, gt_iff_lt, not_or, not_and, Bool.cond_true_right, Bool.cond_true_left, Bool.cond_false_right, Bool.cond_false_left, bif_t, bif_f] at *; omega) | (intro hg; (try simp only [reduceCtorEq, ints_len, bools_len, Bool.not_false, Bool.not_true, List.length_map, decide_eq_true_eq, decide_eq_false_iff_not, Bool.not_eq_true', Bool.not_eq_false', Bool.and_eq_true, Bool.or_eq_true, Bool.and_eq_false_iff, Bool.or_eq_false_iff, beq_iff_eq, bne_iff_ne, beq_eq_false_iff_ne, bne_eq_false_iff_eq, Int.not_lt, Int.not_le, ge_iff_le, gt_iff_lt, not_or, not_and, Bool.cond_true_right, Bool.cond_true_left, Bool.cond_false_right, Bool.cond_false_left, bif_t, bif_f] at hg); first | (with_reducible assumption) | omega | (simp only [reduceCtorEq, ints_len, bools_len, Bool.not_false, Bool.not_true, List.length_map, decide_eq_true_eq, decide_eq_false_iff_not, Bool.not_eq_true', Bool.not_eq_false', Bool.and_eq_true, Bool.or_eq_true, Bool.and_eq_false_iff, Bool.or_eq_false_iff, beq_iff_eq, bne_iff_ne, beq_eq_false_iff_ne, bne_eq_false_iff_eq, Int.not_lt, Int.not_le, ge_iff_le, gt_iff_lt, not_or, not_and, Bool.cond_true_right, Bool.cond_true_left, Bool.cond_false_right, Bool.cond_false_left, bif_t, bif_f] at *; omega) | (refine ⟨?_, ?_⟩ <;> omega)) | (refine ⟨?_, ?_⟩ <;> omega) | (simp [*]; done) | grind)); (conv => whnf))
        refine ⟨[], [1, 3, 4, 5], 1, fun n2 σ => ∃ j : Nat, j ≤ mask.length ∧ n2 = mask.length - j ∧ σ = (⟨[.junk, .one (.ptr 0 0), .junk, .di .i64 (setsSize (sets.take i) + (V + xs.length) + treesBulk (mask.take j) : Nat), .di .i64 i, .di .i64 j, .junk, .junk, .junk, .junk, .junk, .junk, .junk, .junk, .junk, .junk, .junk, .junk, .junk, .junk, .junk, .junk, .junk, .junk, .junk, .junk, .junk, .junk, .junk, .junk, .junk, .junk, .junk, .junk, .junk, .junk, .junk, .junk, .junk, .junk, .junk, .junk, .junk, .junk, .junk, .junk, .junk, .junk, .junk, .junk, .junk, .junk, .junk, .junk, .junk, .junk, .junk, .junk, .junk, .junk, .junk, .junk, .junk, .junk, .junk, .junk, .junk, .junk, .junk, .junk, .junk, .junk], [.box (List.map .d (Kern.mk ext sets).c)]⟩ : St), ?_, ?_⟩
        · refine ⟨mask.length, ?_⟩
          conv => whnf
          refine ⟨0, by omega, by omega, ?_⟩
          have e : ((setsSize (sets.take i) : Nat) : Int) + ((V : Int) + ((ints xs).length : Int)) = ((setsSize (sets.take i) + (V + xs.length) + treesBulk (mask.take 0) : Nat) : Int) := by rw [ints_len]; simp [treesBulk]
          rw [← e]; rfl
        · rintro n2 _ ⟨j, hj, rfl, rfl⟩
          conv => whnf
          (refine ⟨_, And.intro ⟨by omega, enc_get hget⟩ ?_⟩; (conv => whnf))
          ((with_reducible refine And.intro (fun (e : (_ : Bool) = true) => ?_) (fun (e : (_ : Bool) = false) => ?_)) <;> (try simp only [reduceCtorEq, ints_len, bools_len, Bool.not_false, Bool.not_true, List.length_map, decide_eq_true_eq, decide_eq_false_iff_not, Bool.not_eq_true', Bool.not_eq_false', Bool.and_eq_true, Bool.or_eq_true, Bool.and_eq_false_iff, Bool.or_eq_false_iff, beq_iff_eq, bne_iff_ne, beq_eq_false_iff_ne, bne_eq_false_iff_eq, Int.not_lt, Int.not_le, ge_iff_le, gt_iff_lt, not_or, not_and, Bool.cond_true_right, Bool.cond_true_left, Bool.cond_false_right, Bool.cond_false_left, bif_t, bif_f] at e) <;> (conv => whnf))
          · obtain ⟨y, hy⟩ := get_lt (l := mask) (i := j) (by omega)
            have hyb := treesBulk_get hy
            have hyk := treesBulk_take1 hy
            have hy2 := treesBulk_take mask (j + 1)
            (refine ⟨_, And.intro ⟨by omega, enc_get hget⟩ ?_⟩; (conv => whnf))
            (refine ⟨_, And.intro ⟨by omega, enc_get hy⟩ ?_⟩; (conv => whnf))
            obtain ⟨yop, ykind, yn, yref, ykids⟩ := y
            conv => whnf
            (refine ⟨[], false, false, ?_⟩; (conv => whnf); refine ⟨_, _, ⟨.mk yop ykind yn yref ykids, rfl, rfl, by omega, by omega, rfl, rfl⟩, ?_⟩; (conv => whnf))
            rw [hyk] at hy2
            (refine And.intro ?_ ?_; ((first | (with_reducible assumption) | (intro _; with_reducible assumption) | omega | (simp only [reduceCtorEq, ints_len, bools_len, Bool.not_false, Bool.not_true, List.length_map, decide_eq_true_eq, decide_eq_false_iff_not, Bool.not_eq_true', Bool.not_eq_false', Bool.and_eq_true, Bool.or_eq_true, Bool.and_eq_false_iff, Bool.or_eq_false_iff, beq_iff_eq, bne_iff_ne, beq_eq_false_iff_ne, bne_eq_false_iff_eq, Int.not_lt, Int.not_le, ge_iff_le, gt_iff_lt, not_or, not_and, Bool.cond_true_right, Bool.cond_true_left, Bool.cond_false_right, Bool.cond_false_left, bif_t, bif_f] at *; omega) | (intro hg; (try simp only [reduceCtorEq, ints_len, bools_len, Bool.not_false, Bool.not_true, List.length_map, decide_eq_true_eq, decide_eq_false_iff_not, Bool.not_eq_true', Bool.not_eq_false', Bool.and_eq_true, Bool.or_eq_true, Bool.and_eq_false_iff, Bool.or_eq_false_iff, beq_iff_eq, bne_iff_ne, beq_eq_false_iff_ne, bne_eq_false_iff_eq, Int.not_lt, Int.not_le, ge_iff_le, gt_iff_lt, not_or, not_and, Bool.cond_true_right, Bool.cond_true_left, Bool.cond_false_right, Bool.cond_false_left, bif_t, bif_f] at hg); first | (with_reducible assumption) | omega | (simp only [reduceCtorEq, ints_len, bools_len, Bool.not_false, Bool.not_true, List.length_map, decide_eq_true_eq, decide_eq_false_iff_not, Bool.not_eq_true', Bool.not_eq_false', Bool.and_eq_true, Bool.or_eq_true, Bool.and_eq_false_iff, Bool.or_eq_false_iff, beq_iff_eq, bne_iff_ne, beq_eq_false_iff_ne, bne_eq_false_iff_eq, Int.not_lt, Int.not_le, ge_iff_le, gt_iff_lt, not_or, not_and, Bool.cond_true_right, Bool.cond_true_left, Bool.cond_false_right, Bool.cond_false_left, bif_t, bif_f] at *; omega) | (refine ⟨?_, ?_⟩ <;> omega)) | (refine ⟨?_, ?_⟩ <;> omega) | (simp [*]; done) | grind)); (conv => whnf))
            (refine And.intro ?_ ?_; ((first | (with_reducible assumption) | (intro _; with_reducible assumption) | omega | (simp only [reduceCtorEq, ints_len, bools_len, Bool.not_false, Bool.not_true, List.length_map, decide_eq_true_eq, decide_eq_false_iff_not, Bool.not_eq_true', Bool.not_eq_false', Bool.and_eq_true, Bool.or_eq_true, Bool.and_eq_false_iff, Bool.or_eq_false_iff, beq_iff_eq, bne_iff_ne, beq_eq_false_iff_ne, bne_eq_false_iff_eq, Int.not_lt, Int.not_le, ge_iff_le, gt_iff_lt, not_or, not_and, Bool.cond_true_right, Bool.cond_true_left, Bool.cond_false_right, Bool.cond_false_left, bif_t, bif_f] at *; omega) | (intro hg; (try simp only [reduceCtorEq, ints_len, bools_len, Bool.not_false, Bool.not_true, List.length_map, decide_eq_true_eq, decide_eq_false_iff_not, Bool.not_eq_true', Bool.not_eq_false', Bool.and_eq_true, Bool.or_eq_true, Bool.and_eq_false_iff, Bool.or_eq_false_iff, beq_iff_eq, bne_iff_ne, beq_eq_false_iff_ne, bne_eq_false_iff_eq, Int.not_lt, Int.not_le, ge_iff_le, gt_iff_lt, not_or, not_and, Bool.cond_true_right, Bool.cond_true_left, Bool.cond_false_right, Bool.cond_false_left, bif_t, bif_f] at hg); first | (with_reducible assumption) | omega | (simp only [reduceCtorEq, ints_len, bools_len, Bool.not_false, Bool.not_true, List.length_map, decide_eq_true_eq, decide_eq_false_iff_not, Bool.not_eq_true', Bool.not_eq_false', Bool.and_eq_true, Bool.or_eq_true, Bool.and_eq_false_iff, Bool.or_eq_false_iff, beq_iff_eq, bne_iff_ne, beq_eq_false_iff_ne, bne_eq_false_iff_eq, Int.not_lt, Int.not_le, ge_iff_le, gt_iff_lt, not_or, not_and, Bool.cond_true_right, Bool.cond_true_left, Bool.cond_false_right, Bool.cond_false_left, bif_t, bif_f] at *; omega) | (refine ⟨?_, ?_⟩ <;> omega)) | (refine ⟨?_, ?_⟩ <;> omega) | (simp [*]; done) | grind)); (conv => whnf))
            refine ⟨mask.length - (j + 1), by omega, [], ?_⟩
            conv => whnf
            refine ⟨j + 1, by omega, rfl, ?_⟩
            have e : ((setsSize (sets.take i) + (V + xs.length) + treesBulk (mask.take j) : Nat) : Int) + ((Tree.mk yop ykind yn yref ykids).bulk : Int) = ((setsSize (sets.take i) + (V + xs.length) + treesBulk (mask.take (j + 1)) : Nat) : Int) := by rw [hyk]; omega
            rw [← e]; rfl
          · have hj' : j = mask.length := by omega
            subst hj'
            (refine And.intro ?_ ?_; ((first | (with_reducible assumption) | (intro _; with_reducible assumption) | omega | (simp only [reduceCtorEq, ints_len, bools_len, Bool.not_false, Bool.not_true, List.length_map, decide_eq_true_eq, decide_eq_false_iff_not, Bool.not_eq_true', Bool.not_eq_false', Bool.and_eq_true, Bool.or_eq_true, Bool.and_eq_false_iff, Bool.or_eq_false_iff, beq_iff_eq, bne_iff_ne, beq_eq_false_iff_ne, bne_eq_false_iff_eq, Int.not_lt, Int.not_le, ge_iff_le, gt_iff_lt, not_or, not_and, Bool.cond_true_right, Bool.cond_true_left, Bool.cond_false_right, Bool.cond_false_left, bif_t, bif_f] at *; omega) | (intro hg; (try simp only [reduceCtorEq, ints_len, bools_len, Bool.not_false, Bool.not_true, List.length_map, decide_eq_true_eq, decide_eq_false_iff_not, Bool.not_eq_true', Bool.not_eq_false', Bool.and_eq_true, Bool.or_eq_true, Bool.and_eq_false_iff, Bool.or_eq_false_iff, beq_iff_eq, bne_iff_ne, beq_eq_false_iff_ne, bne_eq_false_iff_eq, Int.not_lt, Int.not_le, ge_iff_le, gt_iff_lt, not_or, not_and, Bool.cond_true_right, Bool.cond_true_left, Bool.cond_false_right, Bool.cond_false_left, bif_t, bif_f] at hg); first | (with_reducible assumption) | omega | (simp only [reduceCtorEq, ints_len, bools_len, Bool.not_false, Bool.not_true, List.length_map, decide_eq_true_eq, decide_eq_false_iff_not, Bool.not_eq_true', Bool.not_eq_false', Bool.and_eq_true, Bool.or_eq_true, Bool.and_eq_false_iff, Bool.or_eq_false_iff, beq_iff_eq, bne_iff_ne, beq_eq_false_iff_ne, bne_eq_false_iff_eq, Int.not_lt, Int.not_le, ge_iff_le, gt_iff_lt, not_or, not_and, Bool.cond_true_right, Bool.cond_true_left, Bool.cond_false_right, Bool.cond_false_left, bif_t, bif_f] at *; omega) | (refine ⟨?_, ?_⟩ <;> omega)) | (refine ⟨?_, ?_⟩ <;> omega) | (simp [*]; done) | grind)); (conv => whnf))
            refine ⟨sets.length - (i + 1), by omega, [], ?_⟩
            conv => whnf
            refine ⟨i + 1, by omega, rfl, ?_⟩
            have e : ((setsSize (sets.take (i + 1)) : Nat) : Int) = ((setsSize (sets.take i) + (V + xs.length) + treesBulk (mask.take mask.length) : Nat) : Int) := by rw [htk, List.take_length]; omega
            rw [e]; rfl
      · have hi' : i = sets.length := by omega
        subst hi'
        rw [List.take_length]
        (refine ⟨[], ?_⟩; (conv => whnf); refine ⟨[], .nil, .nil, ?_⟩; (conv => whnf))
        congr 1
        unfold large
        simp only [decide_eq_decide]
        omega
/-- the reference's loads, behind those that are there -/
def R128 (m : Nat) : Ct := fun ss hp r out => ∃ (t : Tree) (L : List Ref) (v : Value), ss = [.v (.ag (t.c.map .d)), .one (.own 0)] ∧ hp = [.row 3 (L.map Ref.c), .mem v (.own 0)] ∧ t.bulk < m ∧ m ≤ 4194305 ∧ L.length + t.bulk ≤ 8388608 ∧ r = .one (.own 0) ∧ out = [.row 3 ((L ++ t.loads).map Ref.c), .mem v .junk]
theorem ok128_0 : VSound Try.prog (128, R128 0) := by
  refine .inl ⟨?_, enterB_ok (by kernel_rfl)⟩
  unfold Ok
  intros
  rename_i hR
  obtain ⟨t, _, _, _, _, h, _⟩ := hR
  omega
set_option maxHeartbeats 4000000 in
theorem ok128_s (m : Nat) (ih : VSound Try.prog (128, R128 m)) : VSound Try.prog (128, R128 (m + 1)) := by
  refine vsound (T := ty) (F := [(128, R128 m)]) (pl := []) (nw := true) (cuts := []) mix tyOk (.cons (ih) .nil) Try.func128 (by kernel_rfl) (by kernel_rfl) ?_
  rintro _ _ _ _ ⟨⟨op, kind, n, ref, kids⟩, L, v, rfl, rfl, hm, hm2, hL, rfl, rfl⟩
  rw [Tree.bulk] at hm hL
  have hkl := treesBulk_len kids
  conv => whnf
  refine ⟨[.forget 1], [1, 2, 5], 3, fun n1 σ => ∃ i : Nat, i ≤ kids.length ∧ n1 = kids.length - i ∧ σ = (⟨[.junk, .one (.own 0), .one (.ptr 2 0), .junk, .junk, .di .i64 i, .junk, .junk, .junk, .junk, .junk, .junk, .junk, .junk, .junk, .junk, .junk, .junk, .junk, .junk, .junk, .junk, .junk, .junk, .junk, .junk, .junk, .junk, .junk], [.row 3 ((L ++ treesLoads (kids.take i)).map Ref.c), .mem v .junk, .box (List.map .d (Tree.mk op kind n ref kids).c)]⟩ : St), ?_, ?_⟩
  · refine ⟨kids.length, ?_⟩
    conv => whnf
    refine ⟨0, by omega, by omega, ?_⟩
    rw [List.take_zero, treesLoads, List.append_nil]; rfl
  · rintro n1 _ ⟨i, hi, rfl, rfl⟩
    have hw := treesLoads_len (kids.take i)
    conv => whnf
    rw [show ((treesC kids).length : Int) = kids.length by rw [treesC_map, map_len]]
    ((with_reducible refine And.intro (fun (e : (_ : Bool) = true) => ?_) (fun (e : (_ : Bool) = false) => ?_)) <;> (try simp only [reduceCtorEq, ints_len, bools_len, Bool.not_false, Bool.not_true, List.length_map, decide_eq_true_eq, decide_eq_false_iff_not, Bool.not_eq_true', Bool.not_eq_false', Bool.and_eq_true, Bool.or_eq_true, Bool.and_eq_false_iff, Bool.or_eq_false_iff, beq_iff_eq, bne_iff_ne, beq_eq_false_iff_ne, bne_eq_false_iff_eq, Int.not_lt, Int.not_le, ge_iff_le, gt_iff_lt, not_or, not_and, Bool.cond_true_right, Bool.cond_true_left, Bool.cond_false_right, Bool.cond_false_left, bif_t, bif_f] at e) <;> (conv => whnf))
    · have hlt : i < kids.length := by omega
      obtain ⟨x, hget⟩ := get_lt hlt
      have hb := treesBulk_get hget
      have hl := treesLoads_take hget
      have hw1 := treesBulk_take1 hget
      have hw2 := treesBulk_take kids (i + 1)
      (refine ⟨_, And.intro ⟨by omega, (trees_get hget)⟩ ?_⟩; (conv => whnf))
      obtain ⟨xop, xkind, xn, xref, xkids⟩ := x
      conv => whnf
      refine ⟨[0], false, false, ?_⟩
      conv => whnf
      intro v2
      conv => whnf
      refine ⟨_, _, ⟨.mk xop xkind xn xref xkids, L ++ treesLoads (kids.take i), v2, rfl, rfl, by omega, by omega, by rw [List.length_append]; omega, rfl, rfl⟩, ?_⟩
      conv => whnf
      refine ⟨rfl, ?_⟩
      conv => whnf
      (refine And.intro ?_ ?_; ((first | (with_reducible assumption) | (intro _; with_reducible assumption) | omega | (simp only [reduceCtorEq, ints_len, bools_len, Bool.not_false, Bool.not_true, List.length_map, decide_eq_true_eq, decide_eq_false_iff_not, Bool.not_eq_true', Bool.not_eq_false', Bool.and_eq_true, Bool.or_eq_true, Bool.and_eq_false_iff, Bool.or_eq_false_iff, beq_iff_eq, bne_iff_ne, beq_eq_false_iff_ne, bne_eq_false_iff_eq, Int.not_lt, Int.not_le, ge_iff_le, gt_iff_lt, not_or, not_and, Bool.cond_true_right, Bool.cond_true_left, Bool.cond_false_right, Bool.cond_false_left, bif_t, bif_f] at *; omega) | (intro hg; (try simp only [reduceCtorEq, ints_len, bools_len, Bool.not_false, Bool.not_true, List.length_map, decide_eq_true_eq, decide_eq_false_iff_not, Bool.not_eq_true', Bool.not_eq_false', Bool.and_eq_true, Bool.or_eq_true, Bool.and_eq_false_iff, Bool.or_eq_false_iff, beq_iff_eq, bne_iff_ne, beq_eq_false_iff_ne, bne_eq_false_iff_eq, Int.not_lt, Int.not_le, ge_iff_le, gt_iff_lt, not_or, not_and, Bool.cond_true_right, Bool.cond_true_left, Bool.cond_false_right, Bool.cond_false_left, bif_t, bif_f] at hg); first | (with_reducible assumption) | omega | (simp only [reduceCtorEq, ints_len, bools_len, Bool.not_false, Bool.not_true, List.length_map, decide_eq_true_eq, decide_eq_false_iff_not, Bool.not_eq_true', Bool.not_eq_false', Bool.and_eq_true, Bool.or_eq_true, Bool.and_eq_false_iff, Bool.or_eq_false_iff, beq_iff_eq, bne_iff_ne, beq_eq_false_iff_ne, bne_eq_false_iff_eq, Int.not_lt, Int.not_le, ge_iff_le, gt_iff_lt, not_or, not_and, Bool.cond_true_right, Bool.cond_true_left, Bool.cond_false_right, Bool.cond_false_left, bif_t, bif_f] at *; omega) | (refine ⟨?_, ?_⟩ <;> omega)) | (refine ⟨?_, ?_⟩ <;> omega) | (simp [*]; done) | grind)); (conv => whnf))
      refine ⟨kids.length - (i + 1), by omega, [], ?_⟩
      conv => whnf
      refine ⟨i + 1, by omega, rfl, ?_⟩
      rw [hl, ← List.append_assoc]; rfl
    · have hi' : i = kids.length := by omega
      subst hi'
      rw [List.take_length] at hw ⊢
      refine ⟨fun e => ?_, fun e => ?_⟩
      · conv => whnf
        refine ⟨by rw [map_len, List.length_append]; simp only [List.length_cons, List.length_nil]; omega, ?_⟩
        conv => whnf
        have hT : treesLoads kids ++ [ref] = (Tree.mk op kind n ref kids).loads := by rw [Tree.loads, if_pos (show isLoad op = true from e)]
        refine ⟨[], ?_⟩
        conv => whnf
        refine ⟨[0, 1], by simp, .cons ⟨_, rfl, rfl, ?_⟩ (.cons ⟨_, rfl, rfl, trivial⟩ .nil), rfl⟩
        rw [← hT, ← List.append_assoc, List.map_append (l₂ := [ref])]; rfl
      · conv => whnf
        have hT : treesLoads kids = (Tree.mk op kind n ref kids).loads := by rw [Tree.loads, if_neg (by rw [isLoad, e]; simp), List.append_nil]
        refine ⟨[], ?_⟩
        conv => whnf
        refine ⟨[0, 1], by simp, .cons ⟨_, rfl, rfl, ?_⟩ (.cons ⟨_, rfl, rfl, trivial⟩ .nil), rfl⟩
        rw [← hT]
theorem ok128 : ∀ m : Nat, VSound Try.prog (128, R128 m)
  | 0 => ok128_0
  | m + 1 => ok128_s m (ok128 m)
def R99 : Ct := fun ss hp r out => ∃ s : ASet, ss = [.v (.ag (s.c.map .d))] ∧ hp = [] ∧ s.bulk ≤ 4194304 ∧ r = .one (.own 0) ∧ out = [.row 3 (s.loads.map Ref.c)]
set_option maxHeartbeats 4000000 in
theorem ok99 : VSound Try.prog (99, R99) := by
  refine vsound (T := ty) (F := [(128, R128 4194305)]) (pl := []) (nw := true) (cuts := []) mix tyOk (.cons (ok128 4194305) .nil) Try.func99 (by kernel_rfl) (by kernel_rfl) ?_
  rintro _ _ _ _ ⟨⟨⟨xa, xb, xs⟩, mask, ⟨op, kind, n, ref, kids⟩⟩, rfl, rfl, hm, rfl, rfl⟩
  simp only [ASet.bulk] at hm
  have hkl := treesBulk_len mask
  conv => whnf
  refine ⟨[.slot 3 true], [1, 3, 4], 2, fun n1 σ => ∃ i : Nat, i ≤ mask.length ∧ n1 = mask.length - i ∧ σ = (⟨[.junk, .one (.ptr 0 0), .junk, .one (.own 1), .di .i64 i, .junk, .junk, .junk, .junk, .junk, .junk, .junk, .junk, .junk, .junk, .junk, .junk, .junk, .junk, .junk, .junk, .junk, .junk], [.box (List.map .d (ASet.mk ⟨xa, xb, xs⟩ mask ⟨op, kind, n, ref, kids⟩).c), .row 3 ((treesLoads (mask.take i)).map Ref.c)]⟩ : St), ?_, ?_⟩
  · refine ⟨mask.length, ?_⟩
    conv => whnf
    exact ⟨0, by omega, by omega, rfl⟩
  · rintro n1 _ ⟨i, hi, rfl, rfl⟩
    have hw := treesLoads_len (mask.take i)
    conv => whnf
    ((with_reducible refine And.intro (fun (e : (_ : Bool) = true) => ?_) (fun (e : (_ : Bool) = false) => ?_)) <;> (try simp only [reduceCtorEq, ints_len, bools_len, Bool.not_false, Bool.not_true, List.length_map, decide_eq_true_eq, decide_eq_false_iff_not, Bool.not_eq_true', Bool.not_eq_false', Bool.and_eq_true, Bool.or_eq_true, Bool.and_eq_false_iff, Bool.or_eq_false_iff, beq_iff_eq, bne_iff_ne, beq_eq_false_iff_ne, bne_eq_false_iff_eq, Int.not_lt, Int.not_le, ge_iff_le, gt_iff_lt, not_or, not_and, Bool.cond_true_right, Bool.cond_true_left, Bool.cond_false_right, Bool.cond_false_left, bif_t, bif_f] at e) <;> (conv => whnf))
    · have hlt : i < mask.length := by omega
      obtain ⟨x, hget⟩ := get_lt hlt
      have hb := treesBulk_get hget
      have hl := treesLoads_take hget
      have hw1 := treesBulk_take1 hget
      have hw2 := treesBulk_take mask (i + 1)
      (refine ⟨_, And.intro ⟨by omega, enc_get hget⟩ ?_⟩; (conv => whnf))
      obtain ⟨xop, xkind, xn, xref, xkids⟩ := x
      conv => whnf
      refine ⟨[1], false, false, ?_⟩
      conv => whnf
      intro v2
      conv => whnf
      refine ⟨_, _, ⟨.mk xop xkind xn xref xkids, treesLoads (mask.take i), v2, rfl, rfl, by omega, by omega, by omega, rfl, rfl⟩, ?_⟩
      conv => whnf
      refine ⟨rfl, ?_⟩
      conv => whnf
      (refine And.intro ?_ ?_; ((first | (with_reducible assumption) | (intro _; with_reducible assumption) | omega | (simp only [reduceCtorEq, ints_len, bools_len, Bool.not_false, Bool.not_true, List.length_map, decide_eq_true_eq, decide_eq_false_iff_not, Bool.not_eq_true', Bool.not_eq_false', Bool.and_eq_true, Bool.or_eq_true, Bool.and_eq_false_iff, Bool.or_eq_false_iff, beq_iff_eq, bne_iff_ne, beq_eq_false_iff_ne, bne_eq_false_iff_eq, Int.not_lt, Int.not_le, ge_iff_le, gt_iff_lt, not_or, not_and, Bool.cond_true_right, Bool.cond_true_left, Bool.cond_false_right, Bool.cond_false_left, bif_t, bif_f] at *; omega) | (intro hg; (try simp only [reduceCtorEq, ints_len, bools_len, Bool.not_false, Bool.not_true, List.length_map, decide_eq_true_eq, decide_eq_false_iff_not, Bool.not_eq_true', Bool.not_eq_false', Bool.and_eq_true, Bool.or_eq_true, Bool.and_eq_false_iff, Bool.or_eq_false_iff, beq_iff_eq, bne_iff_ne, beq_eq_false_iff_ne, bne_eq_false_iff_eq, Int.not_lt, Int.not_le, ge_iff_le, gt_iff_lt, not_or, not_and, Bool.cond_true_right, Bool.cond_true_left, Bool.cond_false_right, Bool.cond_false_left, bif_t, bif_f] at hg); first | (with_reducible assumption) | omega | (simp only [reduceCtorEq, ints_len, bools_len, Bool.not_false, Bool.not_true, List.length_map, decide_eq_true_eq, decide_eq_false_iff_not, Bool.not_eq_true', Bool.not_eq_false', Bool.and_eq_true, Bool.or_eq_true, Bool.and_eq_false_iff, Bool.or_eq_false_iff, beq_iff_eq, bne_iff_ne, beq_eq_false_iff_ne, bne_eq_false_iff_eq, Int.not_lt, Int.not_le, ge_iff_le, gt_iff_lt, not_or, not_and, Bool.cond_true_right, Bool.cond_true_left, Bool.cond_false_right, Bool.cond_false_left, bif_t, bif_f] at *; omega) | (refine ⟨?_, ?_⟩ <;> omega)) | (refine ⟨?_, ?_⟩ <;> omega) | (simp [*]; done) | grind)); (conv => whnf))
      refine ⟨mask.length - (i + 1), by omega, [], ?_⟩
      conv => whnf
      refine ⟨i + 1, by omega, rfl, ?_⟩
      rw [hl]; rfl
    · have hi' : i = mask.length := by omega
      subst hi'
      rw [List.take_length] at hw ⊢
      refine ⟨[1], false, false, ?_⟩
      conv => whnf
      intro v2
      conv => whnf
      refine ⟨_, _, ⟨.mk op kind n ref kids, treesLoads mask, v2, rfl, rfl, by omega, by omega, by omega, rfl, rfl⟩, ?_⟩
      conv => whnf
      refine ⟨rfl, ?_⟩
      conv => whnf
      refine ⟨[], ?_⟩
      conv => whnf
      exact ⟨[1], by simp, .cons ⟨_, rfl, rfl, rfl⟩ .nil, rfl⟩
end Go.Proofs.Ytahdihhhankhdaa.V
-- Vv
namespace Go.Proofs.Ytahdihhhankhdaa.V
open Go.Proofs.YtahdihhhankhdaaVY Go.RowKit
theorem isKern_iff (k : Kern) : isKern k = true ↔ 0 ≤ many k.ext ∧ 1 ≤ k.sets.length ∧ k.sets.length ≤ 8 ∧ ∀ s ∈ k.sets, ∀ r ∈ s.loads ++ [s.to], refOk k.ext r = true := by
  unfold isKern formed
  simp only [Bool.and_eq_true, decide_eq_true_eq, List.all_eq_true, List.mem_append, List.mem_singleton]
  constructor
  · rintro ⟨⟨h1, h2⟩, h3, h4⟩
    refine ⟨h1, h3, h4, fun s hs r hr => ?_⟩
    rcases hr with hr | rfl
    · exact (h2 s hs).2 r hr
    · exact (h2 s hs).1
  · rintro ⟨h1, h3, h4, h2⟩
    exact ⟨⟨h1, fun s hs => ⟨h2 s hs _ (.inr rfl), fun r hr => h2 s hs r (.inl hr)⟩⟩, h3, h4⟩
theorem isKern_not {k : Kern} {i j : Nat} {s : ASet} {r : Ref} (hs : k.sets[i]? = some s) (hr : (s.loads ++ [s.to])[j]? = some r) (h : refOk k.ext r = false) : isKern k = false := by
  refine Bool.eq_false_iff.2 fun hk => ?_
  have := ((isKern_iff k).1 hk).2.2.2 s (List.mem_of_getElem? hs) r (List.mem_of_getElem? hr)
  rw [h] at this; cases this
def R61 : Ct := fun ss hp r out => ∃ k : Kern, ss = [.v (.ag (k.c.map .d))] ∧ hp = [] ∧ k.bulk ≤ 4194304 ∧ r = .db (isKern k) ∧ out = []
set_option maxHeartbeats 4000000 in
theorem ok61 : VSound Try.prog (61, R61) := by
  refine vsound (T := ty) (F := [(59, R59), (99, R99), (100, R100)]) (pl := [(6, [[], [0], [], [0, 1, 2], [0, 1, 2, 3], [0, 1, 2, 3, 4], [], [6], [], [6, 7, 8], [6, 7, 8, 9], [6, 7, 8, 9, 10], [6, 7, 8, 9, 10, 11], [0, 1, 2, 3, 4, 5, 6, 7, 8, 9, 10, 11, 12], [0, 1, 2, 3, 4, 5, 6, 7, 8, 9, 10, 11, 12, 13]], .look 0 (.look 1 (.look 2 (.look 3 (.look 4 (.look 6 (.look 7 (.look 8 (.look 9 (.look 10 (.look 11 (.act 5 [6, 7, 8, 9, 10, 11] (.act 12 [0, 1, 2, 3, 4] (.act 13 [] (.look 14 .done) .stop) .stop) (.act 12 [0, 1, 2, 3, 4] (.act 5 [6, 7, 8, 9, 10, 11] (.act 13 [] (.look 14 .done) .stop) .stop) .stop))))))))))))), (10, [[], [0], [], [], [2, 3], [2, 3, 4], [0, 1, 2, 3, 4, 5], [0, 1, 2, 3, 4, 5, 6]], .look 0 (.look 1 (.look 2 (.look 3 (.look 4 (.look 5 (.act 6 [] (.look 7 .done) .stop)))))))]) (nw := true) (cuts := []) mix tyOk (.cons (ok59) (.cons (ok99) (.cons (ok100) .nil))) Try.func61 (by kernel_rfl) (by kernel_rfl) ?_
  rintro _ _ _ _ ⟨⟨ext, sets⟩, rfl, rfl, hm, rfl, rfl⟩
  have hmm := hm
  simp only [Kern.bulk] at hm
  have hkl := setsBulk_len sets
  conv => whnf
  (refine ⟨[], false, false, ?_⟩; (conv => whnf); refine ⟨_, _, ⟨ext, rfl, rfl, by omega, rfl, rfl⟩, ?_⟩; (conv => whnf))
  (repeat (refine And.intro ?_ ?_; ((first | (with_reducible assumption) | (intro _; with_reducible assumption) | omega | (simp only [reduceCtorEq, ints_len, bools_len, Bool.not_false, Bool.not_true, List.length_map, decide_eq_true_eq, decide_eq_false_iff_not, Bool.not_eq_true', Bool.not_eq_false', Bool.and_eq_true, Bool.or_eq_true, Bool.and_eq_false_iff, Bool.or_eq_false_iff, beq_iff_eq, bne_iff_ne, beq_eq_false_iff_ne, bne_eq_false_iff_eq, Int.not_lt, Int.not_le, ge_iff_le, gt_iff_lt, not_or, not_and, Bool.cond_true_right, Bool.cond_true_left, Bool.cond_false_right, Bool.cond_false_left, bif_t, bif_f] at *; omega) | (intro hg; (try simp only [reduceCtorEq, ints_len, bools_len, Bool.not_false, Bool.not_true, List.length_map, decide_eq_true_eq, decide_eq_false_iff_not, Bool.not_eq_true', Bool.not_eq_false', Bool.and_eq_true, Bool.or_eq_true, Bool.and_eq_false_iff, Bool.or_eq_false_iff, beq_iff_eq, bne_iff_ne, beq_eq_false_iff_ne, bne_eq_false_iff_eq, Int.not_lt, Int.not_le, ge_iff_le, gt_iff_lt, not_or, not_and, Bool.cond_true_right, Bool.cond_true_left, Bool.cond_false_right, Bool.cond_false_left, bif_t, bif_f] at hg); first | (with_reducible assumption) | omega | (simp only [reduceCtorEq, ints_len, bools_len, Bool.not_false, Bool.not_true, List.length_map, decide_eq_true_eq, decide_eq_false_iff_not, Bool.not_eq_true', Bool.not_eq_false', Bool.and_eq_true, Bool.or_eq_true, Bool.and_eq_false_iff, Bool.or_eq_false_iff, beq_iff_eq, bne_iff_ne, beq_eq_false_iff_ne, bne_eq_false_iff_eq, Int.not_lt, Int.not_le, ge_iff_le, gt_iff_lt, not_or, not_and, Bool.cond_true_right, Bool.cond_true_left, Bool.cond_false_right, Bool.cond_false_left, bif_t, bif_f] at *; omega) | (refine ⟨?_, ?_⟩ <;> omega)) | (refine ⟨?_, ?_⟩ <;> omega) | (simp [*]; done) | grind)); (conv => whnf)))
  refine ⟨fun e => ?_, fun e => ?_⟩
  · try simp only [reduceCtorEq, ints_len, bools_len, Bool.not_false, Bool.not_true, List.length_map, decide_eq_true_eq, decide_eq_false_iff_not, Bool.not_eq_true', Bool.not_eq_false', Bool.and_eq_true, Bool.or_eq_true, Bool.and_eq_false_iff, Bool.or_eq_false_iff, beq_iff_eq, bne_iff_ne, beq_eq_false_iff_ne, bne_eq_false_iff_eq, Int.not_lt, Int.not_le, ge_iff_le, gt_iff_lt, not_or, not_and, Bool.cond_true_right, Bool.cond_true_left, Bool.cond_false_right, Bool.cond_false_left, bif_t, bif_f] at e
    conv => whnf
    (refine ⟨[], ?_⟩; (conv => whnf); refine ⟨[], .nil, .nil, ?_⟩; (conv => whnf))
    congr 1
    refine (Bool.eq_false_iff.2 fun hk => ?_).symm
    have := (isKern_iff _).1 hk
    simp only at this
    omega
  · try simp only [reduceCtorEq, ints_len, bools_len, Bool.not_false, Bool.not_true, List.length_map, decide_eq_true_eq, decide_eq_false_iff_not, Bool.not_eq_true', Bool.not_eq_false', Bool.and_eq_true, Bool.or_eq_true, Bool.and_eq_false_iff, Bool.or_eq_false_iff, beq_iff_eq, bne_iff_ne, beq_eq_false_iff_ne, bne_eq_false_iff_eq, Int.not_lt, Int.not_le, ge_iff_le, gt_iff_lt, not_or, not_and, Bool.cond_true_right, Bool.cond_true_left, Bool.cond_false_right, Bool.cond_false_left, bif_t, bif_f] at e
    have e1 := e
    conv => whnf
    refine ⟨[], [1, 3], 1, fun n1 σ => ∃ i : Nat, i ≤ sets.length ∧ n1 = sets.length - i ∧ (∀ i' < i, ∀ s, sets[i']? = some s → ∀ r ∈ s.loads ++ [s.to], refOk ext r = true) ∧ σ = (⟨[.junk, .one (.ptr 0 0), .junk, .di .i64 i, .junk, .junk, .junk, .junk, .junk, .junk, .junk, .junk, .junk, .junk, .junk, .junk, .junk, .junk, .junk, .junk, .junk, .junk, .junk, .junk, .junk, .junk, .junk, .junk, .junk, .junk, .junk, .junk, .junk, .junk, .junk, .junk, .junk, .junk, .junk, .junk, .junk, .junk, .junk, .junk, .junk, .junk, .junk, .junk, .junk, .junk, .junk, .junk, .junk, .junk, .junk, .junk, .junk], [.box (List.map .d (Kern.mk ext sets).c)]⟩ : St), ?_, ?_⟩
    · refine ⟨sets.length, ?_⟩
      conv => whnf
      exact ⟨0, by omega, by omega, by omega, rfl⟩
    · rintro n1 _ ⟨i, hi, rfl, hall, rfl⟩
      conv => whnf
      ((with_reducible refine And.intro (fun (e : (_ : Bool) = true) => ?_) (fun (e : (_ : Bool) = false) => ?_)) <;> (try simp only [reduceCtorEq, ints_len, bools_len, Bool.not_false, Bool.not_true, List.length_map, decide_eq_true_eq, decide_eq_false_iff_not, Bool.not_eq_true', Bool.not_eq_false', Bool.and_eq_true, Bool.or_eq_true, Bool.and_eq_false_iff, Bool.or_eq_false_iff, beq_iff_eq, bne_iff_ne, beq_eq_false_iff_ne, bne_eq_false_iff_eq, Int.not_lt, Int.not_le, ge_iff_le, gt_iff_lt, not_or, not_and, Bool.cond_true_right, Bool.cond_true_left, Bool.cond_false_right, Bool.cond_false_left, bif_t, bif_f] at e) <;> (conv => whnf))
      · have hlt : i < sets.length := by omega
        obtain ⟨x, hget⟩ := get_lt hlt
        have hb := setsBulk_get hget
        have hll := x.loads_len
        have hstr : ∀ r ∈ x.loads ++ [x.to], r.str.length ≤ x.bulk := fun r hr => by
          rcases List.mem_append.1 hr with h | h
          · exact ASet.loads_str h
          · simp at h; subst h; rw [ASet.bulk]; omega
        (refine ⟨_, And.intro ⟨by omega, enc_get hget⟩ ?_⟩; (conv => whnf))
        have hx0 : ∀ j r, (x.loads ++ [x.to])[j]? = some r → refOk ext r = false → isKern ⟨ext, sets⟩ = false := fun j r h h' => isKern_not (k := ⟨ext, sets⟩) hget h h'
        obtain ⟨⟨xa, xb, xs⟩, mask, ⟨op, kind, n, ref, kids⟩⟩ := x
        conv => whnf
        (refine ⟨_, And.intro ⟨by omega, enc_get hget⟩ ?_⟩; (conv => whnf))
        have hcat : ∀ LL, (ASet.mk ⟨xa, xb, xs⟩ mask ⟨op, kind, n, ref, kids⟩).loads ++ [⟨xa, xb, xs⟩] = LL → List.map Ref.c (ASet.mk ⟨xa, xb, xs⟩ mask ⟨op, kind, n, ref, kids⟩).loads ++ [[.int .i64 xa, .int .i64 xb, .sl 1 (ints xs)]] = LL.map Ref.c := by rintro _ rfl; rw [List.map_append]; rfl
        have hLb : ∀ LL, (ASet.mk ⟨xa, xb, xs⟩ mask ⟨op, kind, n, ref, kids⟩).loads ++ [⟨xa, xb, xs⟩] = LL → LL.length ≤ 4194305 := by rintro _ rfl; rw [List.length_append]; simp; omega
        refine ⟨?_, ?_⟩
        focus
          conv => whnf
          (refine ⟨[], false, false, ?_⟩; (conv => whnf); refine ⟨_, _, ⟨⟨⟨xa, xb, xs⟩, mask, ⟨op, kind, n, ref, kids⟩⟩, rfl, rfl, by omega, rfl, rfl⟩, ?_⟩; (conv => whnf))
          refine ⟨by rw [map_len]; simp only [List.length_cons, List.length_nil]; omega, ?_⟩
          conv => whnf
          generalize hLL : (ASet.mk ⟨xa, xb, xs⟩ mask ⟨op, kind, n, ref, kids⟩).loads ++ [⟨xa, xb, xs⟩] = LL at *
          have hrow := hcat LL rfl
          have hLb := hLb LL rfl
          refine ⟨[], [1, 3, 4, 5], 2, fun n2 σ => ∃ j : Nat, j ≤ LL.length ∧ n2 = LL.length - j ∧ (∀ j' < j, ∀ r, LL[j']? = some r → refOk ext r = true) ∧ σ = (⟨[.junk, .one (.ptr 0 0), .junk, .di .i64 i, .one (.own 1), .di .i64 j, .junk, .junk, .junk, .junk, .junk, .junk, .junk, .junk, .junk, .junk, .junk, .junk, .junk, .junk, .junk, .junk, .junk, .junk, .junk, .junk, .junk, .junk, .junk, .junk, .junk, .junk, .junk, .junk, .junk, .junk, .junk, .junk, .junk, .junk, .junk, .junk, .junk, .junk, .junk, .junk, .junk, .junk, .junk, .junk, .junk, .junk, .junk, .junk, .junk, .junk, .junk], [.box (List.map .d (Kern.mk ext sets).c), .row 3 (LL.map Ref.c)]⟩ : St), ⟨LL.length, ?_⟩, ?_⟩
          · conv => whnf
            refine ⟨0, by omega, by omega, by omega, ?_⟩
            rw [← hrow]; rfl
        rotate_left
        focus
          conv => whnf
          (refine ⟨[], false, false, ?_⟩; (conv => whnf); refine ⟨_, _, ⟨⟨⟨xa, xb, xs⟩, mask, ⟨op, kind, n, ref, kids⟩⟩, rfl, rfl, by omega, rfl, rfl⟩, ?_⟩; (conv => whnf))
          refine ⟨by rw [map_len]; simp only [List.length_cons, List.length_nil]; omega, ?_⟩
          conv => whnf
          generalize hLL : (ASet.mk ⟨xa, xb, xs⟩ mask ⟨op, kind, n, ref, kids⟩).loads ++ [⟨xa, xb, xs⟩] = LL at *
          have hrow := hcat LL rfl
          have hLb := hLb LL rfl
          refine ⟨[], [1, 3, 4, 5], 3, fun n2 σ => ∃ j : Nat, j ≤ LL.length ∧ n2 = LL.length - j ∧ (∀ j' < j, ∀ r, LL[j']? = some r → refOk ext r = true) ∧ σ = (⟨[.junk, .one (.ptr 0 0), .junk, .di .i64 i, .one (.own 2), .di .i64 j, .junk, .junk, .junk, .junk, .junk, .junk, .junk, .junk, .junk, .junk, .junk, .junk, .junk, .junk, .junk, .junk, .junk, .junk, .junk, .junk, .junk, .junk, .junk, .junk, .junk, .junk, .junk, .junk, .junk, .junk, .junk, .junk, .junk, .junk, .junk, .junk, .junk, .junk, .junk, .junk, .junk, .junk, .junk, .junk, .junk, .junk, .junk, .junk, .junk, .junk, .junk], [.box (List.map .d (Kern.mk ext sets).c), .row 3 [[.int .i64 xa, .int .i64 xb, .sl 1 (ints xs)]], .row 3 (LL.map Ref.c)]⟩ : St), ⟨LL.length, ?_⟩, ?_⟩
          · conv => whnf
            refine ⟨0, by omega, by omega, by omega, ?_⟩
            rw [← hrow]; rfl
        all_goals
          rintro n2 _ ⟨j, hj, rfl, hjn, rfl⟩
          conv => whnf
          ((with_reducible refine And.intro (fun (e : (_ : Bool) = true) => ?_) (fun (e : (_ : Bool) = false) => ?_)) <;> (try simp only [reduceCtorEq, ints_len, bools_len, Bool.not_false, Bool.not_true, List.length_map, decide_eq_true_eq, decide_eq_false_iff_not, Bool.not_eq_true', Bool.not_eq_false', Bool.and_eq_true, Bool.or_eq_true, Bool.and_eq_false_iff, Bool.or_eq_false_iff, beq_iff_eq, bne_iff_ne, beq_eq_false_iff_ne, bne_eq_false_iff_eq, Int.not_lt, Int.not_le, ge_iff_le, gt_iff_lt, not_or, not_and, Bool.cond_true_right, Bool.cond_true_left, Bool.cond_false_right, Bool.cond_false_left, bif_t, bif_f] at e) <;> (conv => whnf))
          · obtain ⟨y, hy⟩ := get_lt (l := LL) (i := j) (by omega)
            have hys := hstr y (List.mem_of_getElem? hy)
            (refine And.intro ⟨by omega, by rw [map_len]; omega⟩ ?_; (conv => whnf); refine ⟨_, And.intro (enc_get hy) ?_⟩; (conv => whnf))
            obtain ⟨ya, yb, ys⟩ := y
            conv => whnf
            (refine ⟨[], false, false, ?_⟩; (conv => whnf); refine ⟨_, _, ⟨ext, ⟨ya, yb, ys⟩, rfl, rfl, by omega, by simp only at hys ⊢; omega, rfl, rfl⟩, ?_⟩; (conv => whnf))
            ((with_reducible refine And.intro (fun (e : (_ : Bool) = true) => ?_) (fun (e : (_ : Bool) = false) => ?_)) <;> (try simp only [reduceCtorEq, ints_len, bools_len, Bool.not_false, Bool.not_true, List.length_map, decide_eq_true_eq, decide_eq_false_iff_not, Bool.not_eq_true', Bool.not_eq_false', Bool.and_eq_true, Bool.or_eq_true, Bool.and_eq_false_iff, Bool.or_eq_false_iff, beq_iff_eq, bne_iff_ne, beq_eq_false_iff_ne, bne_eq_false_iff_eq, Int.not_lt, Int.not_le, ge_iff_le, gt_iff_lt, not_or, not_and, Bool.cond_true_right, Bool.cond_true_left, Bool.cond_false_right, Bool.cond_false_left, bif_t, bif_f] at e) <;> (conv => whnf))
            · have e2 := e
              (refine ⟨[], ?_⟩; (conv => whnf); refine ⟨[], .nil, .nil, ?_⟩; (conv => whnf))
              congr 1
              exact (hx0 j _ hy (by simpa using e2)).symm
            · have e2 := e
              (refine And.intro ?_ ?_; ((first | (with_reducible assumption) | (intro _; with_reducible assumption) | omega | (simp only [reduceCtorEq, ints_len, bools_len, Bool.not_false, Bool.not_true, List.length_map, decide_eq_true_eq, decide_eq_false_iff_not, Bool.not_eq_true', Bool.not_eq_false', Bool.and_eq_true, Bool.or_eq_true, Bool.and_eq_false_iff, Bool.or_eq_false_iff, beq_iff_eq, bne_iff_ne, beq_eq_false_iff_ne, bne_eq_false_iff_eq, Int.not_lt, Int.not_le, ge_iff_le, gt_iff_lt, not_or, not_and, Bool.cond_true_right, Bool.cond_true_left, Bool.cond_false_right, Bool.cond_false_left, bif_t, bif_f] at *; omega) | (intro hg; (try simp only [reduceCtorEq, ints_len, bools_len, Bool.not_false, Bool.not_true, List.length_map, decide_eq_true_eq, decide_eq_false_iff_not, Bool.not_eq_true', Bool.not_eq_false', Bool.and_eq_true, Bool.or_eq_true, Bool.and_eq_false_iff, Bool.or_eq_false_iff, beq_iff_eq, bne_iff_ne, beq_eq_false_iff_ne, bne_eq_false_iff_eq, Int.not_lt, Int.not_le, ge_iff_le, gt_iff_lt, not_or, not_and, Bool.cond_true_right, Bool.cond_true_left, Bool.cond_false_right, Bool.cond_false_left, bif_t, bif_f] at hg); first | (with_reducible assumption) | omega | (simp only [reduceCtorEq, ints_len, bools_len, Bool.not_false, Bool.not_true, List.length_map, decide_eq_true_eq, decide_eq_false_iff_not, Bool.not_eq_true', Bool.not_eq_false', Bool.and_eq_true, Bool.or_eq_true, Bool.and_eq_false_iff, Bool.or_eq_false_iff, beq_iff_eq, bne_iff_ne, beq_eq_false_iff_ne, bne_eq_false_iff_eq, Int.not_lt, Int.not_le, ge_iff_le, gt_iff_lt, not_or, not_and, Bool.cond_true_right, Bool.cond_true_left, Bool.cond_false_right, Bool.cond_false_left, bif_t, bif_f] at *; omega) | (refine ⟨?_, ?_⟩ <;> omega)) | (refine ⟨?_, ?_⟩ <;> omega) | (simp [*]; done) | grind)); (conv => whnf))
              refine ⟨LL.length - (j + 1), by omega, [], ?_⟩
              conv => whnf
              refine ⟨j + 1, by omega, rfl, fun j' hj' r hr => ?_, rfl⟩
              by_cases ej : j' = j
              · subst ej; rw [hy] at hr; cases hr; simpa using e2
              · exact hjn j' (by omega) r hr
          · (refine And.intro ?_ ?_; ((first | (with_reducible assumption) | (intro _; with_reducible assumption) | omega | (simp only [reduceCtorEq, ints_len, bools_len, Bool.not_false, Bool.not_true, List.length_map, decide_eq_true_eq, decide_eq_false_iff_not, Bool.not_eq_true', Bool.not_eq_false', Bool.and_eq_true, Bool.or_eq_true, Bool.and_eq_false_iff, Bool.or_eq_false_iff, beq_iff_eq, bne_iff_ne, beq_eq_false_iff_ne, bne_eq_false_iff_eq, Int.not_lt, Int.not_le, ge_iff_le, gt_iff_lt, not_or, not_and, Bool.cond_true_right, Bool.cond_true_left, Bool.cond_false_right, Bool.cond_false_left, bif_t, bif_f] at *; omega) | (intro hg; (try simp only [reduceCtorEq, ints_len, bools_len, Bool.not_false, Bool.not_true, List.length_map, decide_eq_true_eq, decide_eq_false_iff_not, Bool.not_eq_true', Bool.not_eq_false', Bool.and_eq_true, Bool.or_eq_true, Bool.and_eq_false_iff, Bool.or_eq_false_iff, beq_iff_eq, bne_iff_ne, beq_eq_false_iff_ne, bne_eq_false_iff_eq, Int.not_lt, Int.not_le, ge_iff_le, gt_iff_lt, not_or, not_and, Bool.cond_true_right, Bool.cond_true_left, Bool.cond_false_right, Bool.cond_false_left, bif_t, bif_f] at hg); first | (with_reducible assumption) | omega | (simp only [reduceCtorEq, ints_len, bools_len, Bool.not_false, Bool.not_true, List.length_map, decide_eq_true_eq, decide_eq_false_iff_not, Bool.not_eq_true', Bool.not_eq_false', Bool.and_eq_true, Bool.or_eq_true, Bool.and_eq_false_iff, Bool.or_eq_false_iff, beq_iff_eq, bne_iff_ne, beq_eq_false_iff_ne, bne_eq_false_iff_eq, Int.not_lt, Int.not_le, ge_iff_le, gt_iff_lt, not_or, not_and, Bool.cond_true_right, Bool.cond_true_left, Bool.cond_false_right, Bool.cond_false_left, bif_t, bif_f] at *; omega) | (refine ⟨?_, ?_⟩ <;> omega)) | (refine ⟨?_, ?_⟩ <;> omega) | (simp [*]; done) | grind)); (conv => whnf))
            refine ⟨sets.length - (i + 1), by omega, [], ?_⟩
            conv => whnf
            refine ⟨i + 1, by omega, rfl, fun i' hi' s hs r hr => ?_, rfl⟩
            by_cases ei : i' = i
            · subst ei; rw [hget] at hs; cases hs
              rw [hLL] at hr
              obtain ⟨j', hj'⟩ := List.getElem?_of_mem hr
              exact hjn j' (by have := (List.getElem?_eq_some_iff.1 hj').1; omega) r hj'
            · exact hall i' (by omega) s hs r hr
      · (refine ⟨[], ?_⟩; (conv => whnf); refine ⟨[], .nil, .nil, ?_⟩; (conv => whnf))
        congr 1
        refine ((isKern_iff _).2 ⟨?_, ?_, ?_, fun s hs r hr => ?_⟩).symm
        · simp only; omega
        · simp only; omega
        · simp only; omega
        · obtain ⟨i', hi'⟩ := List.getElem?_of_mem hs
          exact hall i' (by have := (List.getElem?_eq_some_iff.1 hi').1; simp only at this; omega) s hi' r hr
/-- the subscripts of an iteration -/
def subs : List Int → Int → List Int
  | [], _ => []
  | e :: l, n => n.tmod e :: subs l (n.tdiv e)
/-- what is left of an iteration behind so many subscripts -/
def rests : List Int → Int → Nat → Int
  | _, n, 0 => n
  | [], n, _ + 1 => n
  | e :: l, n, i + 1 => rests l (n.tdiv e) i
theorem subs_len : ∀ (l : List Int) (n : Int), (subs l n).length = l.length
  | [], _ => rfl
  | e :: l, n => by rw [subs, List.length_cons, subs_len l, List.length_cons]
theorem rests_get : ∀ {l : List Int} {n : Int} {i : Nat} {e : Int}, l[i]? = some e → rests l n (i + 1) = (rests l n i).tdiv e ∧ (subs l n)[i]? = some ((rests l n i).tmod e)
  | [], _, _, _, h => by simp at h
  | e :: l, n, 0, e', h => by simp at h; subst h; cases l <;> exact ⟨rfl, rfl⟩
  | e :: l, n, i + 1, e', h => by
    have := rests_get (l := l) (n := n.tdiv e) (i := i) (e := e') (by simpa using h)
    exact ⟨this.1, by rw [subs, List.getElem?_cons_succ]; exact this.2⟩
theorem rests_bd : ∀ (l : List Int) (n : Int), (∀ e ∈ l, 1 ≤ e) → 0 ≤ n → n ≤ 400 → ∀ i, 0 ≤ rests l n i ∧ rests l n i ≤ 400
  | l, n, _, h0, h1, 0 => by cases l <;> exact ⟨h0, h1⟩
  | [], n, _, h0, h1, i + 1 => ⟨h0, h1⟩
  | e :: l, n, he, h0, h1, i + 1 => by
    have h := he e (List.mem_cons_self ..)
    have h2 : 0 ≤ n.tdiv e := Int.tdiv_nonneg h0 (by omega)
    have h3 : n.tdiv e ≤ n := by rw [Int.tdiv_eq_ediv_of_nonneg h0]; exact Int.ediv_le_self _ h0
    exact rests_bd l (n.tdiv e) (fun x hx => he x (List.mem_cons_of_mem _ hx)) h2 (by omega) i
def R165 : Ct := fun ss hp r out => ∃ (l : List Int) (n : Int), ss = [.one (.d (.sl 1 (l.map inC))), .di .i64 n] ∧ hp = [] ∧ l.length ≤ 3 ∧ (∀ e ∈ l, 1 ≤ e) ∧ (0 ≤ n ∧ n ≤ 400) ∧ r = .one (.own 0) ∧ out = [.row 1 ((subs l n).map inC)]
set_option maxHeartbeats 4000000 in
theorem ok165 : VSound Try.prog (165, R165) := by
  refine vsound (T := ty) (F := []) (pl := []) (nw := true) (cuts := []) mix tyOk .nil Try.func165 (by kernel_rfl) (by kernel_rfl) ?_
  rintro _ _ _ _ ⟨l, n, rfl, rfl, hl, h1, hn, rfl, rfl⟩
  conv => whnf
  have hbd := rests_bd l n h1 hn.1 hn.2
  have hsl := subs_len l n
  refine ⟨[.slot 5 true], [0, 1, 5, 6], 1, fun n1 σ => ∃ i : Nat, i ≤ l.length ∧ n1 = l.length - i ∧ σ = (⟨[.one (.d (.sl 1 (l.map inC))), .di .i64 (rests l n i), .junk, .junk, .junk, .one (.own 0), .di .i64 i, .junk, .junk, .junk, .junk, .junk, .junk, .junk, .junk, .junk, .junk, .junk, .junk, .junk, .junk, .junk, .junk, .junk, .junk, .junk, .junk, .junk, .junk], [.row 1 (((subs l n).take i).map inC)]⟩ : St), ?_, ?_⟩
  · refine ⟨l.length, ?_⟩
    conv => whnf
    refine ⟨0, by omega, by omega, ?_⟩
    rw [show rests l n 0 = n by cases l <;> rfl]; rfl
  · rintro n1 _ ⟨i, hi, rfl, rfl⟩
    conv => whnf
    ((with_reducible refine And.intro (fun (e : (_ : Bool) = true) => ?_) (fun (e : (_ : Bool) = false) => ?_)) <;> (try simp only [reduceCtorEq, ints_len, bools_len, Bool.not_false, Bool.not_true, List.length_map, decide_eq_true_eq, decide_eq_false_iff_not, Bool.not_eq_true', Bool.not_eq_false', Bool.and_eq_true, Bool.or_eq_true, Bool.and_eq_false_iff, Bool.or_eq_false_iff, beq_iff_eq, bne_iff_ne, beq_eq_false_iff_ne, bne_eq_false_iff_eq, Int.not_lt, Int.not_le, ge_iff_le, gt_iff_lt, not_or, not_and, Bool.cond_true_right, Bool.cond_true_left, Bool.cond_false_right, Bool.cond_false_left, bif_t, bif_f] at e) <;> (conv => whnf))
    · obtain ⟨x, hx⟩ := get_lt (l := l) (i := i) (by omega)
      obtain ⟨hr1, hr2⟩ := rests_get (n := n) hx
      have hx1 := h1 x (List.mem_of_getElem? hx)
      have hb := hbd i
      have hb1 := hbd (i + 1)
      rw [hr1] at hb1
      (refine ⟨_, And.intro ⟨by omega, enc_get hx⟩ ?_⟩; (conv => whnf))
      (refine And.intro ?_ ?_; ((first | (with_reducible assumption) | (intro _; with_reducible assumption) | omega | (simp only [reduceCtorEq, ints_len, bools_len, Bool.not_false, Bool.not_true, List.length_map, decide_eq_true_eq, decide_eq_false_iff_not, Bool.not_eq_true', Bool.not_eq_false', Bool.and_eq_true, Bool.or_eq_true, Bool.and_eq_false_iff, Bool.or_eq_false_iff, beq_iff_eq, bne_iff_ne, beq_eq_false_iff_ne, bne_eq_false_iff_eq, Int.not_lt, Int.not_le, ge_iff_le, gt_iff_lt, not_or, not_and, Bool.cond_true_right, Bool.cond_true_left, Bool.cond_false_right, Bool.cond_false_left, bif_t, bif_f] at *; omega) | (intro hg; (try simp only [reduceCtorEq, ints_len, bools_len, Bool.not_false, Bool.not_true, List.length_map, decide_eq_true_eq, decide_eq_false_iff_not, Bool.not_eq_true', Bool.not_eq_false', Bool.and_eq_true, Bool.or_eq_true, Bool.and_eq_false_iff, Bool.or_eq_false_iff, beq_iff_eq, bne_iff_ne, beq_eq_false_iff_ne, bne_eq_false_iff_eq, Int.not_lt, Int.not_le, ge_iff_le, gt_iff_lt, not_or, not_and, Bool.cond_true_right, Bool.cond_true_left, Bool.cond_false_right, Bool.cond_false_left, bif_t, bif_f] at hg); first | (with_reducible assumption) | omega | (simp only [reduceCtorEq, ints_len, bools_len, Bool.not_false, Bool.not_true, List.length_map, decide_eq_true_eq, decide_eq_false_iff_not, Bool.not_eq_true', Bool.not_eq_false', Bool.and_eq_true, Bool.or_eq_true, Bool.and_eq_false_iff, Bool.or_eq_false_iff, beq_iff_eq, bne_iff_ne, beq_eq_false_iff_ne, bne_eq_false_iff_eq, Int.not_lt, Int.not_le, ge_iff_le, gt_iff_lt, not_or, not_and, Bool.cond_true_right, Bool.cond_true_left, Bool.cond_false_right, Bool.cond_false_left, bif_t, bif_f] at *; omega) | (refine ⟨?_, ?_⟩ <;> omega)) | (refine ⟨?_, ?_⟩ <;> omega) | (simp [*]; done) | grind)); (conv => whnf))
      refine ⟨by rw [map_len, List.length_take]; simp only [List.length_cons, List.length_nil]; omega, ?_⟩
      conv => whnf
      (refine ⟨_, And.intro ⟨by omega, enc_get hx⟩ ?_⟩; (conv => whnf))
      (refine And.intro ?_ ?_; ((first | (with_reducible assumption) | (intro _; with_reducible assumption) | omega | (simp only [reduceCtorEq, ints_len, bools_len, Bool.not_false, Bool.not_true, List.length_map, decide_eq_true_eq, decide_eq_false_iff_not, Bool.not_eq_true', Bool.not_eq_false', Bool.and_eq_true, Bool.or_eq_true, Bool.and_eq_false_iff, Bool.or_eq_false_iff, beq_iff_eq, bne_iff_ne, beq_eq_false_iff_ne, bne_eq_false_iff_eq, Int.not_lt, Int.not_le, ge_iff_le, gt_iff_lt, not_or, not_and, Bool.cond_true_right, Bool.cond_true_left, Bool.cond_false_right, Bool.cond_false_left, bif_t, bif_f] at *; omega) | (intro hg; (try simp only [reduceCtorEq, ints_len, bools_len, Bool.not_false, Bool.not_true, List.length_map, decide_eq_true_eq, decide_eq_false_iff_not, Bool.not_eq_true', Bool.not_eq_false', Bool.and_eq_true, Bool.or_eq_true, Bool.and_eq_false_iff, Bool.or_eq_false_iff, beq_iff_eq, bne_iff_ne, beq_eq_false_iff_ne, bne_eq_false_iff_eq, Int.not_lt, Int.not_le, ge_iff_le, gt_iff_lt, not_or, not_and, Bool.cond_true_right, Bool.cond_true_left, Bool.cond_false_right, Bool.cond_false_left, bif_t, bif_f] at hg); first | (with_reducible assumption) | omega | (simp only [reduceCtorEq, ints_len, bools_len, Bool.not_false, Bool.not_true, List.length_map, decide_eq_true_eq, decide_eq_false_iff_not, Bool.not_eq_true', Bool.not_eq_false', Bool.and_eq_true, Bool.or_eq_true, Bool.and_eq_false_iff, Bool.or_eq_false_iff, beq_iff_eq, bne_iff_ne, beq_eq_false_iff_ne, bne_eq_false_iff_eq, Int.not_lt, Int.not_le, ge_iff_le, gt_iff_lt, not_or, not_and, Bool.cond_true_right, Bool.cond_true_left, Bool.cond_false_right, Bool.cond_false_left, bif_t, bif_f] at *; omega) | (refine ⟨?_, ?_⟩ <;> omega)) | (refine ⟨?_, ?_⟩ <;> omega) | (simp [*]; done) | grind)); (conv => whnf))
      (refine And.intro ?_ ?_; ((first | (with_reducible assumption) | (intro _; with_reducible assumption) | omega | (simp only [reduceCtorEq, ints_len, bools_len, Bool.not_false, Bool.not_true, List.length_map, decide_eq_true_eq, decide_eq_false_iff_not, Bool.not_eq_true', Bool.not_eq_false', Bool.and_eq_true, Bool.or_eq_true, Bool.and_eq_false_iff, Bool.or_eq_false_iff, beq_iff_eq, bne_iff_ne, beq_eq_false_iff_ne, bne_eq_false_iff_eq, Int.not_lt, Int.not_le, ge_iff_le, gt_iff_lt, not_or, not_and, Bool.cond_true_right, Bool.cond_true_left, Bool.cond_false_right, Bool.cond_false_left, bif_t, bif_f] at *; omega) | (intro hg; (try simp only [reduceCtorEq, ints_len, bools_len, Bool.not_false, Bool.not_true, List.length_map, decide_eq_true_eq, decide_eq_false_iff_not, Bool.not_eq_true', Bool.not_eq_false', Bool.and_eq_true, Bool.or_eq_true, Bool.and_eq_false_iff, Bool.or_eq_false_iff, beq_iff_eq, bne_iff_ne, beq_eq_false_iff_ne, bne_eq_false_iff_eq, Int.not_lt, Int.not_le, ge_iff_le, gt_iff_lt, not_or, not_and, Bool.cond_true_right, Bool.cond_true_left, Bool.cond_false_right, Bool.cond_false_left, bif_t, bif_f] at hg); first | (with_reducible assumption) | omega | (simp only [reduceCtorEq, ints_len, bools_len, Bool.not_false, Bool.not_true, List.length_map, decide_eq_true_eq, decide_eq_false_iff_not, Bool.not_eq_true', Bool.not_eq_false', Bool.and_eq_true, Bool.or_eq_true, Bool.and_eq_false_iff, Bool.or_eq_false_iff, beq_iff_eq, bne_iff_ne, beq_eq_false_iff_ne, bne_eq_false_iff_eq, Int.not_lt, Int.not_le, ge_iff_le, gt_iff_lt, not_or, not_and, Bool.cond_true_right, Bool.cond_true_left, Bool.cond_false_right, Bool.cond_false_left, bif_t, bif_f] at *; omega) | (refine ⟨?_, ?_⟩ <;> omega)) | (refine ⟨?_, ?_⟩ <;> omega) | (simp [*]; done) | grind)); (conv => whnf))
      (refine And.intro ?_ ?_; ((first | (with_reducible assumption) | (intro _; with_reducible assumption) | omega | (simp only [reduceCtorEq, ints_len, bools_len, Bool.not_false, Bool.not_true, List.length_map, decide_eq_true_eq, decide_eq_false_iff_not, Bool.not_eq_true', Bool.not_eq_false', Bool.and_eq_true, Bool.or_eq_true, Bool.and_eq_false_iff, Bool.or_eq_false_iff, beq_iff_eq, bne_iff_ne, beq_eq_false_iff_ne, bne_eq_false_iff_eq, Int.not_lt, Int.not_le, ge_iff_le, gt_iff_lt, not_or, not_and, Bool.cond_true_right, Bool.cond_true_left, Bool.cond_false_right, Bool.cond_false_left, bif_t, bif_f] at *; omega) | (intro hg; (try simp only [reduceCtorEq, ints_len, bools_len, Bool.not_false, Bool.not_true, List.length_map, decide_eq_true_eq, decide_eq_false_iff_not, Bool.not_eq_true', Bool.not_eq_false', Bool.and_eq_true, Bool.or_eq_true, Bool.and_eq_false_iff, Bool.or_eq_false_iff, beq_iff_eq, bne_iff_ne, beq_eq_false_iff_ne, bne_eq_false_iff_eq, Int.not_lt, Int.not_le, ge_iff_le, gt_iff_lt, not_or, not_and, Bool.cond_true_right, Bool.cond_true_left, Bool.cond_false_right, Bool.cond_false_left, bif_t, bif_f] at hg); first | (with_reducible assumption) | omega | (simp only [reduceCtorEq, ints_len, bools_len, Bool.not_false, Bool.not_true, List.length_map, decide_eq_true_eq, decide_eq_false_iff_not, Bool.not_eq_true', Bool.not_eq_false', Bool.and_eq_true, Bool.or_eq_true, Bool.and_eq_false_iff, Bool.or_eq_false_iff, beq_iff_eq, bne_iff_ne, beq_eq_false_iff_ne, bne_eq_false_iff_eq, Int.not_lt, Int.not_le, ge_iff_le, gt_iff_lt, not_or, not_and, Bool.cond_true_right, Bool.cond_true_left, Bool.cond_false_right, Bool.cond_false_left, bif_t, bif_f] at *; omega) | (refine ⟨?_, ?_⟩ <;> omega)) | (refine ⟨?_, ?_⟩ <;> omega) | (simp [*]; done) | grind)); (conv => whnf))
      refine ⟨l.length - (i + 1), by omega, [], ?_⟩
      conv => whnf
      refine ⟨i + 1, by omega, rfl, ?_⟩
      rw [hr1, List.take_add_one, hr2, List.map_append]; rfl
    · have hi' : i = l.length := by omega
      subst hi'
      rw [← hsl, List.take_length]
      refine ⟨[], ?_⟩
      conv => whnf
      exact ⟨[0], by simp, .cons ⟨_, rfl, rfl, rfl⟩ .nil, rfl⟩
/-- a base and what subscripts and strides make -/
def dot : List Int → List Int → Int → Int
  | s :: l, x :: xs, b => dot l xs (b + s * x)
  | _, _, b => b
def place (l : List Int) (x : Ref) (n : Int) : Int := dot (subs l n) x.str x.base
theorem dot_take : ∀ {l xs : List Int} {b : Int} {i : Nat} {s x : Int}, l[i]? = some s → xs[i]? = some x → dot (l.take (i + 1)) xs b = dot (l.take i) xs b + s * x
  | [], _, _, _, _, _, h, _ => by simp at h
  | _ :: _, [], _, _, _, _, _, h => by simp at h
  | s :: l, x :: xs, b, 0, s', x', h, h' => by simp at h h'; subst h; subst h'; simp [dot]
  | s :: l, x :: xs, b, i + 1, s', x', h, h' => by
    rw [List.take_succ_cons, List.take_succ_cons, dot, dot]
    exact dot_take (by simpa using h) (by simpa using h')
theorem dot_bd {S : Int} (hS : 0 ≤ S) : ∀ {l xs : List Int} {b B : Int}, (∀ s ∈ l, 0 ≤ s ∧ s ≤ 400) → (∀ x ∈ xs, -S ≤ x ∧ x ≤ S) → -B ≤ b ∧ b ≤ B → -(B + l.length * (400 * S)) ≤ dot l xs b ∧ dot l xs b ≤ B + l.length * (400 * S)
  | [], _, b, B, _, _, h => by simp [dot]; exact h
  | s :: l, [], b, B, _, _, h => by
    rw [dot]
    have : 0 ≤ ((s :: l).length : Int) * (400 * S) := Int.mul_nonneg (by omega) (by omega)
    · omega
    · rintro _ _ _ _ _ h; cases h
  | s :: l, x :: xs, b, B, hs, hx, h => by
    rw [dot]
    have h1 := hs s (List.mem_cons_self ..)
    have h2 := hx x (List.mem_cons_self ..)
    have h3 : s * x ≤ 400 * S := Int.le_trans (Int.mul_le_mul_of_nonneg_left h2.2 h1.1) (Int.mul_le_mul_of_nonneg_right h1.2 hS)
    have h4 : -(400 * S) ≤ s * x := by
      have a := Int.mul_le_mul_of_nonneg_left h2.1 h1.1
      have b := Int.mul_le_mul_of_nonneg_right h1.2 hS
      rw [Int.mul_neg] at a
      omega
    have := dot_bd hS (l := l) (xs := xs) (b := b + s * x) (B := B + 400 * S) (fun s hs' => hs s (List.mem_cons_of_mem _ hs')) (fun x hx' => hx x (List.mem_cons_of_mem _ hx')) (by omega)
    rw [List.length_cons]
    push_cast
    rw [Int.add_mul]
    omega
theorem subs_bd : ∀ (l : List Int) (n : Int), (∀ e ∈ l, 1 ≤ e) → 0 ≤ n → n ≤ 400 → ∀ s ∈ subs l n, 0 ≤ s ∧ s ≤ 400
  | [], _, _, _, _, s, h => by simp [subs] at h
  | e :: l, n, he, h0, h1, s, h => by
    have h' := he e (List.mem_cons_self ..)
    have h2 : 0 ≤ n.tdiv e := Int.tdiv_nonneg h0 (by omega)
    have h3 : n.tdiv e ≤ n := by rw [Int.tdiv_eq_ediv_of_nonneg h0]; exact Int.ediv_le_self _ h0
    rw [subs, List.mem_cons] at h
    rcases h with rfl | h
    · rw [Int.tmod_eq_emod_of_nonneg h0]
      have a := Int.emod_nonneg n (b := e) (by omega)
      have b : n % e ≤ n := by
        have h := Int.emod_add_mul_ediv n e
        have h4 : 0 ≤ e * (n / e) := Int.mul_nonneg (by omega) (Int.ediv_nonneg h0 (by omega))
        omega
      omega
    · exact subs_bd l (n.tdiv e) (fun x hx => he x (List.mem_cons_of_mem _ hx)) h2 (by omega) s h
def R152 : Ct := fun ss hp r out => ∃ (l : List Int) (x : Ref) (n : Int), ss = [.one (.d (.sl 1 (l.map inC))), .v (.ag (x.c.map .d)), .di .i64 n] ∧ hp = [] ∧ Rt l x ∧ (∀ e ∈ l, 1 ≤ e) ∧ (0 ≤ n ∧ n ≤ 400) ∧ r = .di .i64 (place l x n) ∧ out = []
set_option maxHeartbeats 4000000 in
theorem ok152 : VSound Try.prog (152, R152) := by
  refine vsound (T := ty) (F := [(165, R165)]) (pl := [(6, [[], [], [], [1, 2], [1, 2, 3], [], [5], [], [5, 6, 7], [5, 6, 7, 8], [1, 2, 3, 4, 5, 6, 7, 8, 9], [0, 1, 2, 3, 4, 5, 6, 7, 8, 9, 10], [0, 1, 2, 3, 4, 5, 6, 7, 8, 9, 10, 11]], .look 0 (.look 1 (.look 2 (.look 3 (.look 4 (.look 5 (.look 6 (.look 7 (.look 8 (.look 9 (.look 10 (.look 11 (.look 12 .done)))))))))))))]) (nw := true) (cuts := []) mix tyOk (.cons (ok165) .nil) Try.func152 (by kernel_rfl) (by kernel_rfl) ?_
  rintro _ _ _ _ ⟨l, ⟨xa, xb, xs⟩, n, rfl, rfl, hR, h1, hn, rfl, rfl⟩
  have hlen := hR.len
  have hl3 := hR.l3
  have hbs := hR.base
  have hst := hR.str
  simp only at hlen hbs hst
  have hsb := subs_bd l n h1 hn.1 hn.2
  have hsl := subs_len l n
  conv => whnf
  (refine ⟨[], false, false, ?_⟩; (conv => whnf); refine ⟨_, _, ⟨l, n, rfl, rfl, hl3, h1, hn, rfl, rfl⟩, ?_⟩; (conv => whnf))
  unfold place
  generalize subs l n = U at *
  refine ⟨[], [4, 7, 8, 9], 2, fun n1 σ => ∃ i : Nat, i ≤ U.length ∧ n1 = U.length - i ∧ σ = (⟨[.junk, .junk, .junk, .junk, .one (.ptr 0 0), .junk, .junk, .one (.own 1), .di .i64 (dot (U.take i) xs xb), .di .i64 i, .junk, .junk, .junk, .junk, .junk, .junk, .junk, .junk, .junk, .junk, .junk, .junk, .junk, .junk, .junk, .junk, .junk, .junk, .junk, .junk, .junk, .junk, .junk, .junk], [.box (List.map .d (Ref.mk xa xb xs).c), .row 1 (U.map inC)]⟩ : St), ?_, ?_⟩
  · refine ⟨U.length, ?_⟩
    conv => whnf
    exact ⟨0, by omega, by omega, rfl⟩
  · rintro n1 _ ⟨i, hi, rfl, rfl⟩
    conv => whnf
    ((with_reducible refine And.intro (fun (e : (_ : Bool) = true) => ?_) (fun (e : (_ : Bool) = false) => ?_)) <;> (try simp only [reduceCtorEq, ints_len, bools_len, Bool.not_false, Bool.not_true, List.length_map, decide_eq_true_eq, decide_eq_false_iff_not, Bool.not_eq_true', Bool.not_eq_false', Bool.and_eq_true, Bool.or_eq_true, Bool.and_eq_false_iff, Bool.or_eq_false_iff, beq_iff_eq, bne_iff_ne, beq_eq_false_iff_ne, bne_eq_false_iff_eq, Int.not_lt, Int.not_le, ge_iff_le, gt_iff_lt, not_or, not_and, Bool.cond_true_right, Bool.cond_true_left, Bool.cond_false_right, Bool.cond_false_left, bif_t, bif_f] at e) <;> (conv => whnf))
    · obtain ⟨s, hs⟩ := get_lt (l := U) (i := i) (by omega)
      obtain ⟨x, hx⟩ := get_lt (l := xs) (i := i) (by omega)
      have hd := dot_take (b := xb) hs hx
      have hb1 := dot_bd (S := 1000000) (by decide) (l := U.take (i + 1)) (xs := xs) (b := xb) (B := 1000000) (fun s hs => hsb s (List.mem_of_mem_take hs)) hst hbs
      have hb2 := dot_bd (S := 1000000) (by decide) (l := U.take i) (xs := xs) (b := xb) (B := 1000000) (fun s hs => hsb s (List.mem_of_mem_take hs)) hst hbs
      rw [hd] at hb1
      have hUl : (U.take (i + 1)).length ≤ 3 := by rw [List.length_take]; omega
      have hUl2 : (U.take i).length ≤ 3 := by rw [List.length_take]; omega
      (refine And.intro ⟨by omega, by rw [map_len]; omega⟩ ?_; (conv => whnf); refine ⟨_, And.intro (enc_get hs) ?_⟩; (conv => whnf))
      (refine ⟨_, And.intro ⟨by omega, enc_get hx⟩ ?_⟩; (conv => whnf))
      (refine And.intro ?_ ?_; ((first | (with_reducible assumption) | (intro _; with_reducible assumption) | omega | (simp only [reduceCtorEq, ints_len, bools_len, Bool.not_false, Bool.not_true, List.length_map, decide_eq_true_eq, decide_eq_false_iff_not, Bool.not_eq_true', Bool.not_eq_false', Bool.and_eq_true, Bool.or_eq_true, Bool.and_eq_false_iff, Bool.or_eq_false_iff, beq_iff_eq, bne_iff_ne, beq_eq_false_iff_ne, bne_eq_false_iff_eq, Int.not_lt, Int.not_le, ge_iff_le, gt_iff_lt, not_or, not_and, Bool.cond_true_right, Bool.cond_true_left, Bool.cond_false_right, Bool.cond_false_left, bif_t, bif_f] at *; omega) | (intro hg; (try simp only [reduceCtorEq, ints_len, bools_len, Bool.not_false, Bool.not_true, List.length_map, decide_eq_true_eq, decide_eq_false_iff_not, Bool.not_eq_true', Bool.not_eq_false', Bool.and_eq_true, Bool.or_eq_true, Bool.and_eq_false_iff, Bool.or_eq_false_iff, beq_iff_eq, bne_iff_ne, beq_eq_false_iff_ne, bne_eq_false_iff_eq, Int.not_lt, Int.not_le, ge_iff_le, gt_iff_lt, not_or, not_and, Bool.cond_true_right, Bool.cond_true_left, Bool.cond_false_right, Bool.cond_false_left, bif_t, bif_f] at hg); first | (with_reducible assumption) | omega | (simp only [reduceCtorEq, ints_len, bools_len, Bool.not_false, Bool.not_true, List.length_map, decide_eq_true_eq, decide_eq_false_iff_not, Bool.not_eq_true', Bool.not_eq_false', Bool.and_eq_true, Bool.or_eq_true, Bool.and_eq_false_iff, Bool.or_eq_false_iff, beq_iff_eq, bne_iff_ne, beq_eq_false_iff_ne, bne_eq_false_iff_eq, Int.not_lt, Int.not_le, ge_iff_le, gt_iff_lt, not_or, not_and, Bool.cond_true_right, Bool.cond_true_left, Bool.cond_false_right, Bool.cond_false_left, bif_t, bif_f] at *; omega) | (refine ⟨?_, ?_⟩ <;> omega)) | (refine ⟨?_, ?_⟩ <;> omega) | (simp [*]; done) | grind)); (conv => whnf))
      (refine And.intro ?_ ?_; ((first | (with_reducible assumption) | (intro _; with_reducible assumption) | omega | (simp only [reduceCtorEq, ints_len, bools_len, Bool.not_false, Bool.not_true, List.length_map, decide_eq_true_eq, decide_eq_false_iff_not, Bool.not_eq_true', Bool.not_eq_false', Bool.and_eq_true, Bool.or_eq_true, Bool.and_eq_false_iff, Bool.or_eq_false_iff, beq_iff_eq, bne_iff_ne, beq_eq_false_iff_ne, bne_eq_false_iff_eq, Int.not_lt, Int.not_le, ge_iff_le, gt_iff_lt, not_or, not_and, Bool.cond_true_right, Bool.cond_true_left, Bool.cond_false_right, Bool.cond_false_left, bif_t, bif_f] at *; omega) | (intro hg; (try simp only [reduceCtorEq, ints_len, bools_len, Bool.not_false, Bool.not_true, List.length_map, decide_eq_true_eq, decide_eq_false_iff_not, Bool.not_eq_true', Bool.not_eq_false', Bool.and_eq_true, Bool.or_eq_true, Bool.and_eq_false_iff, Bool.or_eq_false_iff, beq_iff_eq, bne_iff_ne, beq_eq_false_iff_ne, bne_eq_false_iff_eq, Int.not_lt, Int.not_le, ge_iff_le, gt_iff_lt, not_or, not_and, Bool.cond_true_right, Bool.cond_true_left, Bool.cond_false_right, Bool.cond_false_left, bif_t, bif_f] at hg); first | (with_reducible assumption) | omega | (simp only [reduceCtorEq, ints_len, bools_len, Bool.not_false, Bool.not_true, List.length_map, decide_eq_true_eq, decide_eq_false_iff_not, Bool.not_eq_true', Bool.not_eq_false', Bool.and_eq_true, Bool.or_eq_true, Bool.and_eq_false_iff, Bool.or_eq_false_iff, beq_iff_eq, bne_iff_ne, beq_eq_false_iff_ne, bne_eq_false_iff_eq, Int.not_lt, Int.not_le, ge_iff_le, gt_iff_lt, not_or, not_and, Bool.cond_true_right, Bool.cond_true_left, Bool.cond_false_right, Bool.cond_false_left, bif_t, bif_f] at *; omega) | (refine ⟨?_, ?_⟩ <;> omega)) | (refine ⟨?_, ?_⟩ <;> omega) | (simp [*]; done) | grind)); (conv => whnf))
      (refine And.intro ?_ ?_; ((first | (with_reducible assumption) | (intro _; with_reducible assumption) | omega | (simp only [reduceCtorEq, ints_len, bools_len, Bool.not_false, Bool.not_true, List.length_map, decide_eq_true_eq, decide_eq_false_iff_not, Bool.not_eq_true', Bool.not_eq_false', Bool.and_eq_true, Bool.or_eq_true, Bool.and_eq_false_iff, Bool.or_eq_false_iff, beq_iff_eq, bne_iff_ne, beq_eq_false_iff_ne, bne_eq_false_iff_eq, Int.not_lt, Int.not_le, ge_iff_le, gt_iff_lt, not_or, not_and, Bool.cond_true_right, Bool.cond_true_left, Bool.cond_false_right, Bool.cond_false_left, bif_t, bif_f] at *; omega) | (intro hg; (try simp only [reduceCtorEq, ints_len, bools_len, Bool.not_false, Bool.not_true, List.length_map, decide_eq_true_eq, decide_eq_false_iff_not, Bool.not_eq_true', Bool.not_eq_false', Bool.and_eq_true, Bool.or_eq_true, Bool.and_eq_false_iff, Bool.or_eq_false_iff, beq_iff_eq, bne_iff_ne, beq_eq_false_iff_ne, bne_eq_false_iff_eq, Int.not_lt, Int.not_le, ge_iff_le, gt_iff_lt, not_or, not_and, Bool.cond_true_right, Bool.cond_true_left, Bool.cond_false_right, Bool.cond_false_left, bif_t, bif_f] at hg); first | (with_reducible assumption) | omega | (simp only [reduceCtorEq, ints_len, bools_len, Bool.not_false, Bool.not_true, List.length_map, decide_eq_true_eq, decide_eq_false_iff_not, Bool.not_eq_true', Bool.not_eq_false', Bool.and_eq_true, Bool.or_eq_true, Bool.and_eq_false_iff, Bool.or_eq_false_iff, beq_iff_eq, bne_iff_ne, beq_eq_false_iff_ne, bne_eq_false_iff_eq, Int.not_lt, Int.not_le, ge_iff_le, gt_iff_lt, not_or, not_and, Bool.cond_true_right, Bool.cond_true_left, Bool.cond_false_right, Bool.cond_false_left, bif_t, bif_f] at *; omega) | (refine ⟨?_, ?_⟩ <;> omega)) | (refine ⟨?_, ?_⟩ <;> omega) | (simp [*]; done) | grind)); (conv => whnf))
      refine ⟨U.length - (i + 1), by omega, [], ?_⟩
      conv => whnf
      refine ⟨i + 1, by omega, rfl, ?_⟩
      rw [hd]; rfl
    · have hi' : i = U.length := by omega
      subst hi'
      rw [List.take_length]
      (refine ⟨[], ?_⟩; (conv => whnf); refine ⟨[], .nil, .nil, ?_⟩; (conv => whnf))
end Go.Proofs.Ytahdihhhankhdaa.V
-- Vw
namespace Go.Proofs.Ytahdihhhankhdaa.V
open Go.Proofs.YtahdihhhankhdaaVY Go.RowKit
theorem seg_get {row : List Int} {s : Int} : ∀ {m q r : Nat} {v : Int}, q < m → row[r]? = some v → (seg row s m)[q * row.length + r]? = some (v + ((q : Int) + 1) * s)
  | 0, q, r, v, h, _ => by omega
  | m + 1, q, r, v, h, hr => by
    have hrl := (List.getElem?_eq_some_iff.1 hr).1
    have hl := seg_len row s m
    rw [seg]
    by_cases e : q = m
    · subst e
      rw [List.getElem?_append_right (by omega), hl, Nat.add_sub_cancel_left, List.getElem?_map, hr]
      push_cast; rfl
    · have hq : q + 1 ≤ m := by omega
      have h2 : (q + 1) * row.length ≤ m * row.length := Nat.mul_le_mul_right _ hq
      rw [Nat.succ_mul] at h2
      rw [List.getElem?_append_left (by omega)]
      exact seg_get (by omega) hr
theorem subs_snoc : ∀ (l : List Int) (n i : Int), subs (l ++ [n]) i = subs l i ++ [(rests l i l.length).tmod n]
  | [], n, i => rfl
  | e :: l, n, i => by rw [List.cons_append, subs, subs_snoc l, subs, List.length_cons, rests]; rfl
theorem rests_all : ∀ (l : List Nat) (i : Nat), rests (l.map Int.ofNat) i l.length = ((i / l.prod : Nat) : Int)
  | [], i => by simp [rests]
  | e :: l, i => by
    rw [List.length_cons, List.map_cons, rests, List.prod_cons, ← Nat.div_div_eq_div_mul]
    exact rests_all l (i / e)
theorem subs_mod : ∀ (l : List Nat) (i : Nat), subs (l.map Int.ofNat) i = subs (l.map Int.ofNat) (i % l.prod : Nat)
  | [], i => rfl
  | e :: l, i => by
    rw [List.map_cons, subs, subs, List.prod_cons]
    have h1 : (Int.ofNat i).tmod (Int.ofNat e) = (Int.ofNat (i % (e * l.prod))).tmod (Int.ofNat e) := by
      show ((i % e : Nat) : Int) = ((i % (e * l.prod) % e : Nat) : Int)
      rw [Nat.mod_mul_right_mod]
    have h2 : subs (l.map Int.ofNat) ((Int.ofNat i).tdiv (Int.ofNat e)) = subs (l.map Int.ofNat) ((Int.ofNat (i % (e * l.prod))).tdiv (Int.ofNat e)) := by
      show subs _ ((i / e : Nat) : Int) = subs _ ((i % (e * l.prod) / e : Nat) : Int)
      rw [subs_mod l (i / e), Nat.mod_mul_right_div_self]
    exact congr (congrArg List.cons h1) h2
theorem prod_nat : ∀ l : List Nat, V.prod (l.map Int.ofNat) = ((l.prod : Nat) : Int)
  | [] => rfl
  | e :: l => by rw [List.map_cons, V.prod, prod_nat l, List.prod_cons]; push_cast; rfl
theorem getD_map {l : List Nat} {k n : Nat} (h : l[k]? = some n) : (l.map Int.ofNat).getD k 0 = n := getD_of (by rw [List.getElem?_map, h]; rfl)
theorem prod_take_nat {l : List Nat} {k n : Nat} (h : l[k]? = some n) : (l.take (k + 1)).prod = (l.take k).prod * n := by
  rw [List.take_add_one, h, Option.toList_some, List.prod_append]; simp
theorem placesTo_nat {l : List Nat} (xs : List Int) (b : Int) (h1 : ∀ n ∈ l, 1 ≤ n) (hx : xs.length = l.length) : ∀ k ≤ l.length, (placesTo (l.map Int.ofNat) xs b k).length = (l.take k).prod ∧
    ∀ i < (l.take k).prod, (placesTo (l.map Int.ofNat) xs b k)[i]? = some (dot (subs ((l.take k).map Int.ofNat) i) xs b)
  | 0, _ => by
    refine ⟨rfl, fun i hi => ?_⟩
    have : i = 0 := by simp at hi; exact hi
    subst this
    simp [placesTo, subs, dot]
  | k + 1, hk => by
    obtain ⟨ih1, ih2⟩ := placesTo_nat xs b h1 hx k (by omega)
    obtain ⟨n, hn⟩ := get_lt (l := l) (i := k) (by omega)
    obtain ⟨s, hs⟩ := get_lt (l := xs) (i := k) (by omega)
    have hn1 := h1 n (List.mem_of_getElem? hn)
    have hP := prod_take_nat hn
    have hlen : (placesTo (l.map Int.ofNat) xs b (k + 1)).length = (l.take (k + 1)).prod := by
      rw [placesTo, List.length_append, seg_len, getD_map hn, ih1, hP, show ((n : Int) - 1).toNat = n - 1 by omega]
      obtain ⟨m, rfl⟩ : ∃ m, n = m + 1 := ⟨n - 1, by omega⟩
      rw [Nat.add_sub_cancel, Nat.mul_succ, Nat.mul_comm, Nat.add_comm]
    refine ⟨hlen, fun i hi => ?_⟩
    rw [hP] at hi
    generalize hPk : (l.take k).prod = P at *
    have hPos : 0 < P := Nat.pos_of_ne_zero (by rintro rfl; simp at hi)
    have hq : i / P < n := Nat.div_lt_of_lt_mul hi
    have hr : i % P < P := Nat.mod_lt _ hPos
    have hrow := ih2 (i % P) hr
    have htk : (l.take (k + 1)).map Int.ofNat = (l.take k).map Int.ofNat ++ [(n : Int)] := by rw [List.take_add_one, hn, Option.toList_some, List.map_append]; rfl
    have hlk : ((l.take k).map Int.ofNat).length = k := by rw [List.length_map, List.length_take]; omega
    have hlk2 : (l.take k).length = k := by rw [List.length_take]; omega
    have hsub : subs ((l.take (k + 1)).map Int.ofNat) i = subs ((l.take k).map Int.ofNat) (i % P : Nat) ++ [((i / P : Nat) : Int)] := by
      rw [htk, subs_snoc, List.length_map, rests_all, hPk, subs_mod, hPk]
      congr 2
      show ((i / P % n : Nat) : Int) = _
      rw [Nat.mod_eq_of_lt hq]
    have hdot : dot (subs ((l.take (k + 1)).map Int.ofNat) i) xs b = dot (subs ((l.take k).map Int.ofNat) (i % P : Nat)) xs b + ((i / P : Nat) : Int) * s := by
      rw [hsub]
      have hul := subs_len ((l.take k).map Int.ofNat) (i % P : Nat)
      rw [hlk] at hul
      generalize subs ((l.take k).map Int.ofNat) (i % P : Nat) = U at *
      have := dot_take (l := U ++ [((i / P : Nat) : Int)]) (xs := xs) (b := b) (i := k) (s := ((i / P : Nat) : Int)) (x := s) (by rw [List.getElem?_append_right (by omega), hul, Nat.sub_self]; rfl) hs
      have t1 : (U ++ [((i / P : Nat) : Int)]).take (k + 1) = U ++ [((i / P : Nat) : Int)] := List.take_of_length_le (by rw [List.length_append, hul]; simp)
      have t2 : (U ++ [((i / P : Nat) : Int)]).take k = U := by rw [List.take_append_of_le_length (by omega), List.take_of_length_le (by omega)]
      rw [t1, t2] at this
      exact this
    rw [hdot, placesTo, getD_map hn, getD_of hs, show ((n : Int) - 1).toNat = n - 1 by omega]
    have hi' : i = P * (i / P) + i % P := (Nat.div_add_mod i P).symm
    generalize hR : placesTo (l.map Int.ofNat) xs b k = row at *
    by_cases h0 : i / P = 0
    · have e : i = i % P := by rw [h0, Nat.mul_zero, Nat.zero_add] at hi'; exact hi'
      rw [List.getElem?_append_left (by omega), h0]
      rw [← e] at hrow ⊢
      simpa using hrow
    · obtain ⟨q, hq1⟩ : ∃ q, i / P = q + 1 := Nat.exists_eq_succ_of_ne_zero h0
      have hge : P ≤ i := by
        rw [hq1, Nat.mul_succ] at hi'
        have : 0 ≤ P * q := Nat.zero_le _
        omega
      rw [List.getElem?_append_right (by omega), ih1]
      have e : i - P = q * row.length + i % P := by
        rw [hq1, Nat.mul_succ, Nat.mul_comm P q] at hi'
        rw [ih1]; omega
      rw [e, seg_get (by omega) hrow, hq1]
      push_cast; rfl
def allTo (l : List Int) (x : Ref) (n : Nat) : List Int := (List.range n).map fun (i : Nat) => place l x i
theorem allTo_succ (l : List Int) (x : Ref) (n : Nat) : allTo l x (n + 1) = allTo l x n ++ [place l x n] := by
  unfold allTo; rw [List.range_succ, List.map_append]; rfl
theorem allTo_len (l : List Int) (x : Ref) (n : Nat) : (allTo l x n).length = n := by simp [allTo]
theorem many_prod {l : List Int} (h : 0 ≤ many l) : many l = prod l ∧ prod l ≤ 400 ∧ 1 ≤ l.length ∧ l.length ≤ 3 ∧ ∀ n ∈ l, 0 ≤ n ∧ n ≤ 400 := by
  unfold many at h ⊢
  by_cases h1 : l.length < 1 ∨ 3 < l.length ∨ l.any (fun n => decide (n < 0 ∨ 400 < n)) = true
  · rw [if_pos h1] at h; omega
  · rw [if_neg h1] at h ⊢
    by_cases h2 : 400 < prod l
    · rw [if_pos h2] at h; omega
    · rw [if_neg h2]
      refine ⟨rfl, by omega, by omega, by omega, fun n hn => ?_⟩
      have : ¬ l.any (fun n => decide (n < 0 ∨ 400 < n)) = true := fun hh => h1 (.inr (.inr hh))
      simp only [List.any_eq_true, not_exists, not_and, decide_eq_true_eq] at this
      have := this n hn
      omega
theorem ext_pos {l : List Int} (h : 0 < many l) : ∀ n ∈ l, 1 ≤ n := by
  obtain ⟨h1, _, _, _, h2⟩ := many_prod (Int.le_of_lt h)
  exact prod_pos (fun n hn => (h2 n hn).1) (by omega)
theorem ofNats {l : List Int} (h : ∀ n ∈ l, 0 ≤ n) : l = (l.map Int.toNat).map Int.ofNat := by
  rw [List.map_map]
  exact ((List.map_id l).symm).trans (List.map_congr_left fun n hn => (Int.toNat_of_nonneg (h n hn)).symm)
theorem all_places {l : List Int} {x : Ref} (h : refOk l x = true) : allTo l x (many l).toNat = places l x := by
  have R := refOk_rt h
  have hm : 0 ≤ many l := by unfold refOk at h; simp only [Bool.and_eq_true, decide_eq_true_eq] at h; exact h.1
  unfold places
  by_cases h0 : many l = 0
  · rw [if_pos h0, h0]; rfl
  · rw [if_neg h0]
    have hp := ext_pos (l := l) (by omega)
    obtain ⟨m1, _, _, _, m2⟩ := many_prod hm
    have hl := ofNats (l := l) fun n hn => (m2 n hn).1
    generalize l.map Int.toNat = L at hl
    subst hl
    obtain ⟨p1, p2⟩ := placesTo_nat (l := L) x.str x.base (fun n hn => by have := hp (n : Int) (List.mem_map_of_mem (f := Int.ofNat) hn); omega) (by have := R.len; simpa using this) L.length (Nat.le_refl _)
    rw [List.take_length] at p1 p2
    rw [m1, prod_nat, Int.toNat_natCast, List.length_map]
    apply List.ext_getElem?
    intro i
    by_cases hi : i < L.prod
    · rw [p2 i hi]
      unfold allTo
      rw [List.getElem?_map, List.getElem?_range hi]; rfl
    · rw [List.getElem?_eq_none (by rw [allTo_len]; omega), List.getElem?_eq_none (by omega)]
def R146 : Ct := fun ss hp r out => ∃ (l : List Int) (x : Ref), ss = [.one (.d (.sl 1 (l.map inC))), .v (.ag (x.c.map .d))] ∧ hp = [] ∧ refOk l x = true ∧ r = .one (.own 0) ∧ out = [.row 1 ((places l x).map inC)]
set_option maxHeartbeats 4000000 in
theorem ok146 : VSound Try.prog (146, R146) := by
  refine vsound (T := ty) (F := [(59, R59), (152, R152)]) (pl := []) (nw := true) (cuts := []) mix tyOk (.cons (ok59) (.cons (ok152) .nil)) Try.func146 (by kernel_rfl) (by kernel_rfl) ?_
  rintro _ _ _ _ ⟨l, x, rfl, rfl, hok, rfl, rfl⟩
  rw [← all_places hok]
  have R := refOk_rt hok
  have hm : 0 ≤ many l := by unfold refOk at hok; simp only [Bool.and_eq_true, decide_eq_true_eq] at hok; exact hok.1
  obtain ⟨m1, m2, m3, m4, m5⟩ := many_prod hm
  obtain ⟨N, hN⟩ := Int.eq_ofNat_of_zero_le hm
  rw [hN, Int.toNat_natCast]
  obtain ⟨xa, xb, xs⟩ := x
  conv => whnf
  refine ⟨[.slot 5 true], [0, 3, 5, 6], 2, fun n1 σ => ∃ i : Nat, i ≤ N ∧ n1 = N - i ∧ σ = (⟨[.one (.d (.sl 1 (l.map inC))), .junk, .junk, .one (.ptr 0 0), .junk, .one (.own 1), .di .i64 i, .junk, .junk, .junk, .junk, .junk, .junk, .junk, .junk, .junk, .junk, .junk, .junk, .junk, .junk], [.box (List.map .d (Ref.mk xa xb xs).c), .row 1 ((allTo l ⟨xa, xb, xs⟩ i).map inC)]⟩ : St), ?_, ?_⟩
  · refine ⟨N, ?_⟩
    conv => whnf
    exact ⟨0, by omega, by omega, rfl⟩
  · rintro n1 _ ⟨i, hi, rfl, rfl⟩
    conv => whnf
    (refine ⟨[], false, false, ?_⟩; (conv => whnf); refine ⟨_, _, ⟨l, rfl, rfl, by omega, rfl, rfl⟩, ?_⟩; (conv => whnf))
    rw [hN]
    ((with_reducible refine And.intro (fun (e : (_ : Bool) = true) => ?_) (fun (e : (_ : Bool) = false) => ?_)) <;> (try simp only [reduceCtorEq, ints_len, bools_len, Bool.not_false, Bool.not_true, List.length_map, decide_eq_true_eq, decide_eq_false_iff_not, Bool.not_eq_true', Bool.not_eq_false', Bool.and_eq_true, Bool.or_eq_true, Bool.and_eq_false_iff, Bool.or_eq_false_iff, beq_iff_eq, bne_iff_ne, beq_eq_false_iff_ne, bne_eq_false_iff_eq, Int.not_lt, Int.not_le, ge_iff_le, gt_iff_lt, not_or, not_and, Bool.cond_true_right, Bool.cond_true_left, Bool.cond_false_right, Bool.cond_false_left, bif_t, bif_f] at e) <;> (conv => whnf))
    · have hp := ext_pos (l := l) (by omega)
      (refine ⟨[], false, false, ?_⟩; (conv => whnf); refine ⟨_, _, ⟨l, ⟨xa, xb, xs⟩, i, rfl, rfl, R, hp, ⟨by omega, by omega⟩, rfl, rfl⟩, ?_⟩; (conv => whnf))
      refine ⟨by rw [map_len, allTo_len]; simp only [List.length_cons, List.length_nil]; omega, ?_⟩
      conv => whnf
      (refine And.intro ?_ ?_; ((first | (with_reducible assumption) | (intro _; with_reducible assumption) | omega | (simp only [reduceCtorEq, ints_len, bools_len, Bool.not_false, Bool.not_true, List.length_map, decide_eq_true_eq, decide_eq_false_iff_not, Bool.not_eq_true', Bool.not_eq_false', Bool.and_eq_true, Bool.or_eq_true, Bool.and_eq_false_iff, Bool.or_eq_false_iff, beq_iff_eq, bne_iff_ne, beq_eq_false_iff_ne, bne_eq_false_iff_eq, Int.not_lt, Int.not_le, ge_iff_le, gt_iff_lt, not_or, not_and, Bool.cond_true_right, Bool.cond_true_left, Bool.cond_false_right, Bool.cond_false_left, bif_t, bif_f] at *; omega) | (intro hg; (try simp only [reduceCtorEq, ints_len, bools_len, Bool.not_false, Bool.not_true, List.length_map, decide_eq_true_eq, decide_eq_false_iff_not, Bool.not_eq_true', Bool.not_eq_false', Bool.and_eq_true, Bool.or_eq_true, Bool.and_eq_false_iff, Bool.or_eq_false_iff, beq_iff_eq, bne_iff_ne, beq_eq_false_iff_ne, bne_eq_false_iff_eq, Int.not_lt, Int.not_le, ge_iff_le, gt_iff_lt, not_or, not_and, Bool.cond_true_right, Bool.cond_true_left, Bool.cond_false_right, Bool.cond_false_left, bif_t, bif_f] at hg); first | (with_reducible assumption) | omega | (simp only [reduceCtorEq, ints_len, bools_len, Bool.not_false, Bool.not_true, List.length_map, decide_eq_true_eq, decide_eq_false_iff_not, Bool.not_eq_true', Bool.not_eq_false', Bool.and_eq_true, Bool.or_eq_true, Bool.and_eq_false_iff, Bool.or_eq_false_iff, beq_iff_eq, bne_iff_ne, beq_eq_false_iff_ne, bne_eq_false_iff_eq, Int.not_lt, Int.not_le, ge_iff_le, gt_iff_lt, not_or, not_and, Bool.cond_true_right, Bool.cond_true_left, Bool.cond_false_right, Bool.cond_false_left, bif_t, bif_f] at *; omega) | (refine ⟨?_, ?_⟩ <;> omega)) | (refine ⟨?_, ?_⟩ <;> omega) | (simp [*]; done) | grind)); (conv => whnf))
      refine ⟨N - (i + 1), by omega, [], ?_⟩
      conv => whnf
      refine ⟨i + 1, by omega, rfl, ?_⟩
      rw [allTo_succ, List.map_append]; rfl
    · have hi' : i = N := by omega
      subst hi'
      refine ⟨[], ?_⟩
      conv => whnf
      exact ⟨[1], by simp, .cons ⟨_, rfl, rfl, rfl⟩ .nil, rfl⟩
end Go.Proofs.Ytahdihhhankhdaa.V
-- Vx
namespace Go.Proofs.Ytahdihhhankhdaa.V
open Go.Proofs.YtahdihhhankhdaaVY Go.RowKit
def R130 : Ct := fun ss hp r out => ∃ (l : List Int) (a b : Ref), ss = [.one (.d (.sl 1 (l.map inC))), .v (.ag (a.c.map .d)), .v (.ag (b.c.map .d))] ∧ hp = [] ∧ refOk l a = true ∧ refOk l b = true ∧ r = .one (.own 0) ∧ out = [.row 2 ((pairs l a b).map prC)]
set_option maxHeartbeats 4000000 in
theorem ok130 : VSound Try.prog (130, R130) := by
  refine vsound (T := ty) (F := [(146, R146)]) (pl := [(4, [[], [], [0, 1], [], [], [0, 1, 2, 3, 4], [0, 1, 2, 3, 4, 5], [0, 1, 2, 3, 4, 5, 6]], .look 0 (.look 1 (.look 3 (.look 4 (.act 2 [3, 4] (.act 5 [] (.look 6 (.look 7 .done)) .stop) .stop))))), (11, [[], [], [0, 1], [0, 1, 2], [], [], [4, 5], [4, 5, 6], [0, 1, 2, 3, 4, 5, 6, 7]], .look 0 (.look 1 (.look 2 (.look 3 (.look 4 (.look 5 (.look 6 (.look 7 (.look 8 .done)))))))))]) (nw := true) (cuts := []) mix tyOk (.cons (ok146) .nil) Try.func130 (by kernel_rfl) (by kernel_rfl) ?_
  rintro _ _ _ _ ⟨l, ⟨aa, ab, sa⟩, ⟨ba, bb, sb⟩, rfl, rfl, ha, hb, rfl, rfl⟩
  conv => whnf
  ((with_reducible refine And.intro (fun (e : (_ : Bool) = true) => ?_) (fun (e : (_ : Bool) = false) => ?_)) <;> (try simp only [reduceCtorEq, ints_len, bools_len, Bool.not_false, Bool.not_true, List.length_map, decide_eq_true_eq, decide_eq_false_iff_not, Bool.not_eq_true', Bool.not_eq_false', Bool.and_eq_true, Bool.or_eq_true, Bool.and_eq_false_iff, Bool.or_eq_false_iff, beq_iff_eq, bne_iff_ne, beq_eq_false_iff_ne, bne_eq_false_iff_eq, Int.not_lt, Int.not_le, ge_iff_le, gt_iff_lt, not_or, not_and, Bool.cond_true_right, Bool.cond_true_left, Bool.cond_false_right, Bool.cond_false_left, bif_t, bif_f] at e) <;> (conv => whnf))
  · have e1 := e
    refine ⟨[.slot 6 true], ?_⟩
    conv => whnf
    refine ⟨[2], by simp, .cons ⟨_, rfl, rfl, ?_⟩ .nil, rfl⟩
    unfold pairs; rw [if_neg (by rintro ⟨_, _, h⟩; exact e1 h)]; rfl
  · have e1 := e
    have hP : pairs l ⟨aa, ab, sa⟩ ⟨ba, bb, sb⟩ = pairsTo (places l ⟨aa, ab, sa⟩) (places l ⟨ba, bb, sb⟩) (places l ⟨aa, ab, sa⟩).length := by
      unfold pairs; rw [if_pos ⟨ha, hb, e1⟩]
    rw [hP]
    (refine ⟨[], false, false, ?_⟩; (conv => whnf); refine ⟨_, _, ⟨l, ⟨aa, ab, sa⟩, rfl, rfl, ha, rfl, rfl⟩, ?_⟩; (conv => whnf))
    (refine ⟨[], false, false, ?_⟩; (conv => whnf); refine ⟨_, _, ⟨l, ⟨ba, bb, sb⟩, rfl, rfl, hb, rfl, rfl⟩, ?_⟩; (conv => whnf))
    have hA := places_len ha
    have hB := places_len hb
    generalize places l ⟨aa, ab, sa⟩ = A at *
    generalize places l ⟨ba, bb, sb⟩ = B at *
    refine ⟨[.slot 7 true], [7, 8, 9, 10], 5, fun n1 σ => ∃ i : Nat, i ≤ A.length ∧ n1 = A.length - i ∧ σ = (⟨[.junk, .junk, .junk, .junk, .junk, .junk, .junk, .one (.own 4), .one (.own 2), .one (.own 3), .di .i64 i, .junk, .junk, .junk, .junk, .junk, .junk, .junk, .junk, .junk, .junk, .junk, .junk, .junk, .junk, .junk, .junk, .junk, .junk, .junk, .junk, .junk, .junk, .junk, .junk, .junk, .junk, .junk, .junk, .junk, .junk, .junk, .junk, .junk, .junk, .junk, .junk, .junk, .junk, .junk, .junk], [.box (List.map .d (Ref.mk aa ab sa).c), .box (List.map .d (Ref.mk ba bb sb).c), .row 1 (A.map inC), .row 1 (B.map inC), .row 2 ((pairsTo A B i).map prC)]⟩ : St), ?_, ?_⟩
    · refine ⟨A.length, ?_⟩
      conv => whnf
      exact ⟨0, by omega, by omega, rfl⟩
    · rintro n1 _ ⟨i, hi, rfl, rfl⟩
      conv => whnf
      ((with_reducible refine And.intro (fun (e : (_ : Bool) = true) => ?_) (fun (e : (_ : Bool) = false) => ?_)) <;> (try simp only [reduceCtorEq, ints_len, bools_len, Bool.not_false, Bool.not_true, List.length_map, decide_eq_true_eq, decide_eq_false_iff_not, Bool.not_eq_true', Bool.not_eq_false', Bool.and_eq_true, Bool.or_eq_true, Bool.and_eq_false_iff, Bool.or_eq_false_iff, beq_iff_eq, bne_iff_ne, beq_eq_false_iff_ne, bne_eq_false_iff_eq, Int.not_lt, Int.not_le, ge_iff_le, gt_iff_lt, not_or, not_and, Bool.cond_true_right, Bool.cond_true_left, Bool.cond_false_right, Bool.cond_false_left, bif_t, bif_f] at e) <;> (conv => whnf))
      · obtain ⟨x, hx⟩ := get_lt (l := A) (i := i) (by omega)
        have hpl := pairsTo_len A B i
        have hib : i * B.length ≤ 400 * 400 := Nat.mul_le_mul (by omega) hB
        refine ⟨[], [7, 8, 9, 10, 11], 5, fun n2 σ => ∃ j : Nat, j ≤ B.length ∧ n2 = B.length - j ∧ σ = (⟨[.junk, .junk, .junk, .junk, .junk, .junk, .junk, .one (.own 4), .one (.own 2), .one (.own 3), .di .i64 i, .di .i64 j, .junk, .junk, .junk, .junk, .junk, .junk, .junk, .junk, .junk, .junk, .junk, .junk, .junk, .junk, .junk, .junk, .junk, .junk, .junk, .junk, .junk, .junk, .junk, .junk, .junk, .junk, .junk, .junk, .junk, .junk, .junk, .junk, .junk, .junk, .junk, .junk, .junk, .junk, .junk], [.box (List.map .d (Ref.mk aa ab sa).c), .box (List.map .d (Ref.mk ba bb sb).c), .row 1 (A.map inC), .row 1 (B.map inC), .row 2 ((pairsTo A B i ++ (idxs B x j).map fun v => ((i : Int), v)).map prC)]⟩ : St), ?_, ?_⟩
        · refine ⟨B.length, ?_⟩
          conv => whnf
          refine ⟨0, by omega, by omega, ?_⟩
          rw [show idxs B x 0 = [] from rfl, List.map_nil, List.append_nil]; rfl
        · rintro n2 _ ⟨j, hj, rfl, rfl⟩
          conv => whnf
          have hij := idxs_len B x j
          ((with_reducible refine And.intro (fun (e : (_ : Bool) = true) => ?_) (fun (e : (_ : Bool) = false) => ?_)) <;> (try simp only [reduceCtorEq, ints_len, bools_len, Bool.not_false, Bool.not_true, List.length_map, decide_eq_true_eq, decide_eq_false_iff_not, Bool.not_eq_true', Bool.not_eq_false', Bool.and_eq_true, Bool.or_eq_true, Bool.and_eq_false_iff, Bool.or_eq_false_iff, beq_iff_eq, bne_iff_ne, beq_eq_false_iff_ne, bne_eq_false_iff_eq, Int.not_lt, Int.not_le, ge_iff_le, gt_iff_lt, not_or, not_and, Bool.cond_true_right, Bool.cond_true_left, Bool.cond_false_right, Bool.cond_false_left, bif_t, bif_f] at e) <;> (conv => whnf))
          · obtain ⟨y, hy⟩ := get_lt (l := B) (i := j) (by omega)
            (refine And.intro ⟨by omega, by rw [map_len]; omega⟩ ?_; (conv => whnf); refine ⟨_, And.intro (enc_get hx) ?_⟩; (conv => whnf))
            (refine And.intro ⟨by omega, by rw [map_len]; omega⟩ ?_; (conv => whnf); refine ⟨_, And.intro (enc_get hy) ?_⟩; (conv => whnf))
            ((with_reducible refine And.intro (fun (e : (_ : Bool) = true) => ?_) (fun (e : (_ : Bool) = false) => ?_)) <;> (try simp only [reduceCtorEq, ints_len, bools_len, Bool.not_false, Bool.not_true, List.length_map, decide_eq_true_eq, decide_eq_false_iff_not, Bool.not_eq_true', Bool.not_eq_false', Bool.and_eq_true, Bool.or_eq_true, Bool.and_eq_false_iff, Bool.or_eq_false_iff, beq_iff_eq, bne_iff_ne, beq_eq_false_iff_ne, bne_eq_false_iff_eq, Int.not_lt, Int.not_le, ge_iff_le, gt_iff_lt, not_or, not_and, Bool.cond_true_right, Bool.cond_true_left, Bool.cond_false_right, Bool.cond_false_left, bif_t, bif_f] at e) <;> (conv => whnf))
            · have e2 := e
              refine ⟨by rw [map_len, List.length_append, List.length_map]; simp only [List.length_cons, List.length_nil]; omega, ?_⟩
              conv => whnf
              (refine And.intro ?_ ?_; ((first | (with_reducible assumption) | (intro _; with_reducible assumption) | omega | (simp only [reduceCtorEq, ints_len, bools_len, Bool.not_false, Bool.not_true, List.length_map, decide_eq_true_eq, decide_eq_false_iff_not, Bool.not_eq_true', Bool.not_eq_false', Bool.and_eq_true, Bool.or_eq_true, Bool.and_eq_false_iff, Bool.or_eq_false_iff, beq_iff_eq, bne_iff_ne, beq_eq_false_iff_ne, bne_eq_false_iff_eq, Int.not_lt, Int.not_le, ge_iff_le, gt_iff_lt, not_or, not_and, Bool.cond_true_right, Bool.cond_true_left, Bool.cond_false_right, Bool.cond_false_left, bif_t, bif_f] at *; omega) | (intro hg; (try simp only [reduceCtorEq, ints_len, bools_len, Bool.not_false, Bool.not_true, List.length_map, decide_eq_true_eq, decide_eq_false_iff_not, Bool.not_eq_true', Bool.not_eq_false', Bool.and_eq_true, Bool.or_eq_true, Bool.and_eq_false_iff, Bool.or_eq_false_iff, beq_iff_eq, bne_iff_ne, beq_eq_false_iff_ne, bne_eq_false_iff_eq, Int.not_lt, Int.not_le, ge_iff_le, gt_iff_lt, not_or, not_and, Bool.cond_true_right, Bool.cond_true_left, Bool.cond_false_right, Bool.cond_false_left, bif_t, bif_f] at hg); first | (with_reducible assumption) | omega | (simp only [reduceCtorEq, ints_len, bools_len, Bool.not_false, Bool.not_true, List.length_map, decide_eq_true_eq, decide_eq_false_iff_not, Bool.not_eq_true', Bool.not_eq_false', Bool.and_eq_true, Bool.or_eq_true, Bool.and_eq_false_iff, Bool.or_eq_false_iff, beq_iff_eq, bne_iff_ne, beq_eq_false_iff_ne, bne_eq_false_iff_eq, Int.not_lt, Int.not_le, ge_iff_le, gt_iff_lt, not_or, not_and, Bool.cond_true_right, Bool.cond_true_left, Bool.cond_false_right, Bool.cond_false_left, bif_t, bif_f] at *; omega) | (refine ⟨?_, ?_⟩ <;> omega)) | (refine ⟨?_, ?_⟩ <;> omega) | (simp [*]; done) | grind)); (conv => whnf))
              refine ⟨B.length - (j + 1), by omega, [], ?_⟩
              conv => whnf
              refine ⟨j + 1, by omega, rfl, ?_⟩
              rw [idxs_at (by rw [hy, e2] : B[j]? = some x)]
              simp only [List.map_append, List.map_cons, List.map_nil, ← List.append_assoc]; rfl
            · have e2 := e
              (refine And.intro ?_ ?_; ((first | (with_reducible assumption) | (intro _; with_reducible assumption) | omega | (simp only [reduceCtorEq, ints_len, bools_len, Bool.not_false, Bool.not_true, List.length_map, decide_eq_true_eq, decide_eq_false_iff_not, Bool.not_eq_true', Bool.not_eq_false', Bool.and_eq_true, Bool.or_eq_true, Bool.and_eq_false_iff, Bool.or_eq_false_iff, beq_iff_eq, bne_iff_ne, beq_eq_false_iff_ne, bne_eq_false_iff_eq, Int.not_lt, Int.not_le, ge_iff_le, gt_iff_lt, not_or, not_and, Bool.cond_true_right, Bool.cond_true_left, Bool.cond_false_right, Bool.cond_false_left, bif_t, bif_f] at *; omega) | (intro hg; (try simp only [reduceCtorEq, ints_len, bools_len, Bool.not_false, Bool.not_true, List.length_map, decide_eq_true_eq, decide_eq_false_iff_not, Bool.not_eq_true', Bool.not_eq_false', Bool.and_eq_true, Bool.or_eq_true, Bool.and_eq_false_iff, Bool.or_eq_false_iff, beq_iff_eq, bne_iff_ne, beq_eq_false_iff_ne, bne_eq_false_iff_eq, Int.not_lt, Int.not_le, ge_iff_le, gt_iff_lt, not_or, not_and, Bool.cond_true_right, Bool.cond_true_left, Bool.cond_false_right, Bool.cond_false_left, bif_t, bif_f] at hg); first | (with_reducible assumption) | omega | (simp only [reduceCtorEq, ints_len, bools_len, Bool.not_false, Bool.not_true, List.length_map, decide_eq_true_eq, decide_eq_false_iff_not, Bool.not_eq_true', Bool.not_eq_false', Bool.and_eq_true, Bool.or_eq_true, Bool.and_eq_false_iff, Bool.or_eq_false_iff, beq_iff_eq, bne_iff_ne, beq_eq_false_iff_ne, bne_eq_false_iff_eq, Int.not_lt, Int.not_le, ge_iff_le, gt_iff_lt, not_or, not_and, Bool.cond_true_right, Bool.cond_true_left, Bool.cond_false_right, Bool.cond_false_left, bif_t, bif_f] at *; omega) | (refine ⟨?_, ?_⟩ <;> omega)) | (refine ⟨?_, ?_⟩ <;> omega) | (simp [*]; done) | grind)); (conv => whnf))
              refine ⟨B.length - (j + 1), by omega, [], ?_⟩
              conv => whnf
              refine ⟨j + 1, by omega, rfl, ?_⟩
              rw [idxs_ne hy e2]; rfl
          · have hj' : j = B.length := by omega
            subst hj'
            (refine And.intro ?_ ?_; ((first | (with_reducible assumption) | (intro _; with_reducible assumption) | omega | (simp only [reduceCtorEq, ints_len, bools_len, Bool.not_false, Bool.not_true, List.length_map, decide_eq_true_eq, decide_eq_false_iff_not, Bool.not_eq_true', Bool.not_eq_false', Bool.and_eq_true, Bool.or_eq_true, Bool.and_eq_false_iff, Bool.or_eq_false_iff, beq_iff_eq, bne_iff_ne, beq_eq_false_iff_ne, bne_eq_false_iff_eq, Int.not_lt, Int.not_le, ge_iff_le, gt_iff_lt, not_or, not_and, Bool.cond_true_right, Bool.cond_true_left, Bool.cond_false_right, Bool.cond_false_left, bif_t, bif_f] at *; omega) | (intro hg; (try simp only [reduceCtorEq, ints_len, bools_len, Bool.not_false, Bool.not_true, List.length_map, decide_eq_true_eq, decide_eq_false_iff_not, Bool.not_eq_true', Bool.not_eq_false', Bool.and_eq_true, Bool.or_eq_true, Bool.and_eq_false_iff, Bool.or_eq_false_iff, beq_iff_eq, bne_iff_ne, beq_eq_false_iff_ne, bne_eq_false_iff_eq, Int.not_lt, Int.not_le, ge_iff_le, gt_iff_lt, not_or, not_and, Bool.cond_true_right, Bool.cond_true_left, Bool.cond_false_right, Bool.cond_false_left, bif_t, bif_f] at hg); first | (with_reducible assumption) | omega | (simp only [reduceCtorEq, ints_len, bools_len, Bool.not_false, Bool.not_true, List.length_map, decide_eq_true_eq, decide_eq_false_iff_not, Bool.not_eq_true', Bool.not_eq_false', Bool.and_eq_true, Bool.or_eq_true, Bool.and_eq_false_iff, Bool.or_eq_false_iff, beq_iff_eq, bne_iff_ne, beq_eq_false_iff_ne, bne_eq_false_iff_eq, Int.not_lt, Int.not_le, ge_iff_le, gt_iff_lt, not_or, not_and, Bool.cond_true_right, Bool.cond_true_left, Bool.cond_false_right, Bool.cond_false_left, bif_t, bif_f] at *; omega) | (refine ⟨?_, ?_⟩ <;> omega)) | (refine ⟨?_, ?_⟩ <;> omega) | (simp [*]; done) | grind)); (conv => whnf))
            refine ⟨A.length - (i + 1), by omega, [], ?_⟩
            conv => whnf
            refine ⟨i + 1, by omega, rfl, ?_⟩
            rw [pairsTo, getD_of hx]; rfl
      · have hi' : i = A.length := by omega
        subst hi'
        refine ⟨[], ?_⟩
        conv => whnf
        exact ⟨[4], by simp, .cons ⟨_, rfl, rfl, rfl⟩ .nil, rfl⟩
end Go.Proofs.Ytahdihhhankhdaa.V
-- Ven
namespace Go.Proofs.Ytahdihhhankhdaa.V
open Go.Proofs.YtahdihhhankhdaaVY Go.RowKit
/-- some meeting where the second comes ahead of the first -/
def early (l : List Int) (a b : Ref) : Bool := (pairs l a b).any fun p => decide (p.2 < p.1)
theorem dist_small (l : List Int) (a b : Ref) : (dist l a b).length ≤ 160000 := by
  unfold dist comp
  have h1 := compTo_le (sortI ((pairs l a b).map gap)) (sortI ((pairs l a b).map gap)).length
  rw [sortI_len, List.length_map] at h1
  have := prs_len l a b
  rw [sortI_len, List.length_map]
  omega
theorem compTo_head (l : List Int) : ∀ i, 1 ≤ i → i ≤ l.length → (compTo l i)[0]? = l[0]?
  | 0, h, _ => absurd h (by decide)
  | 1, _, h => by
    obtain ⟨x, hx⟩ := get_lt (l := l) (i := 0) (by omega)
    rw [compTo, if_neg (fun h => absurd h.1 (by decide)), gD_of hx, hx]; rfl
  | i + 2, _, h => by
    have ih := compTo_head l (i + 1) (by omega) (by omega)
    have hne : 0 < (compTo l (i + 1)).length := by
      obtain ⟨x, hx⟩ := get_lt (l := l) (i := 0) (by omega)
      rw [hx] at ih
      exact (List.getElem?_eq_some_iff.1 ih).1
    rw [compTo]
    split
    · exact ih
    · rw [List.getElem?_append_left hne]; exact ih
def R138 : Ct := fun ss hp r out => ∃ (l : List Int) (a b : Ref), ss = [.one (.d (.sl 1 (l.map inC))), .v (.ag (a.c.map .d)), .v (.ag (b.c.map .d))] ∧ hp = [] ∧ l.length < 4611686018427387904 ∧ a.str.length < 4611686018427387904 ∧ b.str.length < 4611686018427387904 ∧ r = .tup [.c (.d (.int .i64 ((dist l a b).getD 0 0))), .c (.d (.int .i64 ((dist l a b).getD ((dist l a b).length - 1) 0))), .c (.d (.bool (decide (dist l a b ≠ []))))] ∧ out = []
set_option maxHeartbeats 4000000 in
theorem ok138 : VSound Try.prog (138, R138) := by
  refine vsound (T := ty) (F := [(150, R150)]) (pl := [(4, [[], [0], [0, 1], [], [], [4], [4, 5], [3, 4, 5, 6], [3, 4, 5, 6, 7], [0, 1, 2], [0, 1, 2, 3, 4, 5, 6, 7, 8, 9], [0, 1, 2, 3, 4, 5, 6, 7, 8, 9, 10]], .look 0 (.look 1 (.look 2 (.look 3 (.look 4 (.look 5 (.look 6 (.look 7 (.look 8 (.look 9 (.look 10 (.look 11 .done))))))))))))]) (nw := true) (cuts := []) mix tyOk (.cons (ok150) .nil) Try.func138 (by kernel_rfl) (by kernel_rfl) ?_
  rintro _ _ _ _ ⟨l, ⟨aa, ab, sa⟩, ⟨ba, bb, sb⟩, rfl, rfl, hl, ha, hb, rfl, rfl⟩
  conv => whnf
  (refine ⟨[], false, false, ?_⟩; (conv => whnf); refine ⟨_, _, ⟨l, ⟨aa, ab, sa⟩, ⟨ba, bb, sb⟩, rfl, rfl, hl, ha, hb, rfl, rfl⟩, ?_⟩; (conv => whnf))
  have hs := dist_small l ⟨aa, ab, sa⟩ ⟨ba, bb, sb⟩
  generalize dist l ⟨aa, ab, sa⟩ ⟨ba, bb, sb⟩ = Q at *
  rw [map_len]
  ((with_reducible refine And.intro (fun (e : (_ : Bool) = true) => ?_) (fun (e : (_ : Bool) = false) => ?_)) <;> (try simp only [reduceCtorEq, ints_len, bools_len, Bool.not_false, Bool.not_true, List.length_map, decide_eq_true_eq, decide_eq_false_iff_not, Bool.not_eq_true', Bool.not_eq_false', Bool.and_eq_true, Bool.or_eq_true, Bool.and_eq_false_iff, Bool.or_eq_false_iff, beq_iff_eq, bne_iff_ne, beq_eq_false_iff_ne, bne_eq_false_iff_eq, Int.not_lt, Int.not_le, ge_iff_le, gt_iff_lt, not_or, not_and, Bool.cond_true_right, Bool.cond_true_left, Bool.cond_false_right, Bool.cond_false_left, bif_t, bif_f] at e) <;> (conv => whnf))
  · have e1 : Q = [] := List.length_eq_zero_iff.1 (by omega)
    subst e1
    (refine ⟨[], ?_⟩; (conv => whnf); refine ⟨[], .nil, .nil, ?_⟩; (conv => whnf))
    exact .cons rfl (.cons rfl (.cons rfl .nil))
  · have e1 : Q.length ≠ 0 := by omega
    have hne : Q ≠ [] := fun h => e1 (by rw [h]; rfl)
    obtain ⟨x, hx⟩ := get_lt (l := Q) (i := 0) (by omega)
    obtain ⟨y, hy⟩ := get_lt (l := Q) (i := Q.length - 1) (by omega)
    have hi : ((Q.length : Nat) : Int) - 1 = ((Q.length - 1 : Nat) : Int) := by omega
    rw [gD_of hx, gD_of hy, decide_eq_true hne]
    refine And.intro ⟨by omega, by rw [map_len, Int.toNat_zero]; omega⟩ ?_
    conv => whnf
    refine ⟨_, And.intro (enc_get (i := 0) hx) ?_⟩
    conv => whnf
    rw [map_len]
    (repeat (refine And.intro ?_ ?_; ((first | (with_reducible assumption) | (intro _; with_reducible assumption) | omega | (simp only [reduceCtorEq, ints_len, bools_len, Bool.not_false, Bool.not_true, List.length_map, decide_eq_true_eq, decide_eq_false_iff_not, Bool.not_eq_true', Bool.not_eq_false', Bool.and_eq_true, Bool.or_eq_true, Bool.and_eq_false_iff, Bool.or_eq_false_iff, beq_iff_eq, bne_iff_ne, beq_eq_false_iff_ne, bne_eq_false_iff_eq, Int.not_lt, Int.not_le, ge_iff_le, gt_iff_lt, not_or, not_and, Bool.cond_true_right, Bool.cond_true_left, Bool.cond_false_right, Bool.cond_false_left, bif_t, bif_f] at *; omega) | (intro hg; (try simp only [reduceCtorEq, ints_len, bools_len, Bool.not_false, Bool.not_true, List.length_map, decide_eq_true_eq, decide_eq_false_iff_not, Bool.not_eq_true', Bool.not_eq_false', Bool.and_eq_true, Bool.or_eq_true, Bool.and_eq_false_iff, Bool.or_eq_false_iff, beq_iff_eq, bne_iff_ne, beq_eq_false_iff_ne, bne_eq_false_iff_eq, Int.not_lt, Int.not_le, ge_iff_le, gt_iff_lt, not_or, not_and, Bool.cond_true_right, Bool.cond_true_left, Bool.cond_false_right, Bool.cond_false_left, bif_t, bif_f] at hg); first | (with_reducible assumption) | omega | (simp only [reduceCtorEq, ints_len, bools_len, Bool.not_false, Bool.not_true, List.length_map, decide_eq_true_eq, decide_eq_false_iff_not, Bool.not_eq_true', Bool.not_eq_false', Bool.and_eq_true, Bool.or_eq_true, Bool.and_eq_false_iff, Bool.or_eq_false_iff, beq_iff_eq, bne_iff_ne, beq_eq_false_iff_ne, bne_eq_false_iff_eq, Int.not_lt, Int.not_le, ge_iff_le, gt_iff_lt, not_or, not_and, Bool.cond_true_right, Bool.cond_true_left, Bool.cond_false_right, Bool.cond_false_left, bif_t, bif_f] at *; omega) | (refine ⟨?_, ?_⟩ <;> omega)) | (refine ⟨?_, ?_⟩ <;> omega) | (simp [*]; done) | grind)); (conv => whnf)))
    rw [hi]
    refine ⟨_, And.intro (enc_get hy) ?_⟩
    conv => whnf
    refine ⟨[], ?_⟩
    conv => whnf
    exact ⟨[], .nil, .nil, .cons rfl (.cons rfl (.cons rfl .nil))⟩
def R135 : Ct := fun ss hp r out => ∃ (l : List Int) (a b : Ref), ss = [.one (.d (.sl 1 (l.map inC))), .v (.ag (a.c.map .d)), .v (.ag (b.c.map .d))] ∧ hp = [] ∧ l.length < 4611686018427387904 ∧ a.str.length < 4611686018427387904 ∧ b.str.length < 4611686018427387904 ∧ r = .db (early l a b) ∧ out = []
theorem early_dist (l : List Int) (a b : Ref) : early l a b = (decide (dist l a b ≠ []) && decide ((dist l a b).getD 0 0 < 0)) := by
  unfold early dist
  have hp := sortI_perm ((pairs l a b).map gap)
  have hs := sortI_sorted ((pairs l a b).map gap)
  generalize sortI ((pairs l a b).map gap) = S at *
  rw [show ((pairs l a b).any fun p => decide (p.2 < p.1)) = ((pairs l a b).map gap).any fun g => decide (g < 0) by
    rw [List.any_map]
    congr 1
    funext p
    simp only [Function.comp, gap]
    exact decide_eq_decide.2 (by omega)]
  rw [show ((pairs l a b).map gap).any (fun g => decide (g < 0)) = S.any fun g => decide (g < 0) from (List.Perm.any_eq hp).symm]
  cases S with
  | nil => rfl
  | cons x S =>
    have hh := compTo_head (x :: S) (x :: S).length (by simp) (Nat.le_refl _)
    have hc : comp (x :: S) ≠ [] := fun h => by unfold comp at h; rw [h] at hh; simp at hh
    have hg : (comp (x :: S)).getD 0 0 = x := gD_of (by unfold comp; rw [hh]; rfl)
    rw [decide_eq_true hc, hg, Bool.true_and, List.any_cons]
    by_cases h : x < 0
    · rw [decide_eq_true h]; rfl
    · rw [decide_eq_false h, Bool.false_or, List.any_eq_false]
      intro y hy
      have := (List.pairwise_cons.1 hs).1 y hy
      simp only [decide_eq_true_eq]
      omega
set_option maxHeartbeats 4000000 in
theorem ok135 : VSound Try.prog (135, R135) := by
  refine vsound (T := ty) (F := [(138, R138)]) (pl := []) (nw := true) (cuts := []) mix tyOk (.cons (ok138) .nil) Try.func135 (by kernel_rfl) (by kernel_rfl) ?_
  rintro _ _ _ _ ⟨l, ⟨aa, ab, sa⟩, ⟨ba, bb, sb⟩, rfl, rfl, hl, ha, hb, rfl, rfl⟩
  conv => whnf
  (refine ⟨[], false, false, ?_⟩; (conv => whnf); refine ⟨_, _, ⟨l, ⟨aa, ab, sa⟩, ⟨ba, bb, sb⟩, rfl, rfl, hl, ha, hb, rfl, rfl⟩, ?_⟩; (conv => whnf))
  rw [early_dist]
  (repeat' (first | ((with_reducible refine And.intro (fun (e : (_ : Bool) = true) => ?_) (fun (e : (_ : Bool) = false) => ?_)) <;> (try simp only [reduceCtorEq, ints_len, bools_len, Bool.not_false, Bool.not_true, List.length_map, decide_eq_true_eq, decide_eq_false_iff_not, Bool.not_eq_true', Bool.not_eq_false', Bool.and_eq_true, Bool.or_eq_true, Bool.and_eq_false_iff, Bool.or_eq_false_iff, beq_iff_eq, bne_iff_ne, beq_eq_false_iff_ne, bne_eq_false_iff_eq, Int.not_lt, Int.not_le, ge_iff_le, gt_iff_lt, not_or, not_and, Bool.cond_true_right, Bool.cond_true_left, Bool.cond_false_right, Bool.cond_false_left, bif_t, bif_f] at e) <;> (conv => whnf)) | ((with_reducible refine And.intro (fun (e : (_ : Bool) = false) => ?_) (fun (e : (_ : Bool) = true) => ?_)) <;> (try simp only [reduceCtorEq, ints_len, bools_len, Bool.not_false, Bool.not_true, List.length_map, decide_eq_true_eq, decide_eq_false_iff_not, Bool.not_eq_true', Bool.not_eq_false', Bool.and_eq_true, Bool.or_eq_true, Bool.and_eq_false_iff, Bool.or_eq_false_iff, beq_iff_eq, bne_iff_ne, beq_eq_false_iff_ne, bne_eq_false_iff_eq, Int.not_lt, Int.not_le, ge_iff_le, gt_iff_lt, not_or, not_and, Bool.cond_true_right, Bool.cond_true_left, Bool.cond_false_right, Bool.cond_false_left, bif_t, bif_f] at e) <;> (conv => whnf)) | (refine And.intro ?_ ?_; ((first | (with_reducible assumption) | (intro _; with_reducible assumption) | omega | (simp only [reduceCtorEq, ints_len, bools_len, Bool.not_false, Bool.not_true, List.length_map, decide_eq_true_eq, decide_eq_false_iff_not, Bool.not_eq_true', Bool.not_eq_false', Bool.and_eq_true, Bool.or_eq_true, Bool.and_eq_false_iff, Bool.or_eq_false_iff, beq_iff_eq, bne_iff_ne, beq_eq_false_iff_ne, bne_eq_false_iff_eq, Int.not_lt, Int.not_le, ge_iff_le, gt_iff_lt, not_or, not_and, Bool.cond_true_right, Bool.cond_true_left, Bool.cond_false_right, Bool.cond_false_left, bif_t, bif_f] at *; omega) | (intro hg; (try simp only [reduceCtorEq, ints_len, bools_len, Bool.not_false, Bool.not_true, List.length_map, decide_eq_true_eq, decide_eq_false_iff_not, Bool.not_eq_true', Bool.not_eq_false', Bool.and_eq_true, Bool.or_eq_true, Bool.and_eq_false_iff, Bool.or_eq_false_iff, beq_iff_eq, bne_iff_ne, beq_eq_false_iff_ne, bne_eq_false_iff_eq, Int.not_lt, Int.not_le, ge_iff_le, gt_iff_lt, not_or, not_and, Bool.cond_true_right, Bool.cond_true_left, Bool.cond_false_right, Bool.cond_false_left, bif_t, bif_f] at hg); first | (with_reducible assumption) | omega | (simp only [reduceCtorEq, ints_len, bools_len, Bool.not_false, Bool.not_true, List.length_map, decide_eq_true_eq, decide_eq_false_iff_not, Bool.not_eq_true', Bool.not_eq_false', Bool.and_eq_true, Bool.or_eq_true, Bool.and_eq_false_iff, Bool.or_eq_false_iff, beq_iff_eq, bne_iff_ne, beq_eq_false_iff_ne, bne_eq_false_iff_eq, Int.not_lt, Int.not_le, ge_iff_le, gt_iff_lt, not_or, not_and, Bool.cond_true_right, Bool.cond_true_left, Bool.cond_false_right, Bool.cond_false_left, bif_t, bif_f] at *; omega) | (refine ⟨?_, ?_⟩ <;> omega)) | (refine ⟨?_, ?_⟩ <;> omega) | (simp [*]; done) | grind)); (conv => whnf))))
  (refine ⟨[], ?_⟩; (conv => whnf); refine ⟨[], .nil, .nil, ?_⟩; (conv => whnf))
  congr 1
  generalize decide (dist l ⟨aa, ab, sa⟩ ⟨ba, bb, sb⟩ ≠ []) = A
  cases A <;> rfl
def R137 : Ct := fun ss hp r out => ∃ (l : List Int) (a b : Ref), ss = [.one (.d (.sl 1 (l.map inC))), .v (.ag (a.c.map .d)), .v (.ag (b.c.map .d))] ∧ hp = [] ∧ refOk l a = true ∧ refOk l b = true ∧ r = .db (early l a b) ∧ out = []
set_option maxHeartbeats 4000000 in
theorem ok137 : VSound Try.prog (137, R137) := by
  refine vsound (T := ty) (F := [(130, R130)]) (pl := [(5, [[], [], [0, 1], [0, 1, 2], [0, 1, 2, 3], [], [], [5, 6], [5, 6, 7], [5, 6, 7, 8], [0, 1, 2, 3, 4, 5, 6, 7, 8, 9]], .look 0 (.look 1 (.look 2 (.look 3 (.look 4 (.look 5 (.look 6 (.look 7 (.look 8 (.look 9 (.look 10 .done)))))))))))]) (nw := true) (cuts := []) mix tyOk (.cons (ok130) .nil) Try.func137 (by kernel_rfl) (by kernel_rfl) ?_
  rintro _ _ _ _ ⟨l, ⟨aa, ab, sa⟩, ⟨ba, bb, sb⟩, rfl, rfl, ha, hb, rfl, rfl⟩
  conv => whnf
  (refine ⟨[], false, false, ?_⟩; (conv => whnf); refine ⟨_, _, ⟨l, ⟨aa, ab, sa⟩, ⟨ba, bb, sb⟩, rfl, rfl, ha, hb, rfl, rfl⟩, ?_⟩; (conv => whnf))
  have hpl := prs_len l ⟨aa, ab, sa⟩ ⟨ba, bb, sb⟩
  unfold early
  generalize pairs l ⟨aa, ab, sa⟩ ⟨ba, bb, sb⟩ = P at *
  refine ⟨[], [7, 8], 3, fun n1 σ => ∃ i : Nat, i ≤ P.length ∧ n1 = P.length - i ∧ (∀ j < i, ∀ p, P[j]? = some p → ¬p.2 < p.1) ∧ σ = (⟨[.junk, .junk, .junk, .junk, .junk, .junk, .junk, .one (.own 2), .di .i64 i, .junk, .junk, .junk, .junk, .junk, .junk, .junk, .junk, .junk, .junk, .junk, .junk, .junk, .junk, .junk, .junk, .junk, .junk, .junk, .junk, .junk], [.box ((Ref.mk aa ab sa).c.map .d), .box ((Ref.mk ba bb sb).c.map .d), .row 2 (P.map prC)]⟩ : St), ?_, ?_⟩
  · refine ⟨P.length, ?_⟩
    conv => whnf
    exact ⟨0, by omega, by omega, fun j hj => absurd hj (Nat.not_lt_zero _), rfl⟩
  · rintro n1 _ ⟨i, hi, rfl, hd, rfl⟩
    conv => whnf
    rw [map_len]
    ((with_reducible refine And.intro (fun (e : (_ : Bool) = true) => ?_) (fun (e : (_ : Bool) = false) => ?_)) <;> (try simp only [reduceCtorEq, ints_len, bools_len, Bool.not_false, Bool.not_true, List.length_map, decide_eq_true_eq, decide_eq_false_iff_not, Bool.not_eq_true', Bool.not_eq_false', Bool.and_eq_true, Bool.or_eq_true, Bool.and_eq_false_iff, Bool.or_eq_false_iff, beq_iff_eq, bne_iff_ne, beq_eq_false_iff_ne, bne_eq_false_iff_eq, Int.not_lt, Int.not_le, ge_iff_le, gt_iff_lt, not_or, not_and, Bool.cond_true_right, Bool.cond_true_left, Bool.cond_false_right, Bool.cond_false_left, bif_t, bif_f] at e) <;> (conv => whnf))
    · obtain ⟨x, hx⟩ := get_lt (l := P) (i := i) (by omega)
      obtain ⟨xa, xb⟩ := x
      (repeat (refine And.intro ?_ ?_; ((first | (with_reducible assumption) | (intro _; with_reducible assumption) | omega | (simp only [reduceCtorEq, ints_len, bools_len, Bool.not_false, Bool.not_true, List.length_map, decide_eq_true_eq, decide_eq_false_iff_not, Bool.not_eq_true', Bool.not_eq_false', Bool.and_eq_true, Bool.or_eq_true, Bool.and_eq_false_iff, Bool.or_eq_false_iff, beq_iff_eq, bne_iff_ne, beq_eq_false_iff_ne, bne_eq_false_iff_eq, Int.not_lt, Int.not_le, ge_iff_le, gt_iff_lt, not_or, not_and, Bool.cond_true_right, Bool.cond_true_left, Bool.cond_false_right, Bool.cond_false_left, bif_t, bif_f] at *; omega) | (intro hg; (try simp only [reduceCtorEq, ints_len, bools_len, Bool.not_false, Bool.not_true, List.length_map, decide_eq_true_eq, decide_eq_false_iff_not, Bool.not_eq_true', Bool.not_eq_false', Bool.and_eq_true, Bool.or_eq_true, Bool.and_eq_false_iff, Bool.or_eq_false_iff, beq_iff_eq, bne_iff_ne, beq_eq_false_iff_ne, bne_eq_false_iff_eq, Int.not_lt, Int.not_le, ge_iff_le, gt_iff_lt, not_or, not_and, Bool.cond_true_right, Bool.cond_true_left, Bool.cond_false_right, Bool.cond_false_left, bif_t, bif_f] at hg); first | (with_reducible assumption) | omega | (simp only [reduceCtorEq, ints_len, bools_len, Bool.not_false, Bool.not_true, List.length_map, decide_eq_true_eq, decide_eq_false_iff_not, Bool.not_eq_true', Bool.not_eq_false', Bool.and_eq_true, Bool.or_eq_true, Bool.and_eq_false_iff, Bool.or_eq_false_iff, beq_iff_eq, bne_iff_ne, beq_eq_false_iff_ne, bne_eq_false_iff_eq, Int.not_lt, Int.not_le, ge_iff_le, gt_iff_lt, not_or, not_and, Bool.cond_true_right, Bool.cond_true_left, Bool.cond_false_right, Bool.cond_false_left, bif_t, bif_f] at *; omega) | (refine ⟨?_, ?_⟩ <;> omega)) | (refine ⟨?_, ?_⟩ <;> omega) | (simp [*]; done) | grind)); (conv => whnf)))
      refine ⟨_, And.intro (enc_get hx) ?_⟩
      conv => whnf
      (repeat (refine And.intro ?_ ?_; ((first | (with_reducible assumption) | (intro _; with_reducible assumption) | omega | (simp only [reduceCtorEq, ints_len, bools_len, Bool.not_false, Bool.not_true, List.length_map, decide_eq_true_eq, decide_eq_false_iff_not, Bool.not_eq_true', Bool.not_eq_false', Bool.and_eq_true, Bool.or_eq_true, Bool.and_eq_false_iff, Bool.or_eq_false_iff, beq_iff_eq, bne_iff_ne, beq_eq_false_iff_ne, bne_eq_false_iff_eq, Int.not_lt, Int.not_le, ge_iff_le, gt_iff_lt, not_or, not_and, Bool.cond_true_right, Bool.cond_true_left, Bool.cond_false_right, Bool.cond_false_left, bif_t, bif_f] at *; omega) | (intro hg; (try simp only [reduceCtorEq, ints_len, bools_len, Bool.not_false, Bool.not_true, List.length_map, decide_eq_true_eq, decide_eq_false_iff_not, Bool.not_eq_true', Bool.not_eq_false', Bool.and_eq_true, Bool.or_eq_true, Bool.and_eq_false_iff, Bool.or_eq_false_iff, beq_iff_eq, bne_iff_ne, beq_eq_false_iff_ne, bne_eq_false_iff_eq, Int.not_lt, Int.not_le, ge_iff_le, gt_iff_lt, not_or, not_and, Bool.cond_true_right, Bool.cond_true_left, Bool.cond_false_right, Bool.cond_false_left, bif_t, bif_f] at hg); first | (with_reducible assumption) | omega | (simp only [reduceCtorEq, ints_len, bools_len, Bool.not_false, Bool.not_true, List.length_map, decide_eq_true_eq, decide_eq_false_iff_not, Bool.not_eq_true', Bool.not_eq_false', Bool.and_eq_true, Bool.or_eq_true, Bool.and_eq_false_iff, Bool.or_eq_false_iff, beq_iff_eq, bne_iff_ne, beq_eq_false_iff_ne, bne_eq_false_iff_eq, Int.not_lt, Int.not_le, ge_iff_le, gt_iff_lt, not_or, not_and, Bool.cond_true_right, Bool.cond_true_left, Bool.cond_false_right, Bool.cond_false_left, bif_t, bif_f] at *; omega) | (refine ⟨?_, ?_⟩ <;> omega)) | (refine ⟨?_, ?_⟩ <;> omega) | (simp [*]; done) | grind)); (conv => whnf)))
      refine ⟨_, And.intro (enc_get hx) ?_⟩
      conv => whnf
      ((with_reducible refine And.intro (fun (e : (_ : Bool) = true) => ?_) (fun (e : (_ : Bool) = false) => ?_)) <;> (try simp only [reduceCtorEq, ints_len, bools_len, Bool.not_false, Bool.not_true, List.length_map, decide_eq_true_eq, decide_eq_false_iff_not, Bool.not_eq_true', Bool.not_eq_false', Bool.and_eq_true, Bool.or_eq_true, Bool.and_eq_false_iff, Bool.or_eq_false_iff, beq_iff_eq, bne_iff_ne, beq_eq_false_iff_ne, bne_eq_false_iff_eq, Int.not_lt, Int.not_le, ge_iff_le, gt_iff_lt, not_or, not_and, Bool.cond_true_right, Bool.cond_true_left, Bool.cond_false_right, Bool.cond_false_left, bif_t, bif_f] at e) <;> (conv => whnf))
      · have hyes : P.any (fun p => decide (p.2 < p.1)) = true := by
          rw [List.any_eq_true]
          exact ⟨_, List.mem_of_getElem? hx, decide_eq_true (by assumption)⟩
        rw [hyes]
        (refine ⟨[], ?_⟩; (conv => whnf); refine ⟨[], .nil, .nil, ?_⟩; (conv => whnf))
      · have e1 := e
        (refine And.intro ?_ ?_; ((first | (with_reducible assumption) | (intro _; with_reducible assumption) | omega | (simp only [reduceCtorEq, ints_len, bools_len, Bool.not_false, Bool.not_true, List.length_map, decide_eq_true_eq, decide_eq_false_iff_not, Bool.not_eq_true', Bool.not_eq_false', Bool.and_eq_true, Bool.or_eq_true, Bool.and_eq_false_iff, Bool.or_eq_false_iff, beq_iff_eq, bne_iff_ne, beq_eq_false_iff_ne, bne_eq_false_iff_eq, Int.not_lt, Int.not_le, ge_iff_le, gt_iff_lt, not_or, not_and, Bool.cond_true_right, Bool.cond_true_left, Bool.cond_false_right, Bool.cond_false_left, bif_t, bif_f] at *; omega) | (intro hg; (try simp only [reduceCtorEq, ints_len, bools_len, Bool.not_false, Bool.not_true, List.length_map, decide_eq_true_eq, decide_eq_false_iff_not, Bool.not_eq_true', Bool.not_eq_false', Bool.and_eq_true, Bool.or_eq_true, Bool.and_eq_false_iff, Bool.or_eq_false_iff, beq_iff_eq, bne_iff_ne, beq_eq_false_iff_ne, bne_eq_false_iff_eq, Int.not_lt, Int.not_le, ge_iff_le, gt_iff_lt, not_or, not_and, Bool.cond_true_right, Bool.cond_true_left, Bool.cond_false_right, Bool.cond_false_left, bif_t, bif_f] at hg); first | (with_reducible assumption) | omega | (simp only [reduceCtorEq, ints_len, bools_len, Bool.not_false, Bool.not_true, List.length_map, decide_eq_true_eq, decide_eq_false_iff_not, Bool.not_eq_true', Bool.not_eq_false', Bool.and_eq_true, Bool.or_eq_true, Bool.and_eq_false_iff, Bool.or_eq_false_iff, beq_iff_eq, bne_iff_ne, beq_eq_false_iff_ne, bne_eq_false_iff_eq, Int.not_lt, Int.not_le, ge_iff_le, gt_iff_lt, not_or, not_and, Bool.cond_true_right, Bool.cond_true_left, Bool.cond_false_right, Bool.cond_false_left, bif_t, bif_f] at *; omega) | (refine ⟨?_, ?_⟩ <;> omega)) | (refine ⟨?_, ?_⟩ <;> omega) | (simp [*]; done) | grind)); (conv => whnf))
        refine ⟨P.length - (i + 1), by omega, [], ?_⟩
        conv => whnf
        refine ⟨i + 1, by omega, rfl, fun j hj p hp => ?_, rfl⟩
        by_cases ej : j = i
        · subst ej
          rw [hx] at hp
          cases hp
          simp only
          omega
        · exact hd j (by omega) p hp
    · have hi' : i = P.length := by omega
      have hno : P.any (fun p => decide (p.2 < p.1)) = false := by
        rw [List.any_eq_false]
        intro p hp
        obtain ⟨j, hj⟩ := List.mem_iff_getElem?.1 hp
        simp only [decide_eq_true_eq]
        exact hd j (by have := (List.getElem?_eq_some_iff.1 hj).1; omega) p hj
      rw [hno]
      (refine ⟨[], ?_⟩; (conv => whnf); refine ⟨[], .nil, .nil, ?_⟩; (conv => whnf))
end Go.Proofs.Ytahdihhhankhdaa.V
-- Vhi
namespace Go.Proofs.Ytahdihhhankhdaa.V
open Go.Proofs.YtahdihhhankhdaaVY Go.RowKit
def anyEarly (l : List Int) (L : List Ref) (x : Ref) (first : Bool) : Bool := L.any fun y => if first then early l x y else early l y x
def R119 : Ct := fun ss hp r out => ∃ (l : List Int) (L : List Ref) (x : Ref) (first : Bool), ss = [.one (.d (.sl 1 (l.map inC))), .one (.d (.sl 3 (L.map Ref.c))), .v (.ag (x.c.map .d)), .db first] ∧ hp = [] ∧ L.length < 4611686018427387904 ∧ refOk l x = true ∧ (∀ y ∈ L, refOk l y = true) ∧ r = .db (anyEarly l L x first) ∧ out = []
set_option maxHeartbeats 4000000 in
theorem ok119 : VSound Try.prog (119, R119) := by
  refine vsound (T := ty) (F := [(137, R137)]) (pl := [(4, [[], [0], [0, 1], [0, 1], [0, 1], [0, 1], [0, 1, 4, 5], [0, 1, 4, 5, 6], [0, 1, 2, 3, 4, 5, 6, 7], [0, 1, 2, 3, 4, 5, 6, 7, 8], [0, 1, 2, 3, 4, 5, 6, 7, 8, 9], [0, 1, 2, 3, 4, 5, 6, 7, 8, 9, 10], [0, 1, 2, 3, 4, 5, 6, 7, 8, 9, 10, 11], [0, 1, 2, 3, 4, 5, 6, 7, 8, 9, 10, 11, 12], [0, 1, 2, 3, 4, 5, 6, 7, 8, 9, 10, 11, 12, 13], [0, 1, 2, 3, 4, 5, 6, 7, 8, 9, 10, 11, 12, 13], [0, 1, 2, 3, 4, 5, 6, 7, 8, 9, 10, 11, 12, 13], [0, 1, 2, 3, 4, 5, 6, 7, 8, 9, 10, 11, 12, 13, 15, 16], [0, 1, 2, 3, 4, 5, 6, 7, 8, 9, 10, 11, 12, 13, 15, 16, 17], [0, 1, 2, 3, 4, 5, 6, 7, 8, 9, 10, 11, 12, 13], [0, 1, 2, 3, 4, 5, 6, 7, 8, 9, 10, 11, 12, 13, 14, 15, 16, 17, 18, 19], [0, 1, 2, 3, 4, 5, 6, 7, 8, 9, 10, 11, 12, 13, 14, 15, 16, 17, 18, 19, 20], [0, 1, 2, 3, 4, 5, 6, 7, 8, 9, 10, 11, 12, 13, 14, 15, 16, 17, 18, 19, 20, 21]], .look 0 (.look 1 (.look 2 (.look 3 (.look 4 (.look 5 (.look 6 (.look 7 (.act 8 [] (.look 9 (.look 10 (.look 11 (.look 12 (.look 13 (.look 14 (.look 15 (.look 16 (.look 17 (.look 18 (.look 19 (.act 20 [] (.look 21 (.look 22 .done)) .stop)))))))))))) .stop)))))))))]) (nw := true) (cuts := []) mix tyOk (.cons (ok137) .nil) Try.func119 (by kernel_rfl) (by kernel_rfl) ?_
  rintro _ _ _ _ ⟨l, L, ⟨xa, xb, xs⟩, first, rfl, rfl, hL, hx, hy, rfl, rfl⟩
  conv => whnf
  refine ⟨[], [0, 1, 3, 6, 9], 1, fun n1 σ => ∃ i : Nat, i ≤ L.length ∧ n1 = L.length - i ∧ anyEarly l L ⟨xa, xb, xs⟩ first = anyEarly l (L.drop i) ⟨xa, xb, xs⟩ first ∧ σ = (⟨[.one (.d (.sl 1 (l.map inC))), .one (.d (.sl 3 (L.map Ref.c))), .junk, .db first, .junk, .junk, .one (.ptr 0 0), .junk, .junk, .di .i64 i, .junk, .junk, .junk, .junk, .junk, .junk, .junk, .junk, .junk, .junk, .junk, .junk, .junk, .junk, .junk, .junk, .junk, .junk, .junk, .junk, .junk, .junk, .junk, .junk, .junk, .junk, .junk, .junk, .junk], [.box ((Ref.mk xa xb xs).c.map .d)]⟩ : St), ?_, ?_⟩
  · refine ⟨L.length, ?_⟩
    conv => whnf
    exact ⟨0, by omega, by omega, rfl, rfl⟩
  · rintro n1 _ ⟨i, hi, rfl, hd, rfl⟩
    rw [hd]
    conv => whnf
    rw [map_len]
    ((with_reducible refine And.intro (fun (e : (_ : Bool) = true) => ?_) (fun (e : (_ : Bool) = false) => ?_)) <;> (try simp only [reduceCtorEq, ints_len, bools_len, Bool.not_false, Bool.not_true, List.length_map, decide_eq_true_eq, decide_eq_false_iff_not, Bool.not_eq_true', Bool.not_eq_false', Bool.and_eq_true, Bool.or_eq_true, Bool.and_eq_false_iff, Bool.or_eq_false_iff, beq_iff_eq, bne_iff_ne, beq_eq_false_iff_ne, bne_eq_false_iff_eq, Int.not_lt, Int.not_le, ge_iff_le, gt_iff_lt, not_or, not_and, Bool.cond_true_right, Bool.cond_true_left, Bool.cond_false_right, Bool.cond_false_left, bif_t, bif_f] at e) <;> (conv => whnf))
    · obtain ⟨y, hyi⟩ := get_lt (l := L) (i := i) (by omega)
      have hyo := hy y (List.mem_of_getElem? hyi)
      have hdr : L.drop i = y :: L.drop (i + 1) := by
        obtain ⟨h1, h2⟩ := List.getElem?_eq_some_iff.1 hyi
        rw [List.drop_eq_getElem_cons h1, h2]
      have hcons : anyEarly l (L.drop i) ⟨xa, xb, xs⟩ first = ((if first then early l ⟨xa, xb, xs⟩ y else early l y ⟨xa, xb, xs⟩) || anyEarly l (L.drop (i + 1)) ⟨xa, xb, xs⟩ first) := by
        rw [hdr]; rfl
      rw [hcons]
      obtain ⟨ya, yb, ys⟩ := y
      cases first with
      | true =>
        (repeat (refine And.intro ?_ ?_; ((first | (with_reducible assumption) | (intro _; with_reducible assumption) | omega | (simp only [reduceCtorEq, ints_len, bools_len, Bool.not_false, Bool.not_true, List.length_map, decide_eq_true_eq, decide_eq_false_iff_not, Bool.not_eq_true', Bool.not_eq_false', Bool.and_eq_true, Bool.or_eq_true, Bool.and_eq_false_iff, Bool.or_eq_false_iff, beq_iff_eq, bne_iff_ne, beq_eq_false_iff_ne, bne_eq_false_iff_eq, Int.not_lt, Int.not_le, ge_iff_le, gt_iff_lt, not_or, not_and, Bool.cond_true_right, Bool.cond_true_left, Bool.cond_false_right, Bool.cond_false_left, bif_t, bif_f] at *; omega) | (intro hg; (try simp only [reduceCtorEq, ints_len, bools_len, Bool.not_false, Bool.not_true, List.length_map, decide_eq_true_eq, decide_eq_false_iff_not, Bool.not_eq_true', Bool.not_eq_false', Bool.and_eq_true, Bool.or_eq_true, Bool.and_eq_false_iff, Bool.or_eq_false_iff, beq_iff_eq, bne_iff_ne, beq_eq_false_iff_ne, bne_eq_false_iff_eq, Int.not_lt, Int.not_le, ge_iff_le, gt_iff_lt, not_or, not_and, Bool.cond_true_right, Bool.cond_true_left, Bool.cond_false_right, Bool.cond_false_left, bif_t, bif_f] at hg); first | (with_reducible assumption) | omega | (simp only [reduceCtorEq, ints_len, bools_len, Bool.not_false, Bool.not_true, List.length_map, decide_eq_true_eq, decide_eq_false_iff_not, Bool.not_eq_true', Bool.not_eq_false', Bool.and_eq_true, Bool.or_eq_true, Bool.and_eq_false_iff, Bool.or_eq_false_iff, beq_iff_eq, bne_iff_ne, beq_eq_false_iff_ne, bne_eq_false_iff_eq, Int.not_lt, Int.not_le, ge_iff_le, gt_iff_lt, not_or, not_and, Bool.cond_true_right, Bool.cond_true_left, Bool.cond_false_right, Bool.cond_false_left, bif_t, bif_f] at *; omega) | (refine ⟨?_, ?_⟩ <;> omega)) | (refine ⟨?_, ?_⟩ <;> omega) | (simp [*]; done) | grind)); (conv => whnf)))
        (refine ⟨_, And.intro (fun _ => ⟨by omega, enc_get hyi⟩) ?_⟩; (conv => whnf))
        (repeat (refine And.intro ?_ ?_; ((first | (with_reducible assumption) | (intro _; with_reducible assumption) | omega | (simp only [reduceCtorEq, ints_len, bools_len, Bool.not_false, Bool.not_true, List.length_map, decide_eq_true_eq, decide_eq_false_iff_not, Bool.not_eq_true', Bool.not_eq_false', Bool.and_eq_true, Bool.or_eq_true, Bool.and_eq_false_iff, Bool.or_eq_false_iff, beq_iff_eq, bne_iff_ne, beq_eq_false_iff_ne, bne_eq_false_iff_eq, Int.not_lt, Int.not_le, ge_iff_le, gt_iff_lt, not_or, not_and, Bool.cond_true_right, Bool.cond_true_left, Bool.cond_false_right, Bool.cond_false_left, bif_t, bif_f] at *; omega) | (intro hg; (try simp only [reduceCtorEq, ints_len, bools_len, Bool.not_false, Bool.not_true, List.length_map, decide_eq_true_eq, decide_eq_false_iff_not, Bool.not_eq_true', Bool.not_eq_false', Bool.and_eq_true, Bool.or_eq_true, Bool.and_eq_false_iff, Bool.or_eq_false_iff, beq_iff_eq, bne_iff_ne, beq_eq_false_iff_ne, bne_eq_false_iff_eq, Int.not_lt, Int.not_le, ge_iff_le, gt_iff_lt, not_or, not_and, Bool.cond_true_right, Bool.cond_true_left, Bool.cond_false_right, Bool.cond_false_left, bif_t, bif_f] at hg); first | (with_reducible assumption) | omega | (simp only [reduceCtorEq, ints_len, bools_len, Bool.not_false, Bool.not_true, List.length_map, decide_eq_true_eq, decide_eq_false_iff_not, Bool.not_eq_true', Bool.not_eq_false', Bool.and_eq_true, Bool.or_eq_true, Bool.and_eq_false_iff, Bool.or_eq_false_iff, beq_iff_eq, bne_iff_ne, beq_eq_false_iff_ne, bne_eq_false_iff_eq, Int.not_lt, Int.not_le, ge_iff_le, gt_iff_lt, not_or, not_and, Bool.cond_true_right, Bool.cond_true_left, Bool.cond_false_right, Bool.cond_false_left, bif_t, bif_f] at *; omega) | (refine ⟨?_, ?_⟩ <;> omega)) | (refine ⟨?_, ?_⟩ <;> omega) | (simp [*]; done) | grind)); (conv => whnf)))
        refine ⟨fun _ => ?_, fun h => absurd h (by decide)⟩
        conv => whnf
        (repeat (refine And.intro ?_ ?_; ((first | (with_reducible assumption) | (intro _; with_reducible assumption) | omega | (simp only [reduceCtorEq, ints_len, bools_len, Bool.not_false, Bool.not_true, List.length_map, decide_eq_true_eq, decide_eq_false_iff_not, Bool.not_eq_true', Bool.not_eq_false', Bool.and_eq_true, Bool.or_eq_true, Bool.and_eq_false_iff, Bool.or_eq_false_iff, beq_iff_eq, bne_iff_ne, beq_eq_false_iff_ne, bne_eq_false_iff_eq, Int.not_lt, Int.not_le, ge_iff_le, gt_iff_lt, not_or, not_and, Bool.cond_true_right, Bool.cond_true_left, Bool.cond_false_right, Bool.cond_false_left, bif_t, bif_f] at *; omega) | (intro hg; (try simp only [reduceCtorEq, ints_len, bools_len, Bool.not_false, Bool.not_true, List.length_map, decide_eq_true_eq, decide_eq_false_iff_not, Bool.not_eq_true', Bool.not_eq_false', Bool.and_eq_true, Bool.or_eq_true, Bool.and_eq_false_iff, Bool.or_eq_false_iff, beq_iff_eq, bne_iff_ne, beq_eq_false_iff_ne, bne_eq_false_iff_eq, Int.not_lt, Int.not_le, ge_iff_le, gt_iff_lt, not_or, not_and, Bool.cond_true_right, Bool.cond_true_left, Bool.cond_false_right, Bool.cond_false_left, bif_t, bif_f] at hg); first | (with_reducible assumption) | omega | (simp only [reduceCtorEq, ints_len, bools_len, Bool.not_false, Bool.not_true, List.length_map, decide_eq_true_eq, decide_eq_false_iff_not, Bool.not_eq_true', Bool.not_eq_false', Bool.and_eq_true, Bool.or_eq_true, Bool.and_eq_false_iff, Bool.or_eq_false_iff, beq_iff_eq, bne_iff_ne, beq_eq_false_iff_ne, bne_eq_false_iff_eq, Int.not_lt, Int.not_le, ge_iff_le, gt_iff_lt, not_or, not_and, Bool.cond_true_right, Bool.cond_true_left, Bool.cond_false_right, Bool.cond_false_left, bif_t, bif_f] at *; omega) | (refine ⟨?_, ?_⟩ <;> omega)) | (refine ⟨?_, ?_⟩ <;> omega) | (simp [*]; done) | grind)); (conv => whnf)))
        (refine ⟨[], false, false, ?_⟩; (conv => whnf); refine ⟨_, _, ⟨l, ⟨xa, xb, xs⟩, ⟨ya, yb, ys⟩, rfl, rfl, hx, hyo, rfl, rfl⟩, ?_⟩; (conv => whnf))
        (repeat (refine And.intro ?_ ?_; ((first | (with_reducible assumption) | (intro _; with_reducible assumption) | omega | (simp only [reduceCtorEq, ints_len, bools_len, Bool.not_false, Bool.not_true, List.length_map, decide_eq_true_eq, decide_eq_false_iff_not, Bool.not_eq_true', Bool.not_eq_false', Bool.and_eq_true, Bool.or_eq_true, Bool.and_eq_false_iff, Bool.or_eq_false_iff, beq_iff_eq, bne_iff_ne, beq_eq_false_iff_ne, bne_eq_false_iff_eq, Int.not_lt, Int.not_le, ge_iff_le, gt_iff_lt, not_or, not_and, Bool.cond_true_right, Bool.cond_true_left, Bool.cond_false_right, Bool.cond_false_left, bif_t, bif_f] at *; omega) | (intro hg; (try simp only [reduceCtorEq, ints_len, bools_len, Bool.not_false, Bool.not_true, List.length_map, decide_eq_true_eq, decide_eq_false_iff_not, Bool.not_eq_true', Bool.not_eq_false', Bool.and_eq_true, Bool.or_eq_true, Bool.and_eq_false_iff, Bool.or_eq_false_iff, beq_iff_eq, bne_iff_ne, beq_eq_false_iff_ne, bne_eq_false_iff_eq, Int.not_lt, Int.not_le, ge_iff_le, gt_iff_lt, not_or, not_and, Bool.cond_true_right, Bool.cond_true_left, Bool.cond_false_right, Bool.cond_false_left, bif_t, bif_f] at hg); first | (with_reducible assumption) | omega | (simp only [reduceCtorEq, ints_len, bools_len, Bool.not_false, Bool.not_true, List.length_map, decide_eq_true_eq, decide_eq_false_iff_not, Bool.not_eq_true', Bool.not_eq_false', Bool.and_eq_true, Bool.or_eq_true, Bool.and_eq_false_iff, Bool.or_eq_false_iff, beq_iff_eq, bne_iff_ne, beq_eq_false_iff_ne, bne_eq_false_iff_eq, Int.not_lt, Int.not_le, ge_iff_le, gt_iff_lt, not_or, not_and, Bool.cond_true_right, Bool.cond_true_left, Bool.cond_false_right, Bool.cond_false_left, bif_t, bif_f] at *; omega) | (refine ⟨?_, ?_⟩ <;> omega)) | (refine ⟨?_, ?_⟩ <;> omega) | (simp [*]; done) | grind)); (conv => whnf)))
        (refine ⟨_, And.intro (fun _ => ⟨by omega, enc_get hyi⟩) ?_⟩; (conv => whnf))
        (repeat (refine And.intro ?_ ?_; ((first | (with_reducible assumption) | (intro _; with_reducible assumption) | omega | (simp only [reduceCtorEq, ints_len, bools_len, Bool.not_false, Bool.not_true, List.length_map, decide_eq_true_eq, decide_eq_false_iff_not, Bool.not_eq_true', Bool.not_eq_false', Bool.and_eq_true, Bool.or_eq_true, Bool.and_eq_false_iff, Bool.or_eq_false_iff, beq_iff_eq, bne_iff_ne, beq_eq_false_iff_ne, bne_eq_false_iff_eq, Int.not_lt, Int.not_le, ge_iff_le, gt_iff_lt, not_or, not_and, Bool.cond_true_right, Bool.cond_true_left, Bool.cond_false_right, Bool.cond_false_left, bif_t, bif_f] at *; omega) | (intro hg; (try simp only [reduceCtorEq, ints_len, bools_len, Bool.not_false, Bool.not_true, List.length_map, decide_eq_true_eq, decide_eq_false_iff_not, Bool.not_eq_true', Bool.not_eq_false', Bool.and_eq_true, Bool.or_eq_true, Bool.and_eq_false_iff, Bool.or_eq_false_iff, beq_iff_eq, bne_iff_ne, beq_eq_false_iff_ne, bne_eq_false_iff_eq, Int.not_lt, Int.not_le, ge_iff_le, gt_iff_lt, not_or, not_and, Bool.cond_true_right, Bool.cond_true_left, Bool.cond_false_right, Bool.cond_false_left, bif_t, bif_f] at hg); first | (with_reducible assumption) | omega | (simp only [reduceCtorEq, ints_len, bools_len, Bool.not_false, Bool.not_true, List.length_map, decide_eq_true_eq, decide_eq_false_iff_not, Bool.not_eq_true', Bool.not_eq_false', Bool.and_eq_true, Bool.or_eq_true, Bool.and_eq_false_iff, Bool.or_eq_false_iff, beq_iff_eq, bne_iff_ne, beq_eq_false_iff_ne, bne_eq_false_iff_eq, Int.not_lt, Int.not_le, ge_iff_le, gt_iff_lt, not_or, not_and, Bool.cond_true_right, Bool.cond_true_left, Bool.cond_false_right, Bool.cond_false_left, bif_t, bif_f] at *; omega) | (refine ⟨?_, ?_⟩ <;> omega)) | (refine ⟨?_, ?_⟩ <;> omega) | (simp [*]; done) | grind)); (conv => whnf)))
        first | (refine ⟨fun h => absurd h (by simp), fun _ => ?_⟩) | intro _
        conv => whnf
        (repeat (refine And.intro ?_ ?_; ((first | (with_reducible assumption) | (intro _; with_reducible assumption) | omega | (simp only [reduceCtorEq, ints_len, bools_len, Bool.not_false, Bool.not_true, List.length_map, decide_eq_true_eq, decide_eq_false_iff_not, Bool.not_eq_true', Bool.not_eq_false', Bool.and_eq_true, Bool.or_eq_true, Bool.and_eq_false_iff, Bool.or_eq_false_iff, beq_iff_eq, bne_iff_ne, beq_eq_false_iff_ne, bne_eq_false_iff_eq, Int.not_lt, Int.not_le, ge_iff_le, gt_iff_lt, not_or, not_and, Bool.cond_true_right, Bool.cond_true_left, Bool.cond_false_right, Bool.cond_false_left, bif_t, bif_f] at *; omega) | (intro hg; (try simp only [reduceCtorEq, ints_len, bools_len, Bool.not_false, Bool.not_true, List.length_map, decide_eq_true_eq, decide_eq_false_iff_not, Bool.not_eq_true', Bool.not_eq_false', Bool.and_eq_true, Bool.or_eq_true, Bool.and_eq_false_iff, Bool.or_eq_false_iff, beq_iff_eq, bne_iff_ne, beq_eq_false_iff_ne, bne_eq_false_iff_eq, Int.not_lt, Int.not_le, ge_iff_le, gt_iff_lt, not_or, not_and, Bool.cond_true_right, Bool.cond_true_left, Bool.cond_false_right, Bool.cond_false_left, bif_t, bif_f] at hg); first | (with_reducible assumption) | omega | (simp only [reduceCtorEq, ints_len, bools_len, Bool.not_false, Bool.not_true, List.length_map, decide_eq_true_eq, decide_eq_false_iff_not, Bool.not_eq_true', Bool.not_eq_false', Bool.and_eq_true, Bool.or_eq_true, Bool.and_eq_false_iff, Bool.or_eq_false_iff, beq_iff_eq, bne_iff_ne, beq_eq_false_iff_ne, bne_eq_false_iff_eq, Int.not_lt, Int.not_le, ge_iff_le, gt_iff_lt, not_or, not_and, Bool.cond_true_right, Bool.cond_true_left, Bool.cond_false_right, Bool.cond_false_left, bif_t, bif_f] at *; omega) | (refine ⟨?_, ?_⟩ <;> omega)) | (refine ⟨?_, ?_⟩ <;> omega) | (simp [*]; done) | grind)); (conv => whnf)))
        generalize early l ⟨xa, xb, xs⟩ ⟨ya, yb, ys⟩ = E at *
        cases E with
        | true =>
          conv => whnf
          refine ⟨fun _ => ?_, fun h => absurd h (by decide)⟩
          conv => whnf
          (refine ⟨[], ?_⟩; (conv => whnf); refine ⟨[], .nil, .nil, ?_⟩; (conv => whnf))
          rfl
        | false =>
          conv => whnf
          refine ⟨fun h => absurd h (by decide), fun _ => ?_⟩
          conv => whnf
          (refine And.intro ?_ ?_; ((first | (with_reducible assumption) | (intro _; with_reducible assumption) | omega | (simp only [reduceCtorEq, ints_len, bools_len, Bool.not_false, Bool.not_true, List.length_map, decide_eq_true_eq, decide_eq_false_iff_not, Bool.not_eq_true', Bool.not_eq_false', Bool.and_eq_true, Bool.or_eq_true, Bool.and_eq_false_iff, Bool.or_eq_false_iff, beq_iff_eq, bne_iff_ne, beq_eq_false_iff_ne, bne_eq_false_iff_eq, Int.not_lt, Int.not_le, ge_iff_le, gt_iff_lt, not_or, not_and, Bool.cond_true_right, Bool.cond_true_left, Bool.cond_false_right, Bool.cond_false_left, bif_t, bif_f] at *; omega) | (intro hg; (try simp only [reduceCtorEq, ints_len, bools_len, Bool.not_false, Bool.not_true, List.length_map, decide_eq_true_eq, decide_eq_false_iff_not, Bool.not_eq_true', Bool.not_eq_false', Bool.and_eq_true, Bool.or_eq_true, Bool.and_eq_false_iff, Bool.or_eq_false_iff, beq_iff_eq, bne_iff_ne, beq_eq_false_iff_ne, bne_eq_false_iff_eq, Int.not_lt, Int.not_le, ge_iff_le, gt_iff_lt, not_or, not_and, Bool.cond_true_right, Bool.cond_true_left, Bool.cond_false_right, Bool.cond_false_left, bif_t, bif_f] at hg); first | (with_reducible assumption) | omega | (simp only [reduceCtorEq, ints_len, bools_len, Bool.not_false, Bool.not_true, List.length_map, decide_eq_true_eq, decide_eq_false_iff_not, Bool.not_eq_true', Bool.not_eq_false', Bool.and_eq_true, Bool.or_eq_true, Bool.and_eq_false_iff, Bool.or_eq_false_iff, beq_iff_eq, bne_iff_ne, beq_eq_false_iff_ne, bne_eq_false_iff_eq, Int.not_lt, Int.not_le, ge_iff_le, gt_iff_lt, not_or, not_and, Bool.cond_true_right, Bool.cond_true_left, Bool.cond_false_right, Bool.cond_false_left, bif_t, bif_f] at *; omega) | (refine ⟨?_, ?_⟩ <;> omega)) | (refine ⟨?_, ?_⟩ <;> omega) | (simp [*]; done) | grind)); (conv => whnf))
          refine ⟨L.length - (i + 1), by omega, [], ?_⟩
          conv => whnf
          exact ⟨i + 1, by omega, rfl, rfl, rfl⟩
      | false =>
        (repeat (refine And.intro ?_ ?_; ((first | (with_reducible assumption) | (intro _; with_reducible assumption) | omega | (simp only [reduceCtorEq, ints_len, bools_len, Bool.not_false, Bool.not_true, List.length_map, decide_eq_true_eq, decide_eq_false_iff_not, Bool.not_eq_true', Bool.not_eq_false', Bool.and_eq_true, Bool.or_eq_true, Bool.and_eq_false_iff, Bool.or_eq_false_iff, beq_iff_eq, bne_iff_ne, beq_eq_false_iff_ne, bne_eq_false_iff_eq, Int.not_lt, Int.not_le, ge_iff_le, gt_iff_lt, not_or, not_and, Bool.cond_true_right, Bool.cond_true_left, Bool.cond_false_right, Bool.cond_false_left, bif_t, bif_f] at *; omega) | (intro hg; (try simp only [reduceCtorEq, ints_len, bools_len, Bool.not_false, Bool.not_true, List.length_map, decide_eq_true_eq, decide_eq_false_iff_not, Bool.not_eq_true', Bool.not_eq_false', Bool.and_eq_true, Bool.or_eq_true, Bool.and_eq_false_iff, Bool.or_eq_false_iff, beq_iff_eq, bne_iff_ne, beq_eq_false_iff_ne, bne_eq_false_iff_eq, Int.not_lt, Int.not_le, ge_iff_le, gt_iff_lt, not_or, not_and, Bool.cond_true_right, Bool.cond_true_left, Bool.cond_false_right, Bool.cond_false_left, bif_t, bif_f] at hg); first | (with_reducible assumption) | omega | (simp only [reduceCtorEq, ints_len, bools_len, Bool.not_false, Bool.not_true, List.length_map, decide_eq_true_eq, decide_eq_false_iff_not, Bool.not_eq_true', Bool.not_eq_false', Bool.and_eq_true, Bool.or_eq_true, Bool.and_eq_false_iff, Bool.or_eq_false_iff, beq_iff_eq, bne_iff_ne, beq_eq_false_iff_ne, bne_eq_false_iff_eq, Int.not_lt, Int.not_le, ge_iff_le, gt_iff_lt, not_or, not_and, Bool.cond_true_right, Bool.cond_true_left, Bool.cond_false_right, Bool.cond_false_left, bif_t, bif_f] at *; omega) | (refine ⟨?_, ?_⟩ <;> omega)) | (refine ⟨?_, ?_⟩ <;> omega) | (simp [*]; done) | grind)); (conv => whnf)))
        (refine ⟨_, And.intro (fun _ => ⟨by omega, enc_get hyi⟩) ?_⟩; (conv => whnf))
        (repeat (refine And.intro ?_ ?_; ((first | (with_reducible assumption) | (intro _; with_reducible assumption) | omega | (simp only [reduceCtorEq, ints_len, bools_len, Bool.not_false, Bool.not_true, List.length_map, decide_eq_true_eq, decide_eq_false_iff_not, Bool.not_eq_true', Bool.not_eq_false', Bool.and_eq_true, Bool.or_eq_true, Bool.and_eq_false_iff, Bool.or_eq_false_iff, beq_iff_eq, bne_iff_ne, beq_eq_false_iff_ne, bne_eq_false_iff_eq, Int.not_lt, Int.not_le, ge_iff_le, gt_iff_lt, not_or, not_and, Bool.cond_true_right, Bool.cond_true_left, Bool.cond_false_right, Bool.cond_false_left, bif_t, bif_f] at *; omega) | (intro hg; (try simp only [reduceCtorEq, ints_len, bools_len, Bool.not_false, Bool.not_true, List.length_map, decide_eq_true_eq, decide_eq_false_iff_not, Bool.not_eq_true', Bool.not_eq_false', Bool.and_eq_true, Bool.or_eq_true, Bool.and_eq_false_iff, Bool.or_eq_false_iff, beq_iff_eq, bne_iff_ne, beq_eq_false_iff_ne, bne_eq_false_iff_eq, Int.not_lt, Int.not_le, ge_iff_le, gt_iff_lt, not_or, not_and, Bool.cond_true_right, Bool.cond_true_left, Bool.cond_false_right, Bool.cond_false_left, bif_t, bif_f] at hg); first | (with_reducible assumption) | omega | (simp only [reduceCtorEq, ints_len, bools_len, Bool.not_false, Bool.not_true, List.length_map, decide_eq_true_eq, decide_eq_false_iff_not, Bool.not_eq_true', Bool.not_eq_false', Bool.and_eq_true, Bool.or_eq_true, Bool.and_eq_false_iff, Bool.or_eq_false_iff, beq_iff_eq, bne_iff_ne, beq_eq_false_iff_ne, bne_eq_false_iff_eq, Int.not_lt, Int.not_le, ge_iff_le, gt_iff_lt, not_or, not_and, Bool.cond_true_right, Bool.cond_true_left, Bool.cond_false_right, Bool.cond_false_left, bif_t, bif_f] at *; omega) | (refine ⟨?_, ?_⟩ <;> omega)) | (refine ⟨?_, ?_⟩ <;> omega) | (simp [*]; done) | grind)); (conv => whnf)))
        intro _
        conv => whnf
        repeat ((first | refine And.intro (fun h => h) ?_ | refine And.intro (fun _ => rfl) ?_ | refine And.intro rfl ?_); conv => whnf)
        (refine ⟨_, And.intro (fun _ => ⟨by omega, enc_get hyi⟩) ?_⟩; (conv => whnf))
        repeat ((first | refine And.intro (fun h => h) ?_ | refine And.intro (fun _ => rfl) ?_ | refine And.intro rfl ?_); conv => whnf)
        refine ⟨fun _ => ?_, fun h => absurd h (by simp)⟩
        conv => whnf
        repeat ((first | refine And.intro (fun h => h) ?_ | refine And.intro (fun _ => rfl) ?_ | refine And.intro rfl ?_); conv => whnf)
        (refine ⟨[], false, false, ?_⟩; (conv => whnf); refine ⟨_, _, ⟨l, ⟨ya, yb, ys⟩, ⟨xa, xb, xs⟩, rfl, rfl, hyo, hx, rfl, rfl⟩, ?_⟩; (conv => whnf))
        repeat ((first | refine And.intro (fun h => h) ?_ | refine And.intro (fun _ => rfl) ?_ | refine And.intro rfl ?_); conv => whnf)
        generalize early l ⟨ya, yb, ys⟩ ⟨xa, xb, xs⟩ = E at *
        cases E with
        | true =>
          conv => whnf
          refine ⟨fun _ => ?_, fun h => absurd h (by decide)⟩
          conv => whnf
          (refine ⟨[], ?_⟩; (conv => whnf); refine ⟨[], .nil, .nil, ?_⟩; (conv => whnf))
          rfl
        | false =>
          conv => whnf
          refine ⟨fun h => absurd h (by decide), fun _ => ?_⟩
          conv => whnf
          (refine And.intro ?_ ?_; ((first | (with_reducible assumption) | (intro _; with_reducible assumption) | omega | (simp only [reduceCtorEq, ints_len, bools_len, Bool.not_false, Bool.not_true, List.length_map, decide_eq_true_eq, decide_eq_false_iff_not, Bool.not_eq_true', Bool.not_eq_false', Bool.and_eq_true, Bool.or_eq_true, Bool.and_eq_false_iff, Bool.or_eq_false_iff, beq_iff_eq, bne_iff_ne, beq_eq_false_iff_ne, bne_eq_false_iff_eq, Int.not_lt, Int.not_le, ge_iff_le, gt_iff_lt, not_or, not_and, Bool.cond_true_right, Bool.cond_true_left, Bool.cond_false_right, Bool.cond_false_left, bif_t, bif_f] at *; omega) | (intro hg; (try simp only [reduceCtorEq, ints_len, bools_len, Bool.not_false, Bool.not_true, List.length_map, decide_eq_true_eq, decide_eq_false_iff_not, Bool.not_eq_true', Bool.not_eq_false', Bool.and_eq_true, Bool.or_eq_true, Bool.and_eq_false_iff, Bool.or_eq_false_iff, beq_iff_eq, bne_iff_ne, beq_eq_false_iff_ne, bne_eq_false_iff_eq, Int.not_lt, Int.not_le, ge_iff_le, gt_iff_lt, not_or, not_and, Bool.cond_true_right, Bool.cond_true_left, Bool.cond_false_right, Bool.cond_false_left, bif_t, bif_f] at hg); first | (with_reducible assumption) | omega | (simp only [reduceCtorEq, ints_len, bools_len, Bool.not_false, Bool.not_true, List.length_map, decide_eq_true_eq, decide_eq_false_iff_not, Bool.not_eq_true', Bool.not_eq_false', Bool.and_eq_true, Bool.or_eq_true, Bool.and_eq_false_iff, Bool.or_eq_false_iff, beq_iff_eq, bne_iff_ne, beq_eq_false_iff_ne, bne_eq_false_iff_eq, Int.not_lt, Int.not_le, ge_iff_le, gt_iff_lt, not_or, not_and, Bool.cond_true_right, Bool.cond_true_left, Bool.cond_false_right, Bool.cond_false_left, bif_t, bif_f] at *; omega) | (refine ⟨?_, ?_⟩ <;> omega)) | (refine ⟨?_, ?_⟩ <;> omega) | (simp [*]; done) | grind)); (conv => whnf))
          refine ⟨L.length - (i + 1), by omega, [], ?_⟩
          conv => whnf
          exact ⟨i + 1, by omega, rfl, rfl, rfl⟩
    · have hi' : i = L.length := by omega
      rw [hi', List.drop_length]
      (refine ⟨[], ?_⟩; (conv => whnf); refine ⟨[], .nil, .nil, ?_⟩; (conv => whnf))
      rfl
def flowB : ByteArray := ⟨#[102, 108, 111, 119]⟩
def antiB : ByteArray := ⟨#[97, 110, 116, 105]⟩
def outputB : ByteArray := ⟨#[111, 117, 116, 112, 117, 116]⟩
def emptyB : ByteArray := ⟨#[]⟩
def hinder (l : List Int) (s t : ASet) : ByteArray :=
  if anyEarly l t.loads s.to true = true then flowB else if anyEarly l s.loads t.to false = true then antiB else if early l s.to t.to = true then outputB else emptyB
def R112 : Ct := fun ss hp r out => ∃ (l : List Int) (s t : ASet), ss = [.one (.d (.sl 1 (l.map inC))), .v (.ag (s.c.map .d)), .v (.ag (t.c.map .d))] ∧ hp = [] ∧ s.bulk ≤ 4194304 ∧ t.bulk ≤ 4194304 ∧ s.loads.length ≤ 4194304 ∧ t.loads.length ≤ 4194304 ∧ refOk l s.to = true ∧ refOk l t.to = true ∧ (∀ y ∈ s.loads, refOk l y = true) ∧ (∀ y ∈ t.loads, refOk l y = true) ∧ r = .one (.d (.str (hinder l s t))) ∧ out = []
set_option maxHeartbeats 4000000 in
theorem ok112 : VSound Try.prog (112, R112) := by
  refine vsound (T := ty) (F := [(99, R99), (119, R119), (137, R137)]) (pl := [(1, [[], [], [1], [], [3], [0, 1, 2, 3, 4], [0, 1, 2, 3, 4, 5]], .look 0 (.look 1 (.look 3 (.look 4 (.act 2 [0, 3, 4] (.act 5 [] (.look 6 .done) .stop) .stop))))), (3, [[], [], [1], [], [3], [0, 1, 2, 3, 4], [0, 1, 2, 3, 4, 5]], .look 0 (.look 1 (.look 3 (.look 4 (.act 2 [0, 3, 4] (.act 5 [] (.look 6 .done) .stop) .stop)))))]) (nw := true) (cuts := []) mix tyOk (.cons (ok99) (.cons (ok119) (.cons (ok137) .nil))) Try.func112 (by kernel_rfl) (by kernel_rfl) ?_
  rintro _ _ _ _ ⟨l, ⟨⟨sa, sb, ss⟩, smask, ⟨sop, skind, sn, sref, skids⟩⟩, ⟨⟨ta, tb, ts⟩, tmask, ⟨top, tkind, tn, tref, tkids⟩⟩, rfl, rfl, hs, ht, hsl, htl, hso, hto, hsa, hta, rfl, rfl⟩
  generalize hS : (ASet.mk ⟨sa, sb, ss⟩ smask ⟨sop, skind, sn, sref, skids⟩).loads = SL at *
  generalize hT : (ASet.mk ⟨ta, tb, ts⟩ tmask ⟨top, tkind, tn, tref, tkids⟩).loads = TL at *
  conv => whnf
  (refine ⟨[], false, false, ?_⟩; (conv => whnf); refine ⟨_, _, ⟨⟨⟨ta, tb, ts⟩, tmask, ⟨top, tkind, tn, tref, tkids⟩⟩, rfl, rfl, ht, rfl, rfl⟩, ?_⟩; (conv => whnf))
  rw [hT]
  (refine ⟨[], false, false, ?_⟩; (conv => whnf); refine ⟨_, _, ⟨l, TL, ⟨sa, sb, ss⟩, true, rfl, rfl, by omega, hso, hta, rfl, rfl⟩, ?_⟩; (conv => whnf))
  ((with_reducible refine And.intro (fun (e : (_ : Bool) = true) => ?_) (fun (e : (_ : Bool) = false) => ?_)) <;> (try simp only [reduceCtorEq, ints_len, bools_len, Bool.not_false, Bool.not_true, List.length_map, decide_eq_true_eq, decide_eq_false_iff_not, Bool.not_eq_true', Bool.not_eq_false', Bool.and_eq_true, Bool.or_eq_true, Bool.and_eq_false_iff, Bool.or_eq_false_iff, beq_iff_eq, bne_iff_ne, beq_eq_false_iff_ne, bne_eq_false_iff_eq, Int.not_lt, Int.not_le, ge_iff_le, gt_iff_lt, not_or, not_and, Bool.cond_true_right, Bool.cond_true_left, Bool.cond_false_right, Bool.cond_false_left, bif_t, bif_f] at e) <;> (conv => whnf))
  · have e1 := e
    have hh : hinder l ⟨⟨sa, sb, ss⟩, smask, ⟨sop, skind, sn, sref, skids⟩⟩ ⟨⟨ta, tb, ts⟩, tmask, ⟨top, tkind, tn, tref, tkids⟩⟩ = flowB := by
      unfold hinder; rw [hT, if_pos e1]
    rw [hh]
    (refine ⟨[], ?_⟩; (conv => whnf); refine ⟨[], .nil, .nil, ?_⟩; (conv => whnf))
    rfl
  · have e1 := e
    (refine ⟨[], false, false, ?_⟩; (conv => whnf); refine ⟨_, _, ⟨⟨⟨sa, sb, ss⟩, smask, ⟨sop, skind, sn, sref, skids⟩⟩, rfl, rfl, hs, rfl, rfl⟩, ?_⟩; (conv => whnf))
    rw [hS]
    (refine ⟨[], false, false, ?_⟩; (conv => whnf); refine ⟨_, _, ⟨l, SL, ⟨ta, tb, ts⟩, false, rfl, rfl, by omega, hto, hsa, rfl, rfl⟩, ?_⟩; (conv => whnf))
    ((with_reducible refine And.intro (fun (e : (_ : Bool) = true) => ?_) (fun (e : (_ : Bool) = false) => ?_)) <;> (try simp only [reduceCtorEq, ints_len, bools_len, Bool.not_false, Bool.not_true, List.length_map, decide_eq_true_eq, decide_eq_false_iff_not, Bool.not_eq_true', Bool.not_eq_false', Bool.and_eq_true, Bool.or_eq_true, Bool.and_eq_false_iff, Bool.or_eq_false_iff, beq_iff_eq, bne_iff_ne, beq_eq_false_iff_ne, bne_eq_false_iff_eq, Int.not_lt, Int.not_le, ge_iff_le, gt_iff_lt, not_or, not_and, Bool.cond_true_right, Bool.cond_true_left, Bool.cond_false_right, Bool.cond_false_left, bif_t, bif_f] at e) <;> (conv => whnf))
    · have e2 := e
      have hh : hinder l ⟨⟨sa, sb, ss⟩, smask, ⟨sop, skind, sn, sref, skids⟩⟩ ⟨⟨ta, tb, ts⟩, tmask, ⟨top, tkind, tn, tref, tkids⟩⟩ = antiB := by
        unfold hinder; rw [hT, hS, if_neg (by rw [e1]; simp), if_pos e2]
      rw [hh]
      (refine ⟨[], ?_⟩; (conv => whnf); refine ⟨[], .nil, .nil, ?_⟩; (conv => whnf))
      rfl
    · have e2 := e
      (refine ⟨[], false, false, ?_⟩; (conv => whnf); refine ⟨_, _, ⟨l, ⟨sa, sb, ss⟩, ⟨ta, tb, ts⟩, rfl, rfl, hso, hto, rfl, rfl⟩, ?_⟩; (conv => whnf))
      ((with_reducible refine And.intro (fun (e : (_ : Bool) = true) => ?_) (fun (e : (_ : Bool) = false) => ?_)) <;> (try simp only [reduceCtorEq, ints_len, bools_len, Bool.not_false, Bool.not_true, List.length_map, decide_eq_true_eq, decide_eq_false_iff_not, Bool.not_eq_true', Bool.not_eq_false', Bool.and_eq_true, Bool.or_eq_true, Bool.and_eq_false_iff, Bool.or_eq_false_iff, beq_iff_eq, bne_iff_ne, beq_eq_false_iff_ne, bne_eq_false_iff_eq, Int.not_lt, Int.not_le, ge_iff_le, gt_iff_lt, not_or, not_and, Bool.cond_true_right, Bool.cond_true_left, Bool.cond_false_right, Bool.cond_false_left, bif_t, bif_f] at e) <;> (conv => whnf))
      · have hh : hinder l ⟨⟨sa, sb, ss⟩, smask, ⟨sop, skind, sn, sref, skids⟩⟩ ⟨⟨ta, tb, ts⟩, tmask, ⟨top, tkind, tn, tref, tkids⟩⟩ = outputB := by
          unfold hinder; rw [hT, hS, if_neg (by rw [e1]; simp), if_neg (by rw [e2]; simp), if_pos e]
        rw [hh]
        (refine ⟨[], ?_⟩; (conv => whnf); refine ⟨[], .nil, .nil, ?_⟩; (conv => whnf))
        rfl
      · have hh : hinder l ⟨⟨sa, sb, ss⟩, smask, ⟨sop, skind, sn, sref, skids⟩⟩ ⟨⟨ta, tb, ts⟩, tmask, ⟨top, tkind, tn, tref, tkids⟩⟩ = emptyB := by
          unfold hinder; rw [hT, hS, if_neg (by rw [e1]; simp), if_neg (by rw [e2]; simp), if_neg (by rw [e]; simp)]
        rw [hh]
        (refine ⟨[], ?_⟩; (conv => whnf); refine ⟨[], .nil, .nil, ?_⟩; (conv => whnf))
        rfl
end Go.Proofs.Ytahdihhhankhdaa.V
-- Vpt
namespace Go.Proofs.Ytahdihhhankhdaa.V
open Go.Proofs.YtahdihhhankhdaaVY Go.RowKit
def R116 : Ct := fun ss hp r out => ∃ (k : Kern) (i : Nat) (s : ASet), ss = [.v (.ag (k.c.map .d)), .di .i64 i] ∧ hp = [] ∧ k.sets.length ≤ 4194304 ∧ k.sets[i]? = some s ∧ r = .v (.ag ((Kern.mk k.ext [s]).c.map .d)) ∧ out = []
set_option maxHeartbeats 4000000 in
theorem ok116 : VSound Try.prog (116, R116) := by
  refine vsound (T := ty) (F := []) (pl := [(1, [[], [0], [], [2], [], [], [5], [2, 3, 4, 5, 6], [0, 1, 2, 3, 4, 5, 6, 7], [0, 1, 2, 3, 4, 5, 6, 7, 8]], .look 0 (.look 1 (.look 2 (.look 3 (.look 4 (.look 5 (.look 6 (.look 7 (.look 8 (.act 9 [] .done .stop))))))))))]) (nw := true) (cuts := []) mix tyOk .nil Try.func116 (by kernel_rfl) (by kernel_rfl) ?_
  rintro _ _ _ _ ⟨⟨ext, sets⟩, i, s, rfl, rfl, hl, hi, rfl, rfl⟩
  have hil := (List.getElem?_eq_some_iff.1 hi).1
  simp only at hl hi hil
  conv => whnf
  (refine And.intro ?_ ?_; ((first | (with_reducible assumption) | (intro _; with_reducible assumption) | omega | (simp only [reduceCtorEq, ints_len, bools_len, Bool.not_false, Bool.not_true, List.length_map, decide_eq_true_eq, decide_eq_false_iff_not, Bool.not_eq_true', Bool.not_eq_false', Bool.and_eq_true, Bool.or_eq_true, Bool.and_eq_false_iff, Bool.or_eq_false_iff, beq_iff_eq, bne_iff_ne, beq_eq_false_iff_ne, bne_eq_false_iff_eq, Int.not_lt, Int.not_le, ge_iff_le, gt_iff_lt, not_or, not_and, Bool.cond_true_right, Bool.cond_true_left, Bool.cond_false_right, Bool.cond_false_left, bif_t, bif_f] at *; omega) | (intro hg; (try simp only [reduceCtorEq, ints_len, bools_len, Bool.not_false, Bool.not_true, List.length_map, decide_eq_true_eq, decide_eq_false_iff_not, Bool.not_eq_true', Bool.not_eq_false', Bool.and_eq_true, Bool.or_eq_true, Bool.and_eq_false_iff, Bool.or_eq_false_iff, beq_iff_eq, bne_iff_ne, beq_eq_false_iff_ne, bne_eq_false_iff_eq, Int.not_lt, Int.not_le, ge_iff_le, gt_iff_lt, not_or, not_and, Bool.cond_true_right, Bool.cond_true_left, Bool.cond_false_right, Bool.cond_false_left, bif_t, bif_f] at hg); first | (with_reducible assumption) | omega | (simp only [reduceCtorEq, ints_len, bools_len, Bool.not_false, Bool.not_true, List.length_map, decide_eq_true_eq, decide_eq_false_iff_not, Bool.not_eq_true', Bool.not_eq_false', Bool.and_eq_true, Bool.or_eq_true, Bool.and_eq_false_iff, Bool.or_eq_false_iff, beq_iff_eq, bne_iff_ne, beq_eq_false_iff_ne, bne_eq_false_iff_eq, Int.not_lt, Int.not_le, ge_iff_le, gt_iff_lt, not_or, not_and, Bool.cond_true_right, Bool.cond_true_left, Bool.cond_false_right, Bool.cond_false_left, bif_t, bif_f] at *; omega) | (refine ⟨?_, ?_⟩ <;> omega)) | (refine ⟨?_, ?_⟩ <;> omega) | (simp [*]; done) | grind)); (conv => whnf))
  (repeat (refine And.intro ?_ ?_; ((first | (with_reducible assumption) | (intro _; with_reducible assumption) | omega | (simp only [reduceCtorEq, ints_len, bools_len, Bool.not_false, Bool.not_true, List.length_map, decide_eq_true_eq, decide_eq_false_iff_not, Bool.not_eq_true', Bool.not_eq_false', Bool.and_eq_true, Bool.or_eq_true, Bool.and_eq_false_iff, Bool.or_eq_false_iff, beq_iff_eq, bne_iff_ne, beq_eq_false_iff_ne, bne_eq_false_iff_eq, Int.not_lt, Int.not_le, ge_iff_le, gt_iff_lt, not_or, not_and, Bool.cond_true_right, Bool.cond_true_left, Bool.cond_false_right, Bool.cond_false_left, bif_t, bif_f] at *; omega) | (intro hg; (try simp only [reduceCtorEq, ints_len, bools_len, Bool.not_false, Bool.not_true, List.length_map, decide_eq_true_eq, decide_eq_false_iff_not, Bool.not_eq_true', Bool.not_eq_false', Bool.and_eq_true, Bool.or_eq_true, Bool.and_eq_false_iff, Bool.or_eq_false_iff, beq_iff_eq, bne_iff_ne, beq_eq_false_iff_ne, bne_eq_false_iff_eq, Int.not_lt, Int.not_le, ge_iff_le, gt_iff_lt, not_or, not_and, Bool.cond_true_right, Bool.cond_true_left, Bool.cond_false_right, Bool.cond_false_left, bif_t, bif_f] at hg); first | (with_reducible assumption) | omega | (simp only [reduceCtorEq, ints_len, bools_len, Bool.not_false, Bool.not_true, List.length_map, decide_eq_true_eq, decide_eq_false_iff_not, Bool.not_eq_true', Bool.not_eq_false', Bool.and_eq_true, Bool.or_eq_true, Bool.and_eq_false_iff, Bool.or_eq_false_iff, beq_iff_eq, bne_iff_ne, beq_eq_false_iff_ne, bne_eq_false_iff_eq, Int.not_lt, Int.not_le, ge_iff_le, gt_iff_lt, not_or, not_and, Bool.cond_true_right, Bool.cond_true_left, Bool.cond_false_right, Bool.cond_false_left, bif_t, bif_f] at *; omega) | (refine ⟨?_, ?_⟩ <;> omega)) | (refine ⟨?_, ?_⟩ <;> omega) | (simp [*]; done) | grind)); (conv => whnf)))
  have hcut : List.drop (i : Int).toNat (List.take ((i : Int) + 1).toNat (sets.map ASet.c)) = [s].map ASet.c := by
    rw [Int.toNat_natCast, show ((i : Int) + 1).toNat = i + 1 by omega, ← List.map_take, ← List.map_drop, List.take_add_one, hi, Option.toList_some, List.drop_append_of_le_length (by rw [List.length_take]; omega), List.drop_eq_nil_of_le (by rw [List.length_take]; omega)]; rfl
  simp only
  rw [hcut]
  (refine ⟨[], ?_⟩; (conv => whnf); refine ⟨[], .nil, .nil, ?_⟩; (conv => whnf))
  exact .cons rfl (.cons rfl .nil)
def R134 : Ct := fun ss hp r out => ∃ (k : Kern) (x y : Ref), ss = [.v (.ag (y.c.map .d)), .one (.pel k.c), .one (.pel x.c)] ∧ hp = [] ∧ k.ext.length < 4611686018427387904 ∧ x.str.length < 4611686018427387904 ∧ y.str.length < 4611686018427387904 ∧ r = .db (early k.ext x y) ∧ out = []
set_option maxHeartbeats 4000000 in
theorem ok134 : VSound Try.prog (134, R134) := by
  refine vsound (T := ty) (F := [(135, R135)]) (pl := []) (nw := true) (cuts := []) mix tyOk (.cons (ok135) .nil) Try.func134 (by kernel_rfl) (by kernel_rfl) ?_
  rintro _ _ _ _ ⟨⟨ext, sets⟩, ⟨xa, xb, xs⟩, ⟨ya, yb, ys⟩, rfl, rfl, hk, hx, hy, rfl, rfl⟩
  conv => whnf
  (refine ⟨[], false, false, ?_⟩; (conv => whnf); refine ⟨_, _, ⟨ext, ⟨xa, xb, xs⟩, ⟨ya, yb, ys⟩, rfl, rfl, hk, hx, hy, rfl, rfl⟩, ?_⟩; (conv => whnf))
  (refine ⟨[], ?_⟩; (conv => whnf); refine ⟨[], .nil, .nil, ?_⟩; (conv => whnf))
def R136 : Ct := fun ss hp r out => ∃ (k : Kern) (x y : Ref), ss = [.v (.ag (y.c.map .d)), .one (.pel k.c), .one (.pel x.c)] ∧ hp = [] ∧ k.ext.length < 4611686018427387904 ∧ x.str.length < 4611686018427387904 ∧ y.str.length < 4611686018427387904 ∧ r = .db (early k.ext y x) ∧ out = []
set_option maxHeartbeats 4000000 in
theorem ok136 : VSound Try.prog (136, R136) := by
  refine vsound (T := ty) (F := [(135, R135)]) (pl := []) (nw := true) (cuts := []) mix tyOk (.cons (ok135) .nil) Try.func136 (by kernel_rfl) (by kernel_rfl) ?_
  rintro _ _ _ _ ⟨⟨ext, sets⟩, ⟨xa, xb, xs⟩, ⟨ya, yb, ys⟩, rfl, rfl, hk, hx, hy, rfl, rfl⟩
  conv => whnf
  (refine ⟨[], false, false, ?_⟩; (conv => whnf); refine ⟨_, _, ⟨ext, ⟨ya, yb, ys⟩, ⟨xa, xb, xs⟩, rfl, rfl, hk, hy, hx, rfl, rfl⟩, ?_⟩; (conv => whnf))
  (refine ⟨[], ?_⟩; (conv => whnf); refine ⟨[], .nil, .nil, ?_⟩; (conv => whnf))
/-- two contracts of one function -/
theorem snd_or {P : Program} {f : FuncId} {R R' : Ct} (hE : Go.Proofs.YtahdihhhankhdaaVY.Enters P f) (h : Snd P f R) (h' : Snd P f R') : Snd P f (fun ss hp r out => R ss hp r out ∨ R' ss hp r out) := by
  have ok : ∀ {R : Ct}, Snd P f R → Ok P f R := by
    intro R h
    rcases h with ⟨h, _⟩ | h
    · exact h
    · intro X w args ss hp ρ r out h1 h2 h3 _ h5 h6
      obtain ⟨v, ρ', w', h7, _⟩ := h X w args ss hp ρ r out h1 h2 h3 h5 h6
      rw [run_enter hE] at h7
      cases h7
  refine .inl ⟨fun X w args ss hp ρ r out h1 h2 h3 h4 h5 h6 => ?_, hE⟩
  rcases h6 with h6 | h6
  · exact ok h X w args ss hp ρ r out h1 h2 h3 h4 h5 h6
  · exact ok h' X w args ss hp ρ r out h1 h2 h3 h4 h5 h6
def Rhas : Ct := fun ss hp r out => R97 134 R134 ss hp r out ∨ R97 136 R136 ss hp r out
theorem okHas : VSound Try.prog (97, Rhas) :=
  snd_or ⟨_, Try.func97, by kernel_rfl, by kernel_rfl⟩ (ok97 134 R134 ok134) (ok97 136 R136 ok136)
theorem ref_len {l : List Int} {x : Ref} (h : refOk l x = true) : x.str.length ≤ 3 ∧ l.length ≤ 3 := by
  unfold refOk at h
  simp only [Bool.and_eq_true, decide_eq_true_eq] at h
  have := many_prod h.1
  omega
def R111 : Ct := fun ss hp r out => ∃ (p q : Kern) (i j : Nat) (s t : ASet), ss = [.v (.ag (p.c.map .d)), .v (.ag (q.c.map .d)), .di .i64 i, .di .i64 j] ∧ hp = [] ∧ p.sets.length ≤ 4194304 ∧ q.sets.length ≤ 4194304 ∧ p.sets[i]? = some s ∧ q.sets[j]? = some t ∧ (Kern.mk p.ext [s]).bulk ≤ 4194304 ∧ (Kern.mk q.ext [t]).bulk ≤ 4194304 ∧ formed ⟨p.ext, [s]⟩ = true ∧ formed ⟨q.ext, [t]⟩ = true ∧ s.loads.length ≤ 4194304 ∧ t.loads.length ≤ 4194304 ∧ refOk p.ext s.to = true ∧ refOk p.ext t.to = true ∧ (∀ y ∈ s.loads, refOk p.ext y = true) ∧ (∀ y ∈ t.loads, refOk p.ext y = true) ∧ r = .one (.d (.str (hinder p.ext s t))) ∧ out = []
set_option maxHeartbeats 4000000 in
theorem ok111 : VSound Try.prog (111, R111) := by
  refine vsound (T := ty) (F := [(96, R96), (97, Rhas), (116, R116), (135, R135)]) (pl := [(1, [[], [0], [], [0, 1, 2], [0, 1, 2, 3], [0, 1, 2, 3, 4], [], [6], [], [6, 7, 8], [6, 7, 8, 9], [6, 7, 8, 9, 10], [], [], [0, 1, 2, 3, 4, 5, 12, 13], [0, 1, 2, 3, 4, 5, 6, 7, 8, 9, 10, 11, 12, 13, 14]], .look 0 (.look 1 (.look 2 (.look 3 (.look 4 (.look 5 (.look 6 (.look 7 (.look 8 (.look 9 (.look 10 (.look 11 (.act 12 [0, 1, 2, 3, 4, 5, 6, 7, 8, 9, 10, 11] (.act 13 [0, 1, 2, 3, 4, 5, 6, 7, 8, 9, 10, 11] (.act 14 [6, 7, 8, 9, 10, 11] (.act 15 [] .done .stop) .stop) .stop) (.act 13 [0, 1, 2, 3, 4, 5, 6, 7, 8, 9, 10, 11] (.act 12 [0, 1, 2, 3, 4, 5, 6, 7, 8, 9, 10, 11] (.act 14 [6, 7, 8, 9, 10, 11] (.act 15 [] .done .stop) .stop) .stop) .stop))))))))))))))]) (nw := true) (cuts := []) mix tyOk (.cons (ok96) (.cons (okHas) (.cons (ok116) (.cons (ok135) .nil)))) Try.func111 (by kernel_rfl) (by kernel_rfl) ?_
  rintro _ _ _ _ ⟨⟨ext, sets⟩, ⟨ext2, sets2⟩, i, j, ⟨⟨sa, sb, ss⟩, smask, ⟨sop, skind, sn, sref, skids⟩⟩, ⟨⟨ta, tb, ts⟩, tmask, ⟨top, tkind, tn, tref, tkids⟩⟩, rfl, rfl, hl, hl2, hi, hj, hs, ht, hsf, htf, hsl, htl, hso, hto, hsa, hta, rfl, rfl⟩
  simp only at hl hl2 hi hj hso hto hsa hta
  generalize hS : (ASet.mk ⟨sa, sb, ss⟩ smask ⟨sop, skind, sn, sref, skids⟩).loads = SL at *
  generalize hT : (ASet.mk ⟨ta, tb, ts⟩ tmask ⟨top, tkind, tn, tref, tkids⟩).loads = TL at *
  have hlt : loadsOf ⟨ext2, [⟨⟨ta, tb, ts⟩, tmask, ⟨top, tkind, tn, tref, tkids⟩⟩]⟩ 0 = TL := by
    unfold loadsOf
    rw [if_pos ⟨htf, by decide, by simp⟩, ← hT]; rfl
  have hls : loadsOf ⟨ext, [⟨⟨sa, sb, ss⟩, smask, ⟨sop, skind, sn, sref, skids⟩⟩]⟩ 0 = SL := by
    unfold loadsOf
    rw [if_pos ⟨hsf, by decide, by simp⟩, ← hS]; rfl
  have hse := ref_len hso
  have hte := ref_len hto
  conv => whnf
  (refine ⟨_, And.intro ⟨by omega, enc_get hi⟩ ?_⟩; (conv => whnf))
  (refine ⟨_, And.intro ⟨by omega, enc_get hj⟩ ?_⟩; (conv => whnf))
  repeat' ((with_reducible refine And.intro ?_ ?_) <;> (conv => whnf))
  all_goals
    (refine ⟨[], false, false, ?_⟩; (conv => whnf); refine ⟨_, _, ⟨⟨ext2, sets2⟩, j, ⟨⟨ta, tb, ts⟩, tmask, ⟨top, tkind, tn, tref, tkids⟩⟩, rfl, rfl, hl2, hj, rfl, rfl⟩, ?_⟩; (conv => whnf))
    (refine ⟨[], false, false, ?_⟩; (conv => whnf); refine ⟨_, _, ⟨⟨ext2, [⟨⟨ta, tb, ts⟩, tmask, ⟨top, tkind, tn, tref, tkids⟩⟩]⟩, 0, rfl, rfl, ht, rfl, rfl⟩, ?_⟩; (conv => whnf))
    rw [hlt]
    (refine ⟨[], false, false, ?_⟩; (conv => whnf); refine ⟨_, _, .inl ⟨TL, [.pel (Kern.mk ext sets).c, .pel (Ref.mk sa sb ss).c], fun y => early ext ⟨sa, sb, ss⟩ y, rfl, rfl, by omega, rfl, fun y hy => ⟨⟨ext, sets⟩, ⟨sa, sb, ss⟩, y, rfl, rfl, by have := hse.2; simp only; omega, by have := hse.1; omega, by have := (ref_len (hta y hy)).1; omega, rfl, rfl⟩, rfl, rfl⟩, ?_⟩; (conv => whnf))
    ((with_reducible refine And.intro (fun (e : (_ : Bool) = true) => ?_) (fun (e : (_ : Bool) = false) => ?_)) <;> (try simp only [reduceCtorEq, ints_len, bools_len, Bool.not_false, Bool.not_true, List.length_map, decide_eq_true_eq, decide_eq_false_iff_not, Bool.not_eq_true', Bool.not_eq_false', Bool.and_eq_true, Bool.or_eq_true, Bool.and_eq_false_iff, Bool.or_eq_false_iff, beq_iff_eq, bne_iff_ne, beq_eq_false_iff_ne, bne_eq_false_iff_eq, Int.not_lt, Int.not_le, ge_iff_le, gt_iff_lt, not_or, not_and, Bool.cond_true_right, Bool.cond_true_left, Bool.cond_false_right, Bool.cond_false_left, bif_t, bif_f] at e) <;> (conv => whnf))
    · have e1 : anyEarly ext TL ⟨sa, sb, ss⟩ true = true := e
      have hh : hinder ext ⟨⟨sa, sb, ss⟩, smask, ⟨sop, skind, sn, sref, skids⟩⟩ ⟨⟨ta, tb, ts⟩, tmask, ⟨top, tkind, tn, tref, tkids⟩⟩ = flowB := by unfold hinder; rw [hT, if_pos e1]
      rw [hh]
      (refine ⟨[], ?_⟩; (conv => whnf); refine ⟨[], .nil, .nil, ?_⟩; (conv => whnf))
      rfl
    · have e1 : anyEarly ext TL ⟨sa, sb, ss⟩ true = false := e
      (refine ⟨[], false, false, ?_⟩; (conv => whnf); refine ⟨_, _, ⟨⟨ext, sets⟩, i, ⟨⟨sa, sb, ss⟩, smask, ⟨sop, skind, sn, sref, skids⟩⟩, rfl, rfl, hl, hi, rfl, rfl⟩, ?_⟩; (conv => whnf))
      (refine ⟨[], false, false, ?_⟩; (conv => whnf); refine ⟨_, _, ⟨⟨ext, [⟨⟨sa, sb, ss⟩, smask, ⟨sop, skind, sn, sref, skids⟩⟩]⟩, 0, rfl, rfl, hs, rfl, rfl⟩, ?_⟩; (conv => whnf))
      rw [hls]
      (refine ⟨[], false, false, ?_⟩; (conv => whnf); refine ⟨_, _, .inr ⟨SL, [.pel (Kern.mk ext sets).c, .pel (Ref.mk ta tb ts).c], fun y => early ext y ⟨ta, tb, ts⟩, rfl, rfl, by omega, rfl, fun y hy => ⟨⟨ext, sets⟩, ⟨ta, tb, ts⟩, y, rfl, rfl, by have := hse.2; simp only; omega, by have := hte.1; omega, by have := (ref_len (hsa y hy)).1; omega, rfl, rfl⟩, rfl, rfl⟩, ?_⟩; (conv => whnf))
      ((with_reducible refine And.intro (fun (e : (_ : Bool) = true) => ?_) (fun (e : (_ : Bool) = false) => ?_)) <;> (try simp only [reduceCtorEq, ints_len, bools_len, Bool.not_false, Bool.not_true, List.length_map, decide_eq_true_eq, decide_eq_false_iff_not, Bool.not_eq_true', Bool.not_eq_false', Bool.and_eq_true, Bool.or_eq_true, Bool.and_eq_false_iff, Bool.or_eq_false_iff, beq_iff_eq, bne_iff_ne, beq_eq_false_iff_ne, bne_eq_false_iff_eq, Int.not_lt, Int.not_le, ge_iff_le, gt_iff_lt, not_or, not_and, Bool.cond_true_right, Bool.cond_true_left, Bool.cond_false_right, Bool.cond_false_left, bif_t, bif_f] at e) <;> (conv => whnf))
      · have e2 : anyEarly ext SL ⟨ta, tb, ts⟩ false = true := e
        have hh : hinder ext ⟨⟨sa, sb, ss⟩, smask, ⟨sop, skind, sn, sref, skids⟩⟩ ⟨⟨ta, tb, ts⟩, tmask, ⟨top, tkind, tn, tref, tkids⟩⟩ = antiB := by unfold hinder; rw [hT, hS, if_neg (by rw [e1]; simp), if_pos e2]
        rw [hh]
        (refine ⟨[], ?_⟩; (conv => whnf); refine ⟨[], .nil, .nil, ?_⟩; (conv => whnf))
        rfl
      · have e2 : anyEarly ext SL ⟨ta, tb, ts⟩ false = false := e
        (refine ⟨[], false, false, ?_⟩; (conv => whnf); refine ⟨_, _, ⟨ext, ⟨sa, sb, ss⟩, ⟨ta, tb, ts⟩, rfl, rfl, by have := hse.2; omega, by have := hse.1; omega, by have := hte.1; omega, rfl, rfl⟩, ?_⟩; (conv => whnf))
        ((with_reducible refine And.intro (fun (e : (_ : Bool) = true) => ?_) (fun (e : (_ : Bool) = false) => ?_)) <;> (try simp only [reduceCtorEq, ints_len, bools_len, Bool.not_false, Bool.not_true, List.length_map, decide_eq_true_eq, decide_eq_false_iff_not, Bool.not_eq_true', Bool.not_eq_false', Bool.and_eq_true, Bool.or_eq_true, Bool.and_eq_false_iff, Bool.or_eq_false_iff, beq_iff_eq, bne_iff_ne, beq_eq_false_iff_ne, bne_eq_false_iff_eq, Int.not_lt, Int.not_le, ge_iff_le, gt_iff_lt, not_or, not_and, Bool.cond_true_right, Bool.cond_true_left, Bool.cond_false_right, Bool.cond_false_left, bif_t, bif_f] at e) <;> (conv => whnf))
        · have hh : hinder ext ⟨⟨sa, sb, ss⟩, smask, ⟨sop, skind, sn, sref, skids⟩⟩ ⟨⟨ta, tb, ts⟩, tmask, ⟨top, tkind, tn, tref, tkids⟩⟩ = outputB := by unfold hinder; rw [hT, hS, if_neg (by rw [e1]; simp), if_neg (by rw [e2]; simp), if_pos e]
          rw [hh]
          (refine ⟨[], ?_⟩; (conv => whnf); refine ⟨[], .nil, .nil, ?_⟩; (conv => whnf))
          rfl
        · have hh : hinder ext ⟨⟨sa, sb, ss⟩, smask, ⟨sop, skind, sn, sref, skids⟩⟩ ⟨⟨ta, tb, ts⟩, tmask, ⟨top, tkind, tn, tref, tkids⟩⟩ = emptyB := by unfold hinder; rw [hT, hS, if_neg (by rw [e1]; simp), if_neg (by rw [e2]; simp), if_neg (by rw [e]; simp)]
          rw [hh]
          (refine ⟨[], ?_⟩; (conv => whnf); refine ⟨[], .nil, .nil, ?_⟩; (conv => whnf))
          rfl
end Go.Proofs.Ytahdihhhankhdaa.V
-- Vsa
namespace Go.Proofs.Ytahdihhhankhdaa.V
open Go.Proofs.YtahdihhhankhdaaVY Go.RowKit
def R22 : Ct := fun ss hp r out => ∃ a b : List Int, ss = [.one (.d (.sl 1 (a.map inC))), .one (.d (.sl 1 (b.map inC)))] ∧ hp = [] ∧ a.length < 4611686018427387904 ∧ r = .db (decide (a = b)) ∧ out = []
set_option maxHeartbeats 4000000 in
theorem ok22 : VSound Try.prog (22, R22) := by
  refine vsound (T := ty) (F := []) (pl := [(6, [[], [], [0, 1], [0, 1, 2], [], [], [4, 5], [4, 5, 6], [0, 1, 2, 3, 4, 5, 6, 7]], .look 0 (.look 1 (.look 2 (.look 3 (.look 4 (.look 5 (.look 6 (.look 7 (.look 8 .done)))))))))]) (nw := true) (cuts := []) mix tyOk .nil Try.func22 (by kernel_rfl) (by kernel_rfl) ?_
  rintro _ _ _ _ ⟨a, b, rfl, rfl, hl, rfl, rfl⟩
  conv => whnf
  ((with_reducible refine And.intro (fun (e : (_ : Bool) = true) => ?_) (fun (e : (_ : Bool) = false) => ?_)) <;> (try simp only [reduceCtorEq, ints_len, bools_len, Bool.not_false, Bool.not_true, List.length_map, decide_eq_true_eq, decide_eq_false_iff_not, Bool.not_eq_true', Bool.not_eq_false', Bool.and_eq_true, Bool.or_eq_true, Bool.and_eq_false_iff, Bool.or_eq_false_iff, beq_iff_eq, bne_iff_ne, beq_eq_false_iff_ne, bne_eq_false_iff_eq, Int.not_lt, Int.not_le, ge_iff_le, gt_iff_lt, not_or, not_and, Bool.cond_true_right, Bool.cond_true_left, Bool.cond_false_right, Bool.cond_false_left, bif_t, bif_f] at e) <;> (conv => whnf))
  · (refine ⟨[], ?_⟩; (conv => whnf); refine ⟨[], .nil, .nil, ?_⟩; (conv => whnf))
    congr 1
    refine (decide_eq_false ?_).symm
    rintro rfl
    exact e rfl
  · have e1 := e
    refine ⟨[], [0, 1, 5], 0, fun n1 σ => ∃ i : Nat, i ≤ a.length ∧ n1 = a.length - i ∧ (∀ j < i, a[j]? = b[j]?) ∧ σ = (⟨[.one (.d (.sl 1 (a.map inC))), .one (.d (.sl 1 (b.map inC))), .junk, .junk, .junk, .di .i64 i, .junk, .junk, .junk, .junk, .junk, .junk, .junk, .junk, .junk, .junk, .junk, .junk, .junk, .junk, .junk, .junk, .junk, .junk, .junk, .junk], []⟩ : St), ?_, ?_⟩
    · refine ⟨a.length, ?_⟩
      conv => whnf
      exact ⟨0, by omega, by omega, by omega, rfl⟩
    · rintro n1 _ ⟨i, hi, rfl, hall, rfl⟩
      conv => whnf
      ((with_reducible refine And.intro (fun (e : (_ : Bool) = true) => ?_) (fun (e : (_ : Bool) = false) => ?_)) <;> (try simp only [reduceCtorEq, ints_len, bools_len, Bool.not_false, Bool.not_true, List.length_map, decide_eq_true_eq, decide_eq_false_iff_not, Bool.not_eq_true', Bool.not_eq_false', Bool.and_eq_true, Bool.or_eq_true, Bool.and_eq_false_iff, Bool.or_eq_false_iff, beq_iff_eq, bne_iff_ne, beq_eq_false_iff_ne, bne_eq_false_iff_eq, Int.not_lt, Int.not_le, ge_iff_le, gt_iff_lt, not_or, not_and, Bool.cond_true_right, Bool.cond_true_left, Bool.cond_false_right, Bool.cond_false_left, bif_t, bif_f] at e) <;> (conv => whnf))
      · obtain ⟨y, hy⟩ := get_lt (l := a) (i := i) (by omega)
        obtain ⟨z, hz⟩ := get_lt (l := b) (i := i) (by omega)
        refine ⟨_, And.intro ⟨?_, enc_get hy⟩ ?_⟩
        · omega
        conv => whnf
        refine ⟨_, And.intro ⟨?_, enc_get hz⟩ ?_⟩
        · omega
        conv => whnf
        ((with_reducible refine And.intro (fun (e : (_ : Bool) = true) => ?_) (fun (e : (_ : Bool) = false) => ?_)) <;> (try simp only [reduceCtorEq, ints_len, bools_len, Bool.not_false, Bool.not_true, List.length_map, decide_eq_true_eq, decide_eq_false_iff_not, Bool.not_eq_true', Bool.not_eq_false', Bool.and_eq_true, Bool.or_eq_true, Bool.and_eq_false_iff, Bool.or_eq_false_iff, beq_iff_eq, bne_iff_ne, beq_eq_false_iff_ne, bne_eq_false_iff_eq, Int.not_lt, Int.not_le, ge_iff_le, gt_iff_lt, not_or, not_and, Bool.cond_true_right, Bool.cond_true_left, Bool.cond_false_right, Bool.cond_false_left, bif_t, bif_f] at e) <;> (conv => whnf))
        · have e2 := e
          (refine ⟨[], ?_⟩; (conv => whnf); refine ⟨[], .nil, .nil, ?_⟩; (conv => whnf))
          congr 1
          refine (decide_eq_false ?_).symm
          rintro rfl
          rw [hy] at hz; cases hz
          exact e2 rfl
        · have e2 := e
          (refine And.intro ?_ ?_; ((first | (with_reducible assumption) | (intro _; with_reducible assumption) | omega | (simp only [reduceCtorEq, ints_len, bools_len, Bool.not_false, Bool.not_true, List.length_map, decide_eq_true_eq, decide_eq_false_iff_not, Bool.not_eq_true', Bool.not_eq_false', Bool.and_eq_true, Bool.or_eq_true, Bool.and_eq_false_iff, Bool.or_eq_false_iff, beq_iff_eq, bne_iff_ne, beq_eq_false_iff_ne, bne_eq_false_iff_eq, Int.not_lt, Int.not_le, ge_iff_le, gt_iff_lt, not_or, not_and, Bool.cond_true_right, Bool.cond_true_left, Bool.cond_false_right, Bool.cond_false_left, bif_t, bif_f] at *; omega) | (intro hg; (try simp only [reduceCtorEq, ints_len, bools_len, Bool.not_false, Bool.not_true, List.length_map, decide_eq_true_eq, decide_eq_false_iff_not, Bool.not_eq_true', Bool.not_eq_false', Bool.and_eq_true, Bool.or_eq_true, Bool.and_eq_false_iff, Bool.or_eq_false_iff, beq_iff_eq, bne_iff_ne, beq_eq_false_iff_ne, bne_eq_false_iff_eq, Int.not_lt, Int.not_le, ge_iff_le, gt_iff_lt, not_or, not_and, Bool.cond_true_right, Bool.cond_true_left, Bool.cond_false_right, Bool.cond_false_left, bif_t, bif_f] at hg); first | (with_reducible assumption) | omega | (simp only [reduceCtorEq, ints_len, bools_len, Bool.not_false, Bool.not_true, List.length_map, decide_eq_true_eq, decide_eq_false_iff_not, Bool.not_eq_true', Bool.not_eq_false', Bool.and_eq_true, Bool.or_eq_true, Bool.and_eq_false_iff, Bool.or_eq_false_iff, beq_iff_eq, bne_iff_ne, beq_eq_false_iff_ne, bne_eq_false_iff_eq, Int.not_lt, Int.not_le, ge_iff_le, gt_iff_lt, not_or, not_and, Bool.cond_true_right, Bool.cond_true_left, Bool.cond_false_right, Bool.cond_false_left, bif_t, bif_f] at *; omega) | (refine ⟨?_, ?_⟩ <;> omega)) | (refine ⟨?_, ?_⟩ <;> omega) | (simp [*]; done) | grind)); (conv => whnf))
          refine ⟨a.length - (i + 1), by omega, [], ?_⟩
          conv => whnf
          refine ⟨i + 1, by omega, rfl, fun j hj => ?_, rfl⟩
          by_cases ej : j = i
          · subst ej; rw [hy, hz, e2]
          · exact hall j (by omega)
      · (refine ⟨[], ?_⟩; (conv => whnf); refine ⟨[], .nil, .nil, ?_⟩; (conv => whnf))
        congr 1
        refine (decide_eq_true ?_).symm
        apply List.ext_getElem?
        intro j
        by_cases hj : j < a.length
        · exact hall j (by omega)
        · rw [List.getElem?_eq_none (by omega), List.getElem?_eq_none (by omega)]
end Go.Proofs.Ytahdihhhankhdaa.V
-- Vwy
namespace Go.Proofs.Ytahdihhhankhdaa.V
open Go.Proofs.YtahdihhhankhdaaVY Go.RowKit
def extentB : ByteArray := ⟨#[101, 120, 116, 101, 110, 116, 115]⟩
def setsB : ByteArray := ⟨#[115, 101, 116, 115]⟩
/-- what hinders s and the first of T that it hinders -/
def firstIn (l : List Int) (s : ASet) : List ASet → ByteArray
  | [] => emptyB
  | t :: T => if hinder l s t ≠ emptyB then hinder l s t else firstIn l s T
def firstOf (l : List Int) (T : List ASet) : List ASet → ByteArray
  | [] => emptyB
  | s :: S => if firstIn l s T ≠ emptyB then firstIn l s T else firstOf l T S
def whyF (p q : Kern) : ByteArray := if p.ext ≠ q.ext then extentB else if 8 < p.sets.length + q.sets.length then setsB else firstOf p.ext q.sets p.sets
theorem kern_refs {k : Kern} {s : ASet} (h : isKern k = true) (hs : s ∈ k.sets) : refOk k.ext s.to = true ∧ (∀ y ∈ s.loads, refOk k.ext y = true) ∧ formed ⟨k.ext, [s]⟩ = true := by
  obtain ⟨h1, h2, h3, h4⟩ := (isKern_iff k).1 h
  have a := h4 s hs
  have b : refOk k.ext s.to = true := a _ (List.mem_append_right _ (List.mem_singleton.2 rfl))
  have c : ∀ y ∈ s.loads, refOk k.ext y = true := fun y hy => a _ (List.mem_append_left _ hy)
  refine ⟨b, c, ?_⟩
  unfold formed
  simp only [Bool.and_eq_true, decide_eq_true_eq, List.all_eq_true, List.mem_singleton, forall_eq]
  exact ⟨h1, b, c⟩
theorem hinder_none {l : List Int} {s : ASet} {T : List ASet} {t : ASet} (h : hinder l s t = emptyB) : firstIn l s (t :: T) = firstIn l s T := by
  rw [firstIn, if_neg (by rw [h]; simp)]
theorem hinder_some {l : List Int} {s : ASet} {T : List ASet} {t : ASet} (h : hinder l s t ≠ emptyB) : firstIn l s (t :: T) = hinder l s t := by
  rw [firstIn, if_pos h]
end Go.Proofs.Ytahdihhhankhdaa.V
-- Veq
namespace Go.Proofs.Ytahdihhhankhdaa.V
open Go.Proofs.YtahdihhhankhdaaVY Go.RowKit
theorem ints_eq {a b : List Int} (hl : a.length = b.length) (h : ∀ j < a.length, a[j]? = b[j]?) : a = b := by
  apply List.ext_getElem?
  intro j
  by_cases hj : j < a.length
  · exact h j hj
  · rw [List.getElem?_eq_none (by omega), List.getElem?_eq_none (by omega)]
def R106 : Ct := fun ss hp r out => ∃ a b : List Int, ss = [.one (.d (.sl 1 (a.map inC))), .one (.d (.sl 1 (b.map inC)))] ∧ hp = [] ∧ a.length < 4611686018427387904 ∧ r = .db (decide (a = b)) ∧ out = []
set_option maxHeartbeats 4000000 in
theorem ok106 : VSound Try.prog (106, R106) := by
  refine vsound (T := ty) (F := []) (pl := [(6, [[], [], [0, 1], [0, 1, 2], [], [], [4, 5], [4, 5, 6], [0, 1, 2, 3, 4, 5, 6, 7]], .look 0 (.look 1 (.look 2 (.look 3 (.look 4 (.look 5 (.look 6 (.look 7 (.look 8 .done)))))))))]) (nw := true) (cuts := []) mix tyOk .nil Try.func106 (by kernel_rfl) (by kernel_rfl) ?_
  rintro _ _ _ _ ⟨a, b, rfl, rfl, hl, rfl, rfl⟩
  conv => whnf
  ((with_reducible refine And.intro (fun (e : (_ : Bool) = true) => ?_) (fun (e : (_ : Bool) = false) => ?_)) <;> (try simp only [reduceCtorEq, ints_len, bools_len, Bool.not_false, Bool.not_true, List.length_map, decide_eq_true_eq, decide_eq_false_iff_not, Bool.not_eq_true', Bool.not_eq_false', Bool.and_eq_true, Bool.or_eq_true, Bool.and_eq_false_iff, Bool.or_eq_false_iff, beq_iff_eq, bne_iff_ne, beq_eq_false_iff_ne, bne_eq_false_iff_eq, Int.not_lt, Int.not_le, ge_iff_le, gt_iff_lt, not_or, not_and, Bool.cond_true_right, Bool.cond_true_left, Bool.cond_false_right, Bool.cond_false_left, bif_t, bif_f] at e) <;> (conv => whnf))
  · have e1 := e
    (refine ⟨[], ?_⟩; (conv => whnf); refine ⟨[], .nil, .nil, ?_⟩; (conv => whnf))
    congr 1
    refine (decide_eq_false ?_).symm
    rintro rfl
    exact e1 rfl
  · have e1 := e
    refine ⟨[], [0, 1, 12, 13], 0, fun n1 σ => ∃ i : Nat, i ≤ a.length ∧ n1 = a.length - i ∧ (∀ j < i, a[j]? = b[j]?) ∧ σ = (⟨[.one (.d (.sl 1 (a.map inC))), .one (.d (.sl 1 (b.map inC))), .junk, .junk, .junk, .junk, .junk, .junk, .junk, .junk, .junk, .junk, .di .i64 a.length, .di .i64 i, .junk, .junk, .junk, .junk, .junk, .junk, .junk, .junk, .junk, .junk, .junk, .junk], []⟩ : St), ?_, ?_⟩
    · refine ⟨a.length, ?_⟩
      conv => whnf
      refine ⟨0, by omega, by omega, by omega, ?_⟩
      rw [map_len]; rfl
    · rintro n1 _ ⟨i, hi, rfl, hall, rfl⟩
      conv => whnf
      ((with_reducible refine And.intro (fun (e : (_ : Bool) = true) => ?_) (fun (e : (_ : Bool) = false) => ?_)) <;> (try simp only [reduceCtorEq, ints_len, bools_len, Bool.not_false, Bool.not_true, List.length_map, decide_eq_true_eq, decide_eq_false_iff_not, Bool.not_eq_true', Bool.not_eq_false', Bool.and_eq_true, Bool.or_eq_true, Bool.and_eq_false_iff, Bool.or_eq_false_iff, beq_iff_eq, bne_iff_ne, beq_eq_false_iff_ne, bne_eq_false_iff_eq, Int.not_lt, Int.not_le, ge_iff_le, gt_iff_lt, not_or, not_and, Bool.cond_true_right, Bool.cond_true_left, Bool.cond_false_right, Bool.cond_false_left, bif_t, bif_f] at e) <;> (conv => whnf))
      · obtain ⟨y, hy⟩ := get_lt (l := a) (i := i) (by omega)
        obtain ⟨z, hz⟩ := get_lt (l := b) (i := i) (by omega)
        (refine ⟨_, And.intro ⟨by omega, enc_get hy⟩ ?_⟩; (conv => whnf))
        (refine ⟨_, And.intro ⟨by omega, enc_get hz⟩ ?_⟩; (conv => whnf))
        ((with_reducible refine And.intro (fun (e : (_ : Bool) = true) => ?_) (fun (e : (_ : Bool) = false) => ?_)) <;> (try simp only [reduceCtorEq, ints_len, bools_len, Bool.not_false, Bool.not_true, List.length_map, decide_eq_true_eq, decide_eq_false_iff_not, Bool.not_eq_true', Bool.not_eq_false', Bool.and_eq_true, Bool.or_eq_true, Bool.and_eq_false_iff, Bool.or_eq_false_iff, beq_iff_eq, bne_iff_ne, beq_eq_false_iff_ne, bne_eq_false_iff_eq, Int.not_lt, Int.not_le, ge_iff_le, gt_iff_lt, not_or, not_and, Bool.cond_true_right, Bool.cond_true_left, Bool.cond_false_right, Bool.cond_false_left, bif_t, bif_f] at e) <;> (conv => whnf))
        · have e2 := e
          (refine ⟨[], ?_⟩; (conv => whnf); refine ⟨[], .nil, .nil, ?_⟩; (conv => whnf))
          congr 1
          refine (decide_eq_false ?_).symm
          rintro rfl
          rw [hy] at hz; cases hz
          exact e2 rfl
        · have e2 := e
          (refine And.intro ?_ ?_; ((first | (with_reducible assumption) | (intro _; with_reducible assumption) | omega | (simp only [reduceCtorEq, ints_len, bools_len, Bool.not_false, Bool.not_true, List.length_map, decide_eq_true_eq, decide_eq_false_iff_not, Bool.not_eq_true', Bool.not_eq_false', Bool.and_eq_true, Bool.or_eq_true, Bool.and_eq_false_iff, Bool.or_eq_false_iff, beq_iff_eq, bne_iff_ne, beq_eq_false_iff_ne, bne_eq_false_iff_eq, Int.not_lt, Int.not_le, ge_iff_le, gt_iff_lt, not_or, not_and, Bool.cond_true_right, Bool.cond_true_left, Bool.cond_false_right, Bool.cond_false_left, bif_t, bif_f] at *; omega) | (intro hg; (try simp only [reduceCtorEq, ints_len, bools_len, Bool.not_false, Bool.not_true, List.length_map, decide_eq_true_eq, decide_eq_false_iff_not, Bool.not_eq_true', Bool.not_eq_false', Bool.and_eq_true, Bool.or_eq_true, Bool.and_eq_false_iff, Bool.or_eq_false_iff, beq_iff_eq, bne_iff_ne, beq_eq_false_iff_ne, bne_eq_false_iff_eq, Int.not_lt, Int.not_le, ge_iff_le, gt_iff_lt, not_or, not_and, Bool.cond_true_right, Bool.cond_true_left, Bool.cond_false_right, Bool.cond_false_left, bif_t, bif_f] at hg); first | (with_reducible assumption) | omega | (simp only [reduceCtorEq, ints_len, bools_len, Bool.not_false, Bool.not_true, List.length_map, decide_eq_true_eq, decide_eq_false_iff_not, Bool.not_eq_true', Bool.not_eq_false', Bool.and_eq_true, Bool.or_eq_true, Bool.and_eq_false_iff, Bool.or_eq_false_iff, beq_iff_eq, bne_iff_ne, beq_eq_false_iff_ne, bne_eq_false_iff_eq, Int.not_lt, Int.not_le, ge_iff_le, gt_iff_lt, not_or, not_and, Bool.cond_true_right, Bool.cond_true_left, Bool.cond_false_right, Bool.cond_false_left, bif_t, bif_f] at *; omega) | (refine ⟨?_, ?_⟩ <;> omega)) | (refine ⟨?_, ?_⟩ <;> omega) | (simp [*]; done) | grind)); (conv => whnf))
          refine ⟨a.length - (i + 1), by omega, [], ?_⟩
          conv => whnf
          refine ⟨i + 1, by omega, rfl, fun j hj => ?_, rfl⟩
          by_cases ej : j = i
          · subst ej; rw [hy, hz, e2]
          · exact hall j (by omega)
      · (refine ⟨[], ?_⟩; (conv => whnf); refine ⟨[], .nil, .nil, ?_⟩; (conv => whnf))
        congr 1
        exact (decide_eq_true (ints_eq (by omega) fun j hj => hall j (by omega))).symm
end Go.Proofs.Ytahdihhhankhdaa.V
