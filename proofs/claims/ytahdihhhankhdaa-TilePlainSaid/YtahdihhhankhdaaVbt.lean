/-
  V: the reference's Interchange and Tile, and what is straight (chapter 20). By the session's own hand.
-/
import Derived.Test.YtahdihhhankhdaaVbo
set_option linter.unusedVariables false
set_option linter.unusedSimpArgs false
set_option maxRecDepth 100000
set_option linter.all false
set_option linter.unnecessarySimpa false
set_option linter.deprecated false
namespace Go.Proofs.Ytahdihhhankhdaa.V
open Go.Proofs.YtahdihhhankhdaaVY Go.RowKit
def R74 : Ct := fun ss hp r out => ∃ e : List Int, ss = [.one (.d (.sl 1 (e.map inC)))] ∧ hp = [] ∧ e.length ≤ 1000000 ∧ r = .one (.own 0) ∧ out = [.row 1 ((upTo e.length).map inC)]
set_option maxHeartbeats 4000000 in
theorem ok74 : VSound Try.prog (74, R74) := by
  refine vsound (T := ty) (F := []) (pl := []) (nw := true) (cuts := []) mix tyOk .nil Try.func74 (by kernel_rfl) (by kernel_rfl) ?_
  rintro _ _ _ _ ⟨ex, rfl, rfl, hl, rfl, rfl⟩
  conv => whnf
  refine ⟨[.slot 3 true], [3, 6, 7], 1, fun n1 σ => ∃ i : Nat, i ≤ ex.length ∧ n1 = ex.length - i ∧ σ = (⟨[.junk, .junk, .junk, .one (.own 0), .junk, .junk, .di .i64 ex.length, .di .i64 i, .junk, .junk, .junk, .junk, .junk, .junk, .junk, .junk], [.row 1 ((upTo i).map inC)]⟩ : St), ?_, ?_⟩
  · refine ⟨ex.length, ?_⟩
    conv => whnf
    refine ⟨0, by omega, by omega, ?_⟩
    rw [map_len]; rfl
  · rintro n1 _ ⟨i, hi, rfl, rfl⟩
    conv => whnf
    ((with_reducible refine And.intro (fun (e : (_ : Bool) = true) => ?_) (fun (e : (_ : Bool) = false) => ?_)) <;> (try simp only [reduceCtorEq, ints_len, bools_len, Bool.not_false, Bool.not_true, List.length_map, decide_eq_true_eq, decide_eq_false_iff_not, Bool.not_eq_true', Bool.not_eq_false', Bool.and_eq_true, Bool.or_eq_true, Bool.and_eq_false_iff, Bool.or_eq_false_iff, beq_iff_eq, bne_iff_ne, beq_eq_false_iff_ne, bne_eq_false_iff_eq, Int.not_lt, Int.not_le, ge_iff_le, gt_iff_lt, not_or, not_and, Bool.cond_true_right, Bool.cond_true_left, Bool.cond_false_right, Bool.cond_false_left, bif_t, bif_f] at e) <;> (conv => whnf))
    · refine ⟨by rw [map_len, upTo_len]; simp only [List.length_cons, List.length_nil]; omega, ?_⟩
      conv => whnf
      (refine And.intro ?_ ?_; ((first | (with_reducible assumption) | (intro _; with_reducible assumption) | omega | (simp only [reduceCtorEq, ints_len, bools_len, Bool.not_false, Bool.not_true, List.length_map, decide_eq_true_eq, decide_eq_false_iff_not, Bool.not_eq_true', Bool.not_eq_false', Bool.and_eq_true, Bool.or_eq_true, Bool.and_eq_false_iff, Bool.or_eq_false_iff, beq_iff_eq, bne_iff_ne, beq_eq_false_iff_ne, bne_eq_false_iff_eq, Int.not_lt, Int.not_le, ge_iff_le, gt_iff_lt, not_or, not_and, Bool.cond_true_right, Bool.cond_true_left, Bool.cond_false_right, Bool.cond_false_left, bif_t, bif_f] at *; omega) | (intro hg; (try simp only [reduceCtorEq, ints_len, bools_len, Bool.not_false, Bool.not_true, List.length_map, decide_eq_true_eq, decide_eq_false_iff_not, Bool.not_eq_true', Bool.not_eq_false', Bool.and_eq_true, Bool.or_eq_true, Bool.and_eq_false_iff, Bool.or_eq_false_iff, beq_iff_eq, bne_iff_ne, beq_eq_false_iff_ne, bne_eq_false_iff_eq, Int.not_lt, Int.not_le, ge_iff_le, gt_iff_lt, not_or, not_and, Bool.cond_true_right, Bool.cond_true_left, Bool.cond_false_right, Bool.cond_false_left, bif_t, bif_f] at hg); first | (with_reducible assumption) | omega | (simp only [reduceCtorEq, ints_len, bools_len, Bool.not_false, Bool.not_true, List.length_map, decide_eq_true_eq, decide_eq_false_iff_not, Bool.not_eq_true', Bool.not_eq_false', Bool.and_eq_true, Bool.or_eq_true, Bool.and_eq_false_iff, Bool.or_eq_false_iff, beq_iff_eq, bne_iff_ne, beq_eq_false_iff_ne, bne_eq_false_iff_eq, Int.not_lt, Int.not_le, ge_iff_le, gt_iff_lt, not_or, not_and, Bool.cond_true_right, Bool.cond_true_left, Bool.cond_false_right, Bool.cond_false_left, bif_t, bif_f] at *; omega) | (refine ⟨?_, ?_⟩ <;> omega)) | (refine ⟨?_, ?_⟩ <;> omega) | (simp [*]; done) | grind)); (conv => whnf))
      refine ⟨ex.length - (i + 1), by omega, [], ?_⟩
      conv => whnf
      refine ⟨i + 1, by omega, rfl, ?_⟩
      rw [upTo_succ, List.map_append]; rfl
    · have hi' : i = ex.length := by omega
      rw [hi']
      refine ⟨[], ?_⟩
      conv => whnf
      exact ⟨[0], by simp, .cons ⟨_, rfl, rfl, rfl⟩ .nil, rfl⟩
def wide (n : Nat) : List Int := List.replicate n 400
def wideTo (n i : Nat) : List Int := List.replicate i 400 ++ List.replicate (n - i) 0
theorem wideTo_len {n i : Nat} (h : i ≤ n) : (wideTo n i).length = n := by unfold wideTo; simp; omega
theorem wideTo_set {n i : Nat} (h : i < n) : (wideTo n i).set i 400 = wideTo n (i + 1) := by
  unfold wideTo
  obtain ⟨m, hm⟩ : ∃ m, n - i = m + 1 := ⟨n - i - 1, by omega⟩
  rw [hm, show n - (i + 1) = m by omega, List.replicate_succ, List.set_append_right _ _ (by simp), List.length_replicate, Nat.sub_self, List.set_cons_zero, List.replicate_succ', List.append_assoc]
  rfl
def R35 : Ct := fun ss hp r out => ∃ (e l : List Int), ss = [.one (.d (.sl 1 (e.map inC))), .one (.d (.sl 1 (l.map inC)))] ∧ hp = [] ∧ e.length ≤ 1000000 ∧ l.length ≤ 1000000 ∧ r = .tup [.c (.own 0), .c (.d (.int .i64 (if bothOk e l (wide e.length) then 0 else 2)))] ∧ out = [.row 1 ((bothR e l (wide e.length)).map inC)]
set_option maxHeartbeats 4000000 in
theorem ok35 : VSound Try.prog (35, R35) := by
  refine vsound (T := ty) (F := [(39, R39)]) (pl := []) (nw := true) (cuts := []) mix tyOk (.cons (ok39) .nil) Try.func35 (by kernel_rfl) (by kernel_rfl) ?_
  rintro _ _ _ _ ⟨ex, l, rfl, rfl, hel, hll, rfl, rfl⟩
  conv => whnf
  rw [map_len]
  (refine And.intro ?_ ?_; ((first | (with_reducible assumption) | (intro _; with_reducible assumption) | omega | (simp only [reduceCtorEq, ints_len, bools_len, Bool.not_false, Bool.not_true, List.length_map, decide_eq_true_eq, decide_eq_false_iff_not, Bool.not_eq_true', Bool.not_eq_false', Bool.and_eq_true, Bool.or_eq_true, Bool.and_eq_false_iff, Bool.or_eq_false_iff, beq_iff_eq, bne_iff_ne, beq_eq_false_iff_ne, bne_eq_false_iff_eq, Int.not_lt, Int.not_le, ge_iff_le, gt_iff_lt, not_or, not_and, Bool.cond_true_right, Bool.cond_true_left, Bool.cond_false_right, Bool.cond_false_left, bif_t, bif_f] at *; omega) | (intro hg; (try simp only [reduceCtorEq, ints_len, bools_len, Bool.not_false, Bool.not_true, List.length_map, decide_eq_true_eq, decide_eq_false_iff_not, Bool.not_eq_true', Bool.not_eq_false', Bool.and_eq_true, Bool.or_eq_true, Bool.and_eq_false_iff, Bool.or_eq_false_iff, beq_iff_eq, bne_iff_ne, beq_eq_false_iff_ne, bne_eq_false_iff_eq, Int.not_lt, Int.not_le, ge_iff_le, gt_iff_lt, not_or, not_and, Bool.cond_true_right, Bool.cond_true_left, Bool.cond_false_right, Bool.cond_false_left, bif_t, bif_f] at hg); first | (with_reducible assumption) | omega | (simp only [reduceCtorEq, ints_len, bools_len, Bool.not_false, Bool.not_true, List.length_map, decide_eq_true_eq, decide_eq_false_iff_not, Bool.not_eq_true', Bool.not_eq_false', Bool.and_eq_true, Bool.or_eq_true, Bool.and_eq_false_iff, Bool.or_eq_false_iff, beq_iff_eq, bne_iff_ne, beq_eq_false_iff_ne, bne_eq_false_iff_eq, Int.not_lt, Int.not_le, ge_iff_le, gt_iff_lt, not_or, not_and, Bool.cond_true_right, Bool.cond_true_left, Bool.cond_false_right, Bool.cond_false_left, bif_t, bif_f] at *; omega) | (refine ⟨?_, ?_⟩ <;> omega)) | (refine ⟨?_, ?_⟩ <;> omega) | (simp [*]; done) | grind)); (conv => whnf))
  have hz : List.replicate ((ex.length : Nat) : Int).toNat [D.int .i64 0] = (wideTo ex.length 0).map inC := by
    rw [Int.toNat_natCast, wideTo, List.replicate_zero, List.nil_append, Nat.sub_zero, List.map_replicate]
  rw [hz]
  refine ⟨[], [0, 1, 6, 7], 1, fun n1 σ => ∃ i : Nat, i ≤ ex.length ∧ n1 = ex.length - i ∧ σ = (⟨[.one (.d (.sl 1 (ex.map inC))), .one (.d (.sl 1 (l.map inC))), .junk, .junk, .junk, .junk, .one (.own 0), .di .i64 i, .junk, .junk, .junk, .junk, .junk, .junk, .junk, .junk, .junk, .junk, .junk, .junk, .junk, .junk, .junk, .junk, .junk, .junk], [.row 1 ((wideTo ex.length i).map inC)]⟩ : St), ?_, ?_⟩
  · refine ⟨ex.length, ?_⟩
    conv => whnf
    exact ⟨0, by omega, by omega, rfl⟩
  · rintro n1 _ ⟨i, hi, rfl, rfl⟩
    conv => whnf
    have hwl := wideTo_len hi
    rw [map_len, hwl]
    ((with_reducible refine And.intro (fun (e : (_ : Bool) = true) => ?_) (fun (e : (_ : Bool) = false) => ?_)) <;> (try simp only [reduceCtorEq, ints_len, bools_len, Bool.not_false, Bool.not_true, List.length_map, decide_eq_true_eq, decide_eq_false_iff_not, Bool.not_eq_true', Bool.not_eq_false', Bool.and_eq_true, Bool.or_eq_true, Bool.and_eq_false_iff, Bool.or_eq_false_iff, beq_iff_eq, bne_iff_ne, beq_eq_false_iff_ne, bne_eq_false_iff_eq, Int.not_lt, Int.not_le, ge_iff_le, gt_iff_lt, not_or, not_and, Bool.cond_true_right, Bool.cond_true_left, Bool.cond_false_right, Bool.cond_false_left, bif_t, bif_f] at e) <;> (conv => whnf))
    · obtain ⟨x, hx⟩ := get_lt (l := wideTo ex.length i) (i := i) (by omega)
      have hset : ((wideTo ex.length i).map inC).set (i : Int).toNat [D.int .i64 400] = (wideTo ex.length (i + 1)).map inC := by
        rw [← wideTo_set (by omega), Int.toNat_natCast, List.map_set]
      refine And.intro ⟨by omega, by rw [map_len]; omega⟩ ?_
      show St.apply _ _ _ _ _ _ _
      unfold St.apply
      simp only [updsK, appK, putD, setK]
      unfold vcOps
      simp only [isLook, winAt]
      unfold actStep evM
      simp only [operand, nthK, strip]
      conv => whnf
      refine ⟨_, And.intro (enc_get hx) ?_⟩
      conv => whnf
      rw [hset]
      try conv => whnf
      (refine And.intro ?_ ?_; ((first | (with_reducible assumption) | (intro _; with_reducible assumption) | omega | (simp only [reduceCtorEq, ints_len, bools_len, Bool.not_false, Bool.not_true, List.length_map, decide_eq_true_eq, decide_eq_false_iff_not, Bool.not_eq_true', Bool.not_eq_false', Bool.and_eq_true, Bool.or_eq_true, Bool.and_eq_false_iff, Bool.or_eq_false_iff, beq_iff_eq, bne_iff_ne, beq_eq_false_iff_ne, bne_eq_false_iff_eq, Int.not_lt, Int.not_le, ge_iff_le, gt_iff_lt, not_or, not_and, Bool.cond_true_right, Bool.cond_true_left, Bool.cond_false_right, Bool.cond_false_left, bif_t, bif_f] at *; omega) | (intro hg; (try simp only [reduceCtorEq, ints_len, bools_len, Bool.not_false, Bool.not_true, List.length_map, decide_eq_true_eq, decide_eq_false_iff_not, Bool.not_eq_true', Bool.not_eq_false', Bool.and_eq_true, Bool.or_eq_true, Bool.and_eq_false_iff, Bool.or_eq_false_iff, beq_iff_eq, bne_iff_ne, beq_eq_false_iff_ne, bne_eq_false_iff_eq, Int.not_lt, Int.not_le, ge_iff_le, gt_iff_lt, not_or, not_and, Bool.cond_true_right, Bool.cond_true_left, Bool.cond_false_right, Bool.cond_false_left, bif_t, bif_f] at hg); first | (with_reducible assumption) | omega | (simp only [reduceCtorEq, ints_len, bools_len, Bool.not_false, Bool.not_true, List.length_map, decide_eq_true_eq, decide_eq_false_iff_not, Bool.not_eq_true', Bool.not_eq_false', Bool.and_eq_true, Bool.or_eq_true, Bool.and_eq_false_iff, Bool.or_eq_false_iff, beq_iff_eq, bne_iff_ne, beq_eq_false_iff_ne, bne_eq_false_iff_eq, Int.not_lt, Int.not_le, ge_iff_le, gt_iff_lt, not_or, not_and, Bool.cond_true_right, Bool.cond_true_left, Bool.cond_false_right, Bool.cond_false_left, bif_t, bif_f] at *; omega) | (refine ⟨?_, ?_⟩ <;> omega)) | (refine ⟨?_, ?_⟩ <;> omega) | (simp [*]; done) | grind)); (conv => whnf))
      refine ⟨ex.length - (i + 1), by omega, [], ?_⟩
      conv => whnf
      exact ⟨i + 1, by omega, rfl, rfl⟩
    · have hi' : i = ex.length := by omega
      have hw : wideTo ex.length i = wide ex.length := by rw [hi', wideTo, Nat.sub_self, List.replicate_zero, List.append_nil]; rfl
      rw [hw]
      (refine ⟨[], false, false, ?_⟩; (conv => whnf); refine ⟨_, _, ⟨ex, l, wide ex.length, rfl, rfl, hel, hll, by rw [wide, List.length_replicate]; exact hel, rfl, rfl⟩, ?_⟩; (conv => whnf))
      refine ⟨ints_free _, ?_⟩
      conv => whnf
      refine ⟨[], ?_⟩
      conv => whnf
      exact ⟨[1], by simp, .cons ⟨_, rfl, rfl, rfl⟩ .nil, .cons rfl (.cons rfl .nil)⟩
def R37 : Ct := fun ss hp r out => ∃ (e z : List Int), ss = [.one (.d (.sl 1 (e.map inC))), .one (.d (.sl 1 (z.map inC)))] ∧ hp = [] ∧ e.length ≤ 1000000 ∧ z.length ≤ 1000000 ∧ r = .tup [.c (.own 0), .c (.d (.int .i64 (if bothOk e (upTo e.length) z then 0 else 2)))] ∧ out = [.row 1 ((bothR e (upTo e.length) z).map inC)]
set_option maxHeartbeats 4000000 in
theorem ok37 : VSound Try.prog (37, R37) := by
  refine vsound (T := ty) (F := [(39, R39)]) (pl := []) (nw := true) (cuts := []) mix tyOk (.cons (ok39) .nil) Try.func37 (by kernel_rfl) (by kernel_rfl) ?_
  rintro _ _ _ _ ⟨ex, z, rfl, rfl, hel, hzl, rfl, rfl⟩
  conv => whnf
  refine ⟨[.slot 6 true], [0, 1, 6, 7], 1, fun n1 σ => ∃ i : Nat, i ≤ ex.length ∧ n1 = ex.length - i ∧ σ = (⟨[.one (.d (.sl 1 (ex.map inC))), .one (.d (.sl 1 (z.map inC))), .junk, .junk, .junk, .junk, .one (.own 0), .di .i64 i, .junk, .junk, .junk, .junk, .junk, .junk, .junk, .junk, .junk, .junk, .junk, .junk, .junk, .junk, .junk, .junk], [.row 1 ((upTo i).map inC)]⟩ : St), ?_, ?_⟩
  · refine ⟨ex.length, ?_⟩
    conv => whnf
    exact ⟨0, by omega, by omega, rfl⟩
  · rintro n1 _ ⟨i, hi, rfl, rfl⟩
    conv => whnf
    rw [map_len]
    ((with_reducible refine And.intro (fun (e : (_ : Bool) = true) => ?_) (fun (e : (_ : Bool) = false) => ?_)) <;> (try simp only [reduceCtorEq, ints_len, bools_len, Bool.not_false, Bool.not_true, List.length_map, decide_eq_true_eq, decide_eq_false_iff_not, Bool.not_eq_true', Bool.not_eq_false', Bool.and_eq_true, Bool.or_eq_true, Bool.and_eq_false_iff, Bool.or_eq_false_iff, beq_iff_eq, bne_iff_ne, beq_eq_false_iff_ne, bne_eq_false_iff_eq, Int.not_lt, Int.not_le, ge_iff_le, gt_iff_lt, not_or, not_and, Bool.cond_true_right, Bool.cond_true_left, Bool.cond_false_right, Bool.cond_false_left, bif_t, bif_f] at e) <;> (conv => whnf))
    · refine ⟨by rw [map_len, upTo_len]; simp only [List.length_cons, List.length_nil]; omega, ?_⟩
      conv => whnf
      (refine And.intro ?_ ?_; ((first | (with_reducible assumption) | (intro _; with_reducible assumption) | omega | (simp only [reduceCtorEq, ints_len, bools_len, Bool.not_false, Bool.not_true, List.length_map, decide_eq_true_eq, decide_eq_false_iff_not, Bool.not_eq_true', Bool.not_eq_false', Bool.and_eq_true, Bool.or_eq_true, Bool.and_eq_false_iff, Bool.or_eq_false_iff, beq_iff_eq, bne_iff_ne, beq_eq_false_iff_ne, bne_eq_false_iff_eq, Int.not_lt, Int.not_le, ge_iff_le, gt_iff_lt, not_or, not_and, Bool.cond_true_right, Bool.cond_true_left, Bool.cond_false_right, Bool.cond_false_left, bif_t, bif_f] at *; omega) | (intro hg; (try simp only [reduceCtorEq, ints_len, bools_len, Bool.not_false, Bool.not_true, List.length_map, decide_eq_true_eq, decide_eq_false_iff_not, Bool.not_eq_true', Bool.not_eq_false', Bool.and_eq_true, Bool.or_eq_true, Bool.and_eq_false_iff, Bool.or_eq_false_iff, beq_iff_eq, bne_iff_ne, beq_eq_false_iff_ne, bne_eq_false_iff_eq, Int.not_lt, Int.not_le, ge_iff_le, gt_iff_lt, not_or, not_and, Bool.cond_true_right, Bool.cond_true_left, Bool.cond_false_right, Bool.cond_false_left, bif_t, bif_f] at hg); first | (with_reducible assumption) | omega | (simp only [reduceCtorEq, ints_len, bools_len, Bool.not_false, Bool.not_true, List.length_map, decide_eq_true_eq, decide_eq_false_iff_not, Bool.not_eq_true', Bool.not_eq_false', Bool.and_eq_true, Bool.or_eq_true, Bool.and_eq_false_iff, Bool.or_eq_false_iff, beq_iff_eq, bne_iff_ne, beq_eq_false_iff_ne, bne_eq_false_iff_eq, Int.not_lt, Int.not_le, ge_iff_le, gt_iff_lt, not_or, not_and, Bool.cond_true_right, Bool.cond_true_left, Bool.cond_false_right, Bool.cond_false_left, bif_t, bif_f] at *; omega) | (refine ⟨?_, ?_⟩ <;> omega)) | (refine ⟨?_, ?_⟩ <;> omega) | (simp [*]; done) | grind)); (conv => whnf))
      refine ⟨ex.length - (i + 1), by omega, [], ?_⟩
      conv => whnf
      refine ⟨i + 1, by omega, rfl, ?_⟩
      rw [upTo_succ, List.map_append]; rfl
    · have hi' : i = ex.length := by omega
      rw [hi']
      (refine ⟨[], false, false, ?_⟩; (conv => whnf); refine ⟨_, _, ⟨ex, upTo ex.length, z, rfl, rfl, hel, by rw [upTo_len]; exact hel, hzl, rfl, rfl⟩, ?_⟩; (conv => whnf))
      refine ⟨ints_free _, ?_⟩
      conv => whnf
      refine ⟨[], ?_⟩
      conv => whnf
      exact ⟨[1], by simp, .cons ⟨_, rfl, rfl, rfl⟩ .nil, .cons rfl (.cons rfl .nil)⟩
def R40 : Ct := fun ss hp r out => ∃ (e l : List Int), ss = [.one (.d (.sl 1 (e.map inC))), .one (.d (.sl 1 (l.map inC)))] ∧ hp = [] ∧ e.length ≤ 1000000 ∧ l.length ≤ 1000000 ∧ r = .db (decide (0 ≤ many e) && isOrd l (many e).toNat) ∧ out = []
set_option maxHeartbeats 4000000 in
theorem ok40 : VSound Try.prog (40, R40) := by
  refine vsound (T := ty) (F := [(65, R65), (70, R70)]) (pl := []) (nw := true) (cuts := []) mix tyOk (.cons (ok65) (.cons (ok70) .nil)) Try.func40 (by kernel_rfl) (by kernel_rfl) ?_
  rintro _ _ _ _ ⟨ex, l, rfl, rfl, hel, hll, rfl, rfl⟩
  conv => whnf
  (refine ⟨[], false, false, ?_⟩; (conv => whnf); refine ⟨_, _, ⟨ex, rfl, rfl, by omega, rfl, rfl⟩, ?_⟩; (conv => whnf))
  (repeat (refine And.intro ?_ ?_; ((first | (with_reducible assumption) | (intro _; with_reducible assumption) | omega | (simp only [reduceCtorEq, ints_len, bools_len, Bool.not_false, Bool.not_true, List.length_map, decide_eq_true_eq, decide_eq_false_iff_not, Bool.not_eq_true', Bool.not_eq_false', Bool.and_eq_true, Bool.or_eq_true, Bool.and_eq_false_iff, Bool.or_eq_false_iff, beq_iff_eq, bne_iff_ne, beq_eq_false_iff_ne, bne_eq_false_iff_eq, Int.not_lt, Int.not_le, ge_iff_le, gt_iff_lt, not_or, not_and, Bool.cond_true_right, Bool.cond_true_left, Bool.cond_false_right, Bool.cond_false_left, bif_t, bif_f] at *; omega) | (intro hg; (try simp only [reduceCtorEq, ints_len, bools_len, Bool.not_false, Bool.not_true, List.length_map, decide_eq_true_eq, decide_eq_false_iff_not, Bool.not_eq_true', Bool.not_eq_false', Bool.and_eq_true, Bool.or_eq_true, Bool.and_eq_false_iff, Bool.or_eq_false_iff, beq_iff_eq, bne_iff_ne, beq_eq_false_iff_ne, bne_eq_false_iff_eq, Int.not_lt, Int.not_le, ge_iff_le, gt_iff_lt, not_or, not_and, Bool.cond_true_right, Bool.cond_true_left, Bool.cond_false_right, Bool.cond_false_left, bif_t, bif_f] at hg); first | (with_reducible assumption) | omega | (simp only [reduceCtorEq, ints_len, bools_len, Bool.not_false, Bool.not_true, List.length_map, decide_eq_true_eq, decide_eq_false_iff_not, Bool.not_eq_true', Bool.not_eq_false', Bool.and_eq_true, Bool.or_eq_true, Bool.and_eq_false_iff, Bool.or_eq_false_iff, beq_iff_eq, bne_iff_ne, beq_eq_false_iff_ne, bne_eq_false_iff_eq, Int.not_lt, Int.not_le, ge_iff_le, gt_iff_lt, not_or, not_and, Bool.cond_true_right, Bool.cond_true_left, Bool.cond_false_right, Bool.cond_false_left, bif_t, bif_f] at *; omega) | (refine ⟨?_, ?_⟩ <;> omega)) | (refine ⟨?_, ?_⟩ <;> omega) | (simp [*]; done) | grind)); (conv => whnf)))
  refine ⟨fun e => ?_, fun e => ?_⟩
  · have e1 : 0 ≤ many ex := by simpa using e
    obtain ⟨b1, b2, b3, b4, b5⟩ := many_ok e1
    conv => whnf
    (repeat (refine And.intro ?_ ?_; ((first | (with_reducible assumption) | (intro _; with_reducible assumption) | omega | (simp only [reduceCtorEq, ints_len, bools_len, Bool.not_false, Bool.not_true, List.length_map, decide_eq_true_eq, decide_eq_false_iff_not, Bool.not_eq_true', Bool.not_eq_false', Bool.and_eq_true, Bool.or_eq_true, Bool.and_eq_false_iff, Bool.or_eq_false_iff, beq_iff_eq, bne_iff_ne, beq_eq_false_iff_ne, bne_eq_false_iff_eq, Int.not_lt, Int.not_le, ge_iff_le, gt_iff_lt, not_or, not_and, Bool.cond_true_right, Bool.cond_true_left, Bool.cond_false_right, Bool.cond_false_left, bif_t, bif_f] at *; omega) | (intro hg; (try simp only [reduceCtorEq, ints_len, bools_len, Bool.not_false, Bool.not_true, List.length_map, decide_eq_true_eq, decide_eq_false_iff_not, Bool.not_eq_true', Bool.not_eq_false', Bool.and_eq_true, Bool.or_eq_true, Bool.and_eq_false_iff, Bool.or_eq_false_iff, beq_iff_eq, bne_iff_ne, beq_eq_false_iff_ne, bne_eq_false_iff_eq, Int.not_lt, Int.not_le, ge_iff_le, gt_iff_lt, not_or, not_and, Bool.cond_true_right, Bool.cond_true_left, Bool.cond_false_right, Bool.cond_false_left, bif_t, bif_f] at hg); first | (with_reducible assumption) | omega | (simp only [reduceCtorEq, ints_len, bools_len, Bool.not_false, Bool.not_true, List.length_map, decide_eq_true_eq, decide_eq_false_iff_not, Bool.not_eq_true', Bool.not_eq_false', Bool.and_eq_true, Bool.or_eq_true, Bool.and_eq_false_iff, Bool.or_eq_false_iff, beq_iff_eq, bne_iff_ne, beq_eq_false_iff_ne, bne_eq_false_iff_eq, Int.not_lt, Int.not_le, ge_iff_le, gt_iff_lt, not_or, not_and, Bool.cond_true_right, Bool.cond_true_left, Bool.cond_false_right, Bool.cond_false_left, bif_t, bif_f] at *; omega) | (refine ⟨?_, ?_⟩ <;> omega)) | (refine ⟨?_, ?_⟩ <;> omega) | (simp [*]; done) | grind)); (conv => whnf)))
    (refine ⟨[], false, false, ?_⟩; (conv => whnf); refine ⟨_, _, ⟨l, (many ex).toNat, by rw [Int.toNat_of_nonneg e1]; rfl, rfl, hll, by omega, rfl, rfl⟩, ?_⟩; (conv => whnf))
    (refine ⟨[], ?_⟩; (conv => whnf); refine ⟨[], .nil, .nil, ?_⟩; (conv => whnf))
    congr 1
    simp [e1]
  · have e0 : decide (many ex ≥ 0) = false := e
    have e1 : ¬0 ≤ many ex := by simpa using e0
    conv => whnf
    refine ⟨e0, ?_⟩
    conv => whnf
    (refine ⟨[], ?_⟩; (conv => whnf); refine ⟨[], .nil, .nil, ?_⟩; (conv => whnf))
    congr 1
    simp [e1]
def R41 : Ct := fun ss hp r out => ∃ (e l : List Int), ss = [.one (.d (.sl 1 (e.map inC))), .one (.d (.sl 1 (l.map inC)))] ∧ hp = [] ∧ e.length ≤ 1000000 ∧ l.length ≤ 1000000 ∧ r = .db (decide (0 ≤ many e) && isOrd l (many e).toNat) ∧ out = []
set_option maxHeartbeats 4000000 in
theorem ok41 : VSound Try.prog (41, R41) := by
  refine vsound (T := ty) (F := [(71, R71), (78, R78)]) (pl := []) (nw := true) (cuts := []) mix tyOk (.cons (ok71) (.cons (ok78) .nil)) Try.func41 (by kernel_rfl) (by kernel_rfl) ?_
  rintro _ _ _ _ ⟨ex, l, rfl, rfl, hel, hll, rfl, rfl⟩
  conv => whnf
  (refine ⟨[], false, false, ?_⟩; (conv => whnf); refine ⟨_, _, ⟨ex, rfl, rfl, by omega, rfl, rfl⟩, ?_⟩; (conv => whnf))
  (repeat (refine And.intro ?_ ?_; ((first | (with_reducible assumption) | (intro _; with_reducible assumption) | omega | (simp only [reduceCtorEq, ints_len, bools_len, Bool.not_false, Bool.not_true, List.length_map, decide_eq_true_eq, decide_eq_false_iff_not, Bool.not_eq_true', Bool.not_eq_false', Bool.and_eq_true, Bool.or_eq_true, Bool.and_eq_false_iff, Bool.or_eq_false_iff, beq_iff_eq, bne_iff_ne, beq_eq_false_iff_ne, bne_eq_false_iff_eq, Int.not_lt, Int.not_le, ge_iff_le, gt_iff_lt, not_or, not_and, Bool.cond_true_right, Bool.cond_true_left, Bool.cond_false_right, Bool.cond_false_left, bif_t, bif_f] at *; omega) | (intro hg; (try simp only [reduceCtorEq, ints_len, bools_len, Bool.not_false, Bool.not_true, List.length_map, decide_eq_true_eq, decide_eq_false_iff_not, Bool.not_eq_true', Bool.not_eq_false', Bool.and_eq_true, Bool.or_eq_true, Bool.and_eq_false_iff, Bool.or_eq_false_iff, beq_iff_eq, bne_iff_ne, beq_eq_false_iff_ne, bne_eq_false_iff_eq, Int.not_lt, Int.not_le, ge_iff_le, gt_iff_lt, not_or, not_and, Bool.cond_true_right, Bool.cond_true_left, Bool.cond_false_right, Bool.cond_false_left, bif_t, bif_f] at hg); first | (with_reducible assumption) | omega | (simp only [reduceCtorEq, ints_len, bools_len, Bool.not_false, Bool.not_true, List.length_map, decide_eq_true_eq, decide_eq_false_iff_not, Bool.not_eq_true', Bool.not_eq_false', Bool.and_eq_true, Bool.or_eq_true, Bool.and_eq_false_iff, Bool.or_eq_false_iff, beq_iff_eq, bne_iff_ne, beq_eq_false_iff_ne, bne_eq_false_iff_eq, Int.not_lt, Int.not_le, ge_iff_le, gt_iff_lt, not_or, not_and, Bool.cond_true_right, Bool.cond_true_left, Bool.cond_false_right, Bool.cond_false_left, bif_t, bif_f] at *; omega) | (refine ⟨?_, ?_⟩ <;> omega)) | (refine ⟨?_, ?_⟩ <;> omega) | (simp [*]; done) | grind)); (conv => whnf)))
  refine ⟨fun e => ?_, fun e => ?_⟩
  · have e1 : 0 ≤ many ex := by simpa using e
    obtain ⟨b1, b2, b3, b4, b5⟩ := many_ok e1
    conv => whnf
    (repeat (refine And.intro ?_ ?_; ((first | (with_reducible assumption) | (intro _; with_reducible assumption) | omega | (simp only [reduceCtorEq, ints_len, bools_len, Bool.not_false, Bool.not_true, List.length_map, decide_eq_true_eq, decide_eq_false_iff_not, Bool.not_eq_true', Bool.not_eq_false', Bool.and_eq_true, Bool.or_eq_true, Bool.and_eq_false_iff, Bool.or_eq_false_iff, beq_iff_eq, bne_iff_ne, beq_eq_false_iff_ne, bne_eq_false_iff_eq, Int.not_lt, Int.not_le, ge_iff_le, gt_iff_lt, not_or, not_and, Bool.cond_true_right, Bool.cond_true_left, Bool.cond_false_right, Bool.cond_false_left, bif_t, bif_f] at *; omega) | (intro hg; (try simp only [reduceCtorEq, ints_len, bools_len, Bool.not_false, Bool.not_true, List.length_map, decide_eq_true_eq, decide_eq_false_iff_not, Bool.not_eq_true', Bool.not_eq_false', Bool.and_eq_true, Bool.or_eq_true, Bool.and_eq_false_iff, Bool.or_eq_false_iff, beq_iff_eq, bne_iff_ne, beq_eq_false_iff_ne, bne_eq_false_iff_eq, Int.not_lt, Int.not_le, ge_iff_le, gt_iff_lt, not_or, not_and, Bool.cond_true_right, Bool.cond_true_left, Bool.cond_false_right, Bool.cond_false_left, bif_t, bif_f] at hg); first | (with_reducible assumption) | omega | (simp only [reduceCtorEq, ints_len, bools_len, Bool.not_false, Bool.not_true, List.length_map, decide_eq_true_eq, decide_eq_false_iff_not, Bool.not_eq_true', Bool.not_eq_false', Bool.and_eq_true, Bool.or_eq_true, Bool.and_eq_false_iff, Bool.or_eq_false_iff, beq_iff_eq, bne_iff_ne, beq_eq_false_iff_ne, bne_eq_false_iff_eq, Int.not_lt, Int.not_le, ge_iff_le, gt_iff_lt, not_or, not_and, Bool.cond_true_right, Bool.cond_true_left, Bool.cond_false_right, Bool.cond_false_left, bif_t, bif_f] at *; omega) | (refine ⟨?_, ?_⟩ <;> omega)) | (refine ⟨?_, ?_⟩ <;> omega) | (simp [*]; done) | grind)); (conv => whnf)))
    (refine ⟨[], false, false, ?_⟩; (conv => whnf); refine ⟨_, _, ⟨l, (many ex).toNat, by rw [Int.toNat_of_nonneg e1]; rfl, rfl, hll, by omega, rfl, rfl⟩, ?_⟩; (conv => whnf))
    (refine ⟨[], ?_⟩; (conv => whnf); refine ⟨[], .nil, .nil, ?_⟩; (conv => whnf))
    congr 1
    simp [e1]
  · have e0 : decide (many ex ≥ 0) = false := e
    have e1 : ¬0 ≤ many ex := by simpa using e0
    conv => whnf
    refine ⟨e0, ?_⟩
    conv => whnf
    (refine ⟨[], ?_⟩; (conv => whnf); refine ⟨[], .nil, .nil, ?_⟩; (conv => whnf))
    congr 1
    simp [e1]
end Go.Proofs.Ytahdihhhankhdaa.V

