/-
  V: Blend, SameInts. By the session's own hand.
-/
import Derived.Test.YtahdihhhankhdaaVq
set_option linter.unusedVariables false
set_option linter.unusedSimpArgs false
set_option maxRecDepth 100000
set_option linter.all false
set_option linter.unnecessarySimpa false
set_option linter.deprecated false
namespace Go.Proofs.Ytahdihhhankhdaa.V
open Go.Proofs.YtahdihhhankhdaaVY Go.RowKit
def R22 : Ct := fun ss hp r out => ∃ a b : List Int, ss = [.one (.d (.sl 1 (a.map inC))), .one (.d (.sl 1 (b.map inC)))] ∧ hp = [] ∧ a.length < 4611686018427387904 ∧ r = .db (decide (a = b)) ∧ out = []
set_option maxHeartbeats 4000000 in
theorem ok22 : VSound Try.prog (22, R22) := by
  refine vsound (T := ty) (F := []) (pl := [(6, [[], [], [0, 1], [0, 1, 2], [], [], [4, 5], [4, 5, 6], [0, 1, 2, 3, 4, 5, 6, 7]], .look 0 (.look 1 (.look 2 (.look 3 (.look 4 (.look 5 (.look 6 (.look 7 (.look 8 .done)))))))))]) (nw := true) (cuts := []) mix tyOk .nil Try.func22 (by kernel_rfl) (by kernel_rfl) ?_
  rintro _ _ _ _ ⟨a, b, rfl, rfl, hl, rfl, rfl⟩
  conv => whnf
  ((with_reducible refine And.intro (fun (e : (_ : Bool) = true) => ?_) (fun (e : (_ : Bool) = false) => ?_)) <;> (try simp only [reduceCtorEq, ints_len, bools_len, Bool.not_false, Bool.not_true, List.length_map, decide_eq_true_eq, decide_eq_false_iff_not, Bool.not_eq_true', Bool.not_eq_false', Bool.and_eq_true, Bool.or_eq_true, Bool.and_eq_false_iff, Bool.or_eq_false_iff, beq_iff_eq, bne_iff_ne, beq_eq_false_iff_ne, bne_eq_false_iff_eq, Int.not_lt, Int.not_le, ge_iff_le, gt_iff_lt, not_or, not_and, Bool.cond_true_right, Bool.cond_true_left, Bool.cond_false_right, Bool.cond_false_left, bif_t, bif_f] at e) <;> (conv => whnf))
  · (refine ⟨[], ?_⟩; (conv => whnf); refine ⟨[], .nil, .nil, ?_⟩; (conv => whnf))
    congr 1
    refine (decide_eq_false ?_).symm
    rintro rfl
    exact e rfl
  · have e1 := e
    refine ⟨[], [0, 1, 5], 0, fun n1 σ => ∃ i : Nat, i ≤ a.length ∧ n1 = a.length - i ∧ (∀ j < i, a[j]? = b[j]?) ∧ σ = (⟨[.one (.d (.sl 1 (a.map inC))), .one (.d (.sl 1 (b.map inC))), .junk, .junk, .junk, .di .i64 i, .junk, .junk, .junk, .junk, .junk, .junk, .junk, .junk, .junk, .junk, .junk, .junk, .junk, .junk, .junk, .junk, .junk, .junk, .junk, .junk], []⟩ : St), ?_, ?_⟩
    · refine ⟨a.length, ?_⟩
      conv => whnf
      exact ⟨0, by omega, by omega, by omega, rfl⟩
    · rintro n1 _ ⟨i, hi, rfl, hall, rfl⟩
      conv => whnf
      ((with_reducible refine And.intro (fun (e : (_ : Bool) = true) => ?_) (fun (e : (_ : Bool) = false) => ?_)) <;> (try simp only [reduceCtorEq, ints_len, bools_len, Bool.not_false, Bool.not_true, List.length_map, decide_eq_true_eq, decide_eq_false_iff_not, Bool.not_eq_true', Bool.not_eq_false', Bool.and_eq_true, Bool.or_eq_true, Bool.and_eq_false_iff, Bool.or_eq_false_iff, beq_iff_eq, bne_iff_ne, beq_eq_false_iff_ne, bne_eq_false_iff_eq, Int.not_lt, Int.not_le, ge_iff_le, gt_iff_lt, not_or, not_and, Bool.cond_true_right, Bool.cond_true_left, Bool.cond_false_right, Bool.cond_false_left, bif_t, bif_f] at e) <;> (conv => whnf))
      · obtain ⟨y, hy⟩ := get_lt (l := a) (i := i) (by omega)
        obtain ⟨z, hz⟩ := get_lt (l := b) (i := i) (by omega)
        refine ⟨_, And.intro ⟨?_, enc_get hy⟩ ?_⟩
        · omega
        conv => whnf
        refine ⟨_, And.intro ⟨?_, enc_get hz⟩ ?_⟩
        · omega
        conv => whnf
        ((with_reducible refine And.intro (fun (e : (_ : Bool) = true) => ?_) (fun (e : (_ : Bool) = false) => ?_)) <;> (try simp only [reduceCtorEq, ints_len, bools_len, Bool.not_false, Bool.not_true, List.length_map, decide_eq_true_eq, decide_eq_false_iff_not, Bool.not_eq_true', Bool.not_eq_false', Bool.and_eq_true, Bool.or_eq_true, Bool.and_eq_false_iff, Bool.or_eq_false_iff, beq_iff_eq, bne_iff_ne, beq_eq_false_iff_ne, bne_eq_false_iff_eq, Int.not_lt, Int.not_le, ge_iff_le, gt_iff_lt, not_or, not_and, Bool.cond_true_right, Bool.cond_true_left, Bool.cond_false_right, Bool.cond_false_left, bif_t, bif_f] at e) <;> (conv => whnf))
        · have e2 := e
          (refine ⟨[], ?_⟩; (conv => whnf); refine ⟨[], .nil, .nil, ?_⟩; (conv => whnf))
          congr 1
          refine (decide_eq_false ?_).symm
          rintro rfl
          rw [hy] at hz; cases hz
          exact e2 rfl
        · have e2 := e
          (refine And.intro ?_ ?_; ((first | (with_reducible assumption) | (intro _; with_reducible assumption) | omega | (simp only [reduceCtorEq, ints_len, bools_len, Bool.not_false, Bool.not_true, List.length_map, decide_eq_true_eq, decide_eq_false_iff_not, Bool.not_eq_true', Bool.not_eq_false', Bool.and_eq_true, Bool.or_eq_true, Bool.and_eq_false_iff, Bool.or_eq_false_iff, beq_iff_eq, bne_iff_ne, beq_eq_false_iff_ne, bne_eq_false_iff_eq, Int.not_lt, Int.not_le, ge_iff_le, gt_iff_lt, not_or, not_and, Bool.cond_true_right, Bool.cond_true_left, Bool.cond_false_right, Bool.cond_false_left, bif_t, bif_f] at *; omega) | (intro hg; (try simp only [reduceCtorEq, ints_len, bools_len, Bool.not_false, Bool.not_true, List.length_map, decide_eq_true_eq, decide_eq_false_iff_not, Bool.not_eq_true', Bool.not_eq_false', Bool.and_eq_true, Bool.or_eq_true, Bool.and_eq_false_iff, Bool.or_eq_false_iff, beq_iff_eq, bne_iff_ne, beq_eq_false_iff_ne, bne_eq_false_iff_eq, Int.not_lt, Int.not_le, ge_iff_le, gt_iff_lt, not_or, not_and, Bool.cond_true_right, Bool.cond_true_left, Bool.cond_false_right, Bool.cond_false_left, bif_t, bif_f] at hg); first | (with_reducible assumption) | omega | (simp only [reduceCtorEq, ints_len, bools_len, Bool.not_false, Bool.not_true, List.length_map, decide_eq_true_eq, decide_eq_false_iff_not, Bool.not_eq_true', Bool.not_eq_false', Bool.and_eq_true, Bool.or_eq_true, Bool.and_eq_false_iff, Bool.or_eq_false_iff, beq_iff_eq, bne_iff_ne, beq_eq_false_iff_ne, bne_eq_false_iff_eq, Int.not_lt, Int.not_le, ge_iff_le, gt_iff_lt, not_or, not_and, Bool.cond_true_right, Bool.cond_true_left, Bool.cond_false_right, Bool.cond_false_left, bif_t, bif_f] at *; omega) | (refine ⟨?_, ?_⟩ <;> omega)) | (refine ⟨?_, ?_⟩ <;> omega) | (simp [*]; done) | grind)); (conv => whnf))
          refine ⟨a.length - (i + 1), by omega, [], ?_⟩
          conv => whnf
          refine ⟨i + 1, by omega, rfl, fun j hj => ?_, rfl⟩
          by_cases ej : j = i
          · subst ej; rw [hy, hz, e2]
          · exact hall j (by omega)
      · (refine ⟨[], ?_⟩; (conv => whnf); refine ⟨[], .nil, .nil, ?_⟩; (conv => whnf))
        congr 1
        refine (decide_eq_true ?_).symm
        apply List.ext_getElem?
        intro j
        by_cases hj : j < a.length
        · exact hall j (by omega)
        · rw [List.getElem?_eq_none (by omega), List.getElem?_eq_none (by omega)]
def R20 : Ct := fun ss hp r out => ∃ (m : List Bool) (a b : List Int), ss = [.one (.d (.sl 1 (m.map boC))), .one (.d (.sl 1 (a.map inC))), .one (.d (.sl 1 (b.map inC)))] ∧ hp = [] ∧ m.length ≤ 4194304 ∧ b.length ≤ 4194304 ∧ r = .tup [.c (.own 0), .c (.d (.int .i64 (if blendOk m a b then 0 else 2)))] ∧ out = [.row 1 ((blend m a b).map inC)]
set_option maxHeartbeats 4000000 in
theorem ok20 : VSound Try.prog (20, R20) := by
  refine vsound (T := ty) (F := [(64, R64)]) (pl := []) (nw := true) (cuts := []) mix tyOk (.cons (ok64) .nil) Try.func20 (by kernel_rfl) (by kernel_rfl) ?_
  rintro _ _ _ _ ⟨m, a, b, rfl, rfl, hm, hb, rfl, rfl⟩
  conv => whnf
  (repeat' (first | ((with_reducible refine And.intro (fun (e : (_ : Bool) = true) => ?_) (fun (e : (_ : Bool) = false) => ?_)) <;> (try simp only [reduceCtorEq, ints_len, bools_len, Bool.not_false, Bool.not_true, List.length_map, decide_eq_true_eq, decide_eq_false_iff_not, Bool.not_eq_true', Bool.not_eq_false', Bool.and_eq_true, Bool.or_eq_true, Bool.and_eq_false_iff, Bool.or_eq_false_iff, beq_iff_eq, bne_iff_ne, beq_eq_false_iff_ne, bne_eq_false_iff_eq, Int.not_lt, Int.not_le, ge_iff_le, gt_iff_lt, not_or, not_and, Bool.cond_true_right, Bool.cond_true_left, Bool.cond_false_right, Bool.cond_false_left, bif_t, bif_f] at e) <;> (conv => whnf)) | (refine And.intro ?_ ?_; ((first | (with_reducible assumption) | (intro _; with_reducible assumption) | omega | (simp only [reduceCtorEq, ints_len, bools_len, Bool.not_false, Bool.not_true, List.length_map, decide_eq_true_eq, decide_eq_false_iff_not, Bool.not_eq_true', Bool.not_eq_false', Bool.and_eq_true, Bool.or_eq_true, Bool.and_eq_false_iff, Bool.or_eq_false_iff, beq_iff_eq, bne_iff_ne, beq_eq_false_iff_ne, bne_eq_false_iff_eq, Int.not_lt, Int.not_le, ge_iff_le, gt_iff_lt, not_or, not_and, Bool.cond_true_right, Bool.cond_true_left, Bool.cond_false_right, Bool.cond_false_left, bif_t, bif_f] at *; omega) | (intro hg; (try simp only [reduceCtorEq, ints_len, bools_len, Bool.not_false, Bool.not_true, List.length_map, decide_eq_true_eq, decide_eq_false_iff_not, Bool.not_eq_true', Bool.not_eq_false', Bool.and_eq_true, Bool.or_eq_true, Bool.and_eq_false_iff, Bool.or_eq_false_iff, beq_iff_eq, bne_iff_ne, beq_eq_false_iff_ne, bne_eq_false_iff_eq, Int.not_lt, Int.not_le, ge_iff_le, gt_iff_lt, not_or, not_and, Bool.cond_true_right, Bool.cond_true_left, Bool.cond_false_right, Bool.cond_false_left, bif_t, bif_f] at hg); first | (with_reducible assumption) | omega | (simp only [reduceCtorEq, ints_len, bools_len, Bool.not_false, Bool.not_true, List.length_map, decide_eq_true_eq, decide_eq_false_iff_not, Bool.not_eq_true', Bool.not_eq_false', Bool.and_eq_true, Bool.or_eq_true, Bool.and_eq_false_iff, Bool.or_eq_false_iff, beq_iff_eq, bne_iff_ne, beq_eq_false_iff_ne, bne_eq_false_iff_eq, Int.not_lt, Int.not_le, ge_iff_le, gt_iff_lt, not_or, not_and, Bool.cond_true_right, Bool.cond_true_left, Bool.cond_false_right, Bool.cond_false_left, bif_t, bif_f] at *; omega) | (refine ⟨?_, ?_⟩ <;> omega)) | (refine ⟨?_, ?_⟩ <;> omega) | (simp [*]; done) | grind)); (conv => whnf))))
  · have e1 := e
    have ho : blendOk m a b = false := by unfold blendOk; exact decide_eq_false (by omega)
    refine ⟨[.slot 6 true], ?_⟩
    conv => whnf
    refine ⟨[0], by simp, .cons ⟨_, rfl, rfl, ?_⟩ .nil, .cons rfl (.cons ?_ .nil)⟩
    · unfold blend; rw [ho]; rfl
    · rw [ho]; rfl
  · have e1 := e
    have ho : blendOk m a b = true := by unfold blendOk; exact decide_eq_true (by omega)
    have hB : blend m a b = blendTo m a b m.length := by unfold blend; rw [if_pos ho]
    rw [ho, hB]
    refine ⟨[], false, false, ?_⟩
    conv => whnf
    refine ⟨_, _, ⟨b, rfl, rfl, hb, rfl, rfl⟩, ?_⟩
    conv => whnf
    refine ⟨[], [1, 8, 25, 26, 27], 1, fun n1 σ => ∃ (i : Nat) (Q : List Int), i ≤ m.length ∧ n1 = m.length - i ∧ Q.length = m.length ∧ Q.take i = blendTo m a b i ∧ Q.drop i = b.drop i ∧ σ = (⟨[.junk, .one (.d (.sl 1 (a.map inC))), .junk, .junk, .junk, .junk, .junk, .junk, .one (.own 0), .junk, .junk, .junk, .junk, .junk, .junk, .junk, .junk, .junk, .junk, .junk, .junk, .junk, .junk, .junk, .junk, .one (.d (.sl 1 (m.map boC))), .di .i64 m.length, .di .i64 i, .junk, .junk, .junk, .junk, .junk, .junk, .junk, .junk, .junk, .junk, .junk, .junk, .junk, .junk], [.row 1 (Q.map inC)]⟩ : St), ?_, ?_⟩
    · refine ⟨m.length, ?_⟩
      conv => whnf
      refine ⟨0, b, by omega, by omega, by omega, rfl, rfl, ?_⟩
      rw [map_len]; rfl
    · rintro n1 _ ⟨i, Q, hi, rfl, hQ, hT, hD, rfl⟩
      conv => whnf
      ((with_reducible refine And.intro (fun (e : (_ : Bool) = true) => ?_) (fun (e : (_ : Bool) = false) => ?_)) <;> (try simp only [reduceCtorEq, ints_len, bools_len, Bool.not_false, Bool.not_true, List.length_map, decide_eq_true_eq, decide_eq_false_iff_not, Bool.not_eq_true', Bool.not_eq_false', Bool.and_eq_true, Bool.or_eq_true, Bool.and_eq_false_iff, Bool.or_eq_false_iff, beq_iff_eq, bne_iff_ne, beq_eq_false_iff_ne, bne_eq_false_iff_eq, Int.not_lt, Int.not_le, ge_iff_le, gt_iff_lt, not_or, not_and, Bool.cond_true_right, Bool.cond_true_left, Bool.cond_false_right, Bool.cond_false_left, bif_t, bif_f] at e) <;> (conv => whnf))
      · obtain ⟨x, hx⟩ := get_lt (l := m) (i := i) (by omega)
        obtain ⟨y, hy⟩ := get_lt (l := a) (i := i) (by omega)
        obtain ⟨z, hz⟩ := get_lt (l := b) (i := i) (by omega)
        have hQz : Q[i]? = some z := by
          have : (Q.drop i)[0]? = (b.drop i)[0]? := by rw [hD]
          rw [List.getElem?_drop, List.getElem?_drop, Nat.add_zero, hz] at this
          exact this
        have hD1 : Q.drop (i + 1) = b.drop (i + 1) := by rw [← List.drop_drop, hD, List.drop_drop]
        have hs : blendTo m a b (i + 1) = blendTo m a b i ++ [if x then y else z] := by
          rw [blendTo, getB_of hx, getD_of hy, getD_of hz]
        refine ⟨_, And.intro ⟨?_, enc_get hx⟩ ?_⟩
        · omega
        conv => whnf
        refine ⟨fun e => ?_, fun e => ?_⟩
        · subst e
          conv => whnf
          refine ⟨_, And.intro ⟨?_, enc_get hy⟩ ?_⟩
          · omega
          conv => whnf
          refine And.intro ⟨by omega, by rw [map_len]; omega⟩ ?_
          show St.apply _ _ _ _ _ _ _
          unfold St.apply
          simp only [updsK, appK, putD, setK]
          unfold vcOps
          simp only [isLook, winAt]
          unfold actStep evM
          simp only [operand, nthK, strip]
          conv => whnf
          refine ⟨_, And.intro (enc_get hQz) ?_⟩
          conv => whnf
          (refine And.intro ?_ ?_; ((first | (with_reducible assumption) | (intro _; with_reducible assumption) | omega | (simp only [reduceCtorEq, ints_len, bools_len, Bool.not_false, Bool.not_true, List.length_map, decide_eq_true_eq, decide_eq_false_iff_not, Bool.not_eq_true', Bool.not_eq_false', Bool.and_eq_true, Bool.or_eq_true, Bool.and_eq_false_iff, Bool.or_eq_false_iff, beq_iff_eq, bne_iff_ne, beq_eq_false_iff_ne, bne_eq_false_iff_eq, Int.not_lt, Int.not_le, ge_iff_le, gt_iff_lt, not_or, not_and, Bool.cond_true_right, Bool.cond_true_left, Bool.cond_false_right, Bool.cond_false_left, bif_t, bif_f] at *; omega) | (intro hg; (try simp only [reduceCtorEq, ints_len, bools_len, Bool.not_false, Bool.not_true, List.length_map, decide_eq_true_eq, decide_eq_false_iff_not, Bool.not_eq_true', Bool.not_eq_false', Bool.and_eq_true, Bool.or_eq_true, Bool.and_eq_false_iff, Bool.or_eq_false_iff, beq_iff_eq, bne_iff_ne, beq_eq_false_iff_ne, bne_eq_false_iff_eq, Int.not_lt, Int.not_le, ge_iff_le, gt_iff_lt, not_or, not_and, Bool.cond_true_right, Bool.cond_true_left, Bool.cond_false_right, Bool.cond_false_left, bif_t, bif_f] at hg); first | (with_reducible assumption) | omega | (simp only [reduceCtorEq, ints_len, bools_len, Bool.not_false, Bool.not_true, List.length_map, decide_eq_true_eq, decide_eq_false_iff_not, Bool.not_eq_true', Bool.not_eq_false', Bool.and_eq_true, Bool.or_eq_true, Bool.and_eq_false_iff, Bool.or_eq_false_iff, beq_iff_eq, bne_iff_ne, beq_eq_false_iff_ne, bne_eq_false_iff_eq, Int.not_lt, Int.not_le, ge_iff_le, gt_iff_lt, not_or, not_and, Bool.cond_true_right, Bool.cond_true_left, Bool.cond_false_right, Bool.cond_false_left, bif_t, bif_f] at *; omega) | (refine ⟨?_, ?_⟩ <;> omega)) | (refine ⟨?_, ?_⟩ <;> omega) | (simp [*]; done) | grind)); (conv => whnf))
          refine ⟨m.length - (i + 1), by omega, [], ?_⟩
          conv => whnf
          refine ⟨i + 1, Q.set i y, by omega, rfl, by rw [List.length_set]; exact hQ, ?_, ?_, ?_⟩
          · rw [hs, List.take_add_one, List.take_set_of_le (Nat.le_refl _), hT, List.getElem?_set_self (by omega)]; rfl
          · rw [List.drop_set_of_lt (by omega)]; exact hD1
          · rw [List.map_set]; rfl
        · subst e
          conv => whnf
          (refine And.intro ?_ ?_; ((first | (with_reducible assumption) | (intro _; with_reducible assumption) | omega | (simp only [reduceCtorEq, ints_len, bools_len, Bool.not_false, Bool.not_true, List.length_map, decide_eq_true_eq, decide_eq_false_iff_not, Bool.not_eq_true', Bool.not_eq_false', Bool.and_eq_true, Bool.or_eq_true, Bool.and_eq_false_iff, Bool.or_eq_false_iff, beq_iff_eq, bne_iff_ne, beq_eq_false_iff_ne, bne_eq_false_iff_eq, Int.not_lt, Int.not_le, ge_iff_le, gt_iff_lt, not_or, not_and, Bool.cond_true_right, Bool.cond_true_left, Bool.cond_false_right, Bool.cond_false_left, bif_t, bif_f] at *; omega) | (intro hg; (try simp only [reduceCtorEq, ints_len, bools_len, Bool.not_false, Bool.not_true, List.length_map, decide_eq_true_eq, decide_eq_false_iff_not, Bool.not_eq_true', Bool.not_eq_false', Bool.and_eq_true, Bool.or_eq_true, Bool.and_eq_false_iff, Bool.or_eq_false_iff, beq_iff_eq, bne_iff_ne, beq_eq_false_iff_ne, bne_eq_false_iff_eq, Int.not_lt, Int.not_le, ge_iff_le, gt_iff_lt, not_or, not_and, Bool.cond_true_right, Bool.cond_true_left, Bool.cond_false_right, Bool.cond_false_left, bif_t, bif_f] at hg); first | (with_reducible assumption) | omega | (simp only [reduceCtorEq, ints_len, bools_len, Bool.not_false, Bool.not_true, List.length_map, decide_eq_true_eq, decide_eq_false_iff_not, Bool.not_eq_true', Bool.not_eq_false', Bool.and_eq_true, Bool.or_eq_true, Bool.and_eq_false_iff, Bool.or_eq_false_iff, beq_iff_eq, bne_iff_ne, beq_eq_false_iff_ne, bne_eq_false_iff_eq, Int.not_lt, Int.not_le, ge_iff_le, gt_iff_lt, not_or, not_and, Bool.cond_true_right, Bool.cond_true_left, Bool.cond_false_right, Bool.cond_false_left, bif_t, bif_f] at *; omega) | (refine ⟨?_, ?_⟩ <;> omega)) | (refine ⟨?_, ?_⟩ <;> omega) | (simp [*]; done) | grind)); (conv => whnf))
          refine ⟨m.length - (i + 1), by omega, [], ?_⟩
          conv => whnf
          refine ⟨i + 1, Q, by omega, rfl, hQ, ?_, hD1, rfl⟩
          rw [hs, List.take_add_one, hT, hQz]; rfl
      · have hi' : i = m.length := by omega
        subst hi'
        refine ⟨[], ?_⟩
        conv => whnf
        refine ⟨[0], by simp, .cons ⟨_, rfl, rfl, ?_⟩ .nil, .cons rfl (.cons rfl .nil)⟩
        rw [← hT, ← hQ, List.take_length]
end Go.Proofs.Ytahdihhhankhdaa.V

