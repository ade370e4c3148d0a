/-
  V: Right, Most, Awake. By the session's own hand.
-/
import Derived.Test.YtahdihhhankhdaaVo
set_option linter.unusedVariables false
set_option linter.unusedSimpArgs false
set_option maxRecDepth 100000
set_option linter.all false
set_option linter.unnecessarySimpa false
set_option linter.deprecated false
namespace Go.Proofs.Ytahdihhhankhdaa.V
open Go.Proofs.YtahdihhhankhdaaVY Go.RowKit
def isKern (k : Kern) : Bool := formed k && decide (1 ≤ k.sets.length ∧ k.sets.length ≤ 8)
def asked (k : Kern) (lanes : Int) : Bool := isKern k && decide (1 ≤ lanes ∧ lanes ≤ 64)
def R14 : Ct := fun ss hp r out => ∃ (k : Kern) (lanes : Int), ss = [.v (.ag (k.c.map .d)), .di .i64 lanes] ∧ hp = [] ∧ k.bulk ≤ 4194304 ∧ r = .tup [.c (.d (.bool (asked k lanes && right k lanes))), .c (.d (.int .i64 (if asked k lanes then 0 else 2)))] ∧ out = []
set_option maxHeartbeats 4000000 in
theorem ok14 : VSound Try.prog (14, R14) := by
  refine vsound (T := ty) (F := [(57, R57), (58, R58)]) (pl := []) (nw := true) (cuts := []) mix tyOk (.cons (ok57) (.cons (ok58) .nil)) Try.func14 (by kernel_rfl) (by kernel_rfl) ?_
  rintro _ _ _ _ ⟨⟨ext, sets⟩, lanes, rfl, rfl, hm, rfl, rfl⟩
  conv => whnf
  refine ⟨[], false, false, ?_⟩
  conv => whnf
  refine ⟨_, _, ⟨⟨ext, sets⟩, rfl, rfl, hm, rfl, rfl⟩, ?_⟩
  conv => whnf
  (repeat' (first | ((with_reducible refine And.intro (fun (e : (_ : Bool) = true) => ?_) (fun (e : (_ : Bool) = false) => ?_)) <;> (try simp only [reduceCtorEq, ints_len, bools_len, Bool.not_false, Bool.not_true, List.length_map, decide_eq_true_eq, decide_eq_false_iff_not, Bool.not_eq_true', Bool.not_eq_false', Bool.and_eq_true, Bool.or_eq_true, Bool.and_eq_false_iff, Bool.or_eq_false_iff, beq_iff_eq, bne_iff_ne, beq_eq_false_iff_ne, bne_eq_false_iff_eq, Int.not_lt, Int.not_le, ge_iff_le, gt_iff_lt, not_or, not_and, Bool.cond_true_right, Bool.cond_true_left, Bool.cond_false_right, Bool.cond_false_left, bif_t, bif_f] at e) <;> (conv => whnf)) | (refine And.intro ?_ ?_; ((first | (with_reducible assumption) | (intro _; with_reducible assumption) | omega | (simp only [reduceCtorEq, ints_len, bools_len, Bool.not_false, Bool.not_true, List.length_map, decide_eq_true_eq, decide_eq_false_iff_not, Bool.not_eq_true', Bool.not_eq_false', Bool.and_eq_true, Bool.or_eq_true, Bool.and_eq_false_iff, Bool.or_eq_false_iff, beq_iff_eq, bne_iff_ne, beq_eq_false_iff_ne, bne_eq_false_iff_eq, Int.not_lt, Int.not_le, ge_iff_le, gt_iff_lt, not_or, not_and, Bool.cond_true_right, Bool.cond_true_left, Bool.cond_false_right, Bool.cond_false_left, bif_t, bif_f] at *; omega) | (intro hg; (try simp only [reduceCtorEq, ints_len, bools_len, Bool.not_false, Bool.not_true, List.length_map, decide_eq_true_eq, decide_eq_false_iff_not, Bool.not_eq_true', Bool.not_eq_false', Bool.and_eq_true, Bool.or_eq_true, Bool.and_eq_false_iff, Bool.or_eq_false_iff, beq_iff_eq, bne_iff_ne, beq_eq_false_iff_ne, bne_eq_false_iff_eq, Int.not_lt, Int.not_le, ge_iff_le, gt_iff_lt, not_or, not_and, Bool.cond_true_right, Bool.cond_true_left, Bool.cond_false_right, Bool.cond_false_left, bif_t, bif_f] at hg); first | (with_reducible assumption) | omega | (simp only [reduceCtorEq, ints_len, bools_len, Bool.not_false, Bool.not_true, List.length_map, decide_eq_true_eq, decide_eq_false_iff_not, Bool.not_eq_true', Bool.not_eq_false', Bool.and_eq_true, Bool.or_eq_true, Bool.and_eq_false_iff, Bool.or_eq_false_iff, beq_iff_eq, bne_iff_ne, beq_eq_false_iff_ne, bne_eq_false_iff_eq, Int.not_lt, Int.not_le, ge_iff_le, gt_iff_lt, not_or, not_and, Bool.cond_true_right, Bool.cond_true_left, Bool.cond_false_right, Bool.cond_false_left, bif_t, bif_f] at *; omega) | (refine ⟨?_, ?_⟩ <;> omega)) | (refine ⟨?_, ?_⟩ <;> omega) | (simp [*]; done) | grind)); (conv => whnf))))
  · have e1 := e
    refine ⟨[], ?_⟩
    conv => whnf
    have ha : asked ⟨ext, sets⟩ lanes = false := by
      cases hh : asked ⟨ext, sets⟩ lanes with
      | false => rfl
      | true =>
        exfalso
        unfold asked isKern at hh
        simp only [Bool.and_eq_true, decide_eq_true_eq] at hh
        obtain ⟨⟨h1, h2, h3⟩, h4, h5⟩ := hh
        rcases e1 with ((e | e) | e) | e
        · rw [h1] at e; cases e
        · exact e h2 h3
        · omega
        · omega
    rw [ha]
    exact ⟨[], .nil, .nil, .cons rfl (.cons rfl .nil)⟩
  · have e1 := e
    have ha : asked ⟨ext, sets⟩ lanes = true := by
      unfold asked isKern
      simp only [Bool.and_eq_true, decide_eq_true_eq]
      exact ⟨⟨e1.1.1.1, e1.1.1.2⟩, e1.1.2, e1.2⟩
    have hf : formed ⟨ext, sets⟩ = true := by
      unfold asked isKern at ha
      simp only [Bool.and_eq_true] at ha
      exact ha.1.1
    have hl : 1 ≤ lanes := by
      unfold asked at ha
      simp only [Bool.and_eq_true, decide_eq_true_eq] at ha
      exact ha.2.1
    refine ⟨[], false, false, ?_⟩
    conv => whnf
    refine ⟨_, _, ⟨⟨ext, sets⟩, lanes, rfl, rfl, hm, hf, hl, rfl, rfl⟩, ?_⟩
    conv => whnf
    refine ⟨[], ?_⟩
    conv => whnf
    rw [ha]
    exact ⟨[], .nil, .nil, .cons rfl (.cons rfl .nil)⟩
/-- example 1 -/
def K0 : Kern := ⟨[6], [⟨⟨0, 2, [1]⟩, [], .mk ⟨#[108, 111, 97, 100]⟩ 1 0 ⟨0, 0, [1]⟩ []⟩]⟩
theorem k0_2 : (asked K0 2 && right K0 2) = true := by decide +kernel
theorem k0_3 : (asked K0 3 && right K0 3) = false := by decide +kernel
theorem k0_a2 : (if asked K0 2 then (0 : Int) else 2) = 0 := by decide +kernel
theorem k0_a3 : (if asked K0 3 then (0 : Int) else 2) = 0 := by decide +kernel
def R16 : Ct := fun ss hp r out => ss = [] ∧ hp = [] ∧ r = .db true ∧ out = []
set_option maxHeartbeats 4000000 in
theorem ok16 : VSound Try.prog (16, R16) := by
  refine vsound (T := ty) (F := [(14, R14)]) (pl := []) (nw := true) (cuts := []) mix tyOk (.cons (ok14) .nil) Try.func16 (by kernel_rfl) (by kernel_rfl) ?_
  rintro _ _ _ _ ⟨rfl, rfl, rfl, rfl⟩
  conv => whnf
  refine ⟨[], false, true, ?_⟩
  conv => whnf
  refine ⟨_, _, ⟨K0, 2, rfl, rfl, by decide +kernel, rfl, rfl⟩, ?_⟩
  rw [k0_2, k0_a2]
  conv => whnf
  refine ⟨[], false, true, ?_⟩
  conv => whnf
  refine ⟨_, _, ⟨K0, 3, rfl, rfl, by decide +kernel, rfl, rfl⟩, ?_⟩
  rw [k0_3, k0_a3]
  conv => whnf
  (repeat' (first | ((with_reducible refine And.intro (fun (e : (_ : Bool) = true) => ?_) (fun (e : (_ : Bool) = false) => ?_)) <;> (try simp only [reduceCtorEq, ints_len, bools_len, Bool.not_false, Bool.not_true, List.length_map, decide_eq_true_eq, decide_eq_false_iff_not, Bool.not_eq_true', Bool.not_eq_false', Bool.and_eq_true, Bool.or_eq_true, Bool.and_eq_false_iff, Bool.or_eq_false_iff, beq_iff_eq, bne_iff_ne, beq_eq_false_iff_ne, bne_eq_false_iff_eq, Int.not_lt, Int.not_le, ge_iff_le, gt_iff_lt, not_or, not_and, Bool.cond_true_right, Bool.cond_true_left, Bool.cond_false_right, Bool.cond_false_left, bif_t, bif_f] at e) <;> (conv => whnf)) | (refine And.intro ?_ ?_; ((first | (with_reducible assumption) | (intro _; with_reducible assumption) | omega | (simp only [reduceCtorEq, ints_len, bools_len, Bool.not_false, Bool.not_true, List.length_map, decide_eq_true_eq, decide_eq_false_iff_not, Bool.not_eq_true', Bool.not_eq_false', Bool.and_eq_true, Bool.or_eq_true, Bool.and_eq_false_iff, Bool.or_eq_false_iff, beq_iff_eq, bne_iff_ne, beq_eq_false_iff_ne, bne_eq_false_iff_eq, Int.not_lt, Int.not_le, ge_iff_le, gt_iff_lt, not_or, not_and, Bool.cond_true_right, Bool.cond_true_left, Bool.cond_false_right, Bool.cond_false_left, bif_t, bif_f] at *; omega) | (intro hg; (try simp only [reduceCtorEq, ints_len, bools_len, Bool.not_false, Bool.not_true, List.length_map, decide_eq_true_eq, decide_eq_false_iff_not, Bool.not_eq_true', Bool.not_eq_false', Bool.and_eq_true, Bool.or_eq_true, Bool.and_eq_false_iff, Bool.or_eq_false_iff, beq_iff_eq, bne_iff_ne, beq_eq_false_iff_ne, bne_eq_false_iff_eq, Int.not_lt, Int.not_le, ge_iff_le, gt_iff_lt, not_or, not_and, Bool.cond_true_right, Bool.cond_true_left, Bool.cond_false_right, Bool.cond_false_left, bif_t, bif_f] at hg); first | (with_reducible assumption) | omega | (simp only [reduceCtorEq, ints_len, bools_len, Bool.not_false, Bool.not_true, List.length_map, decide_eq_true_eq, decide_eq_false_iff_not, Bool.not_eq_true', Bool.not_eq_false', Bool.and_eq_true, Bool.or_eq_true, Bool.and_eq_false_iff, Bool.or_eq_false_iff, beq_iff_eq, bne_iff_ne, beq_eq_false_iff_ne, bne_eq_false_iff_eq, Int.not_lt, Int.not_le, ge_iff_le, gt_iff_lt, not_or, not_and, Bool.cond_true_right, Bool.cond_true_left, Bool.cond_false_right, Bool.cond_false_left, bif_t, bif_f] at *; omega) | (refine ⟨?_, ?_⟩ <;> omega)) | (refine ⟨?_, ?_⟩ <;> omega) | (simp [*]; done) | grind)); (conv => whnf))))
  all_goals first | ((refine ⟨[], ?_⟩; (conv => whnf); refine ⟨[], .nil, .nil, ?_⟩; (conv => whnf)); done) | ((refine ⟨[], ?_⟩; (conv => whnf); refine ⟨[], .nil, .nil, ?_⟩; (conv => whnf)); rfl) | skip
end Go.Proofs.Ytahdihhhankhdaa.V

