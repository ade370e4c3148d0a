/-
  V: Blend, both sides; SameInts. By the session's own hand.
-/
import Derived.Test.YtahdihhhankhdaaVp
set_option linter.unusedVariables false
set_option linter.unusedSimpArgs false
set_option maxRecDepth 100000
set_option linter.all false
set_option linter.unnecessarySimpa false
set_option linter.deprecated false
namespace Go.Proofs.Ytahdihhhankhdaa.V
open Go.Proofs.YtahdihhhankhdaaVY Go.RowKit
def blendTo (m : List Bool) (a b : List Int) : Nat → List Int
  | 0 => []
  | i + 1 => blendTo m a b i ++ [if m.getD i false then a.getD i 0 else b.getD i 0]
theorem blendTo_len (m : List Bool) (a b : List Int) : ∀ i, (blendTo m a b i).length = i
  | 0 => rfl
  | i + 1 => by rw [blendTo, List.length_append, blendTo_len m a b i]; rfl
def blendOk (m : List Bool) (a b : List Int) : Bool := decide (m.length = a.length ∧ m.length = b.length)
def blend (m : List Bool) (a b : List Int) : List Int := if blendOk m a b then blendTo m a b m.length else []
theorem getB_of {l : List Bool} {i : Nat} {x : Bool} (h : l[i]? = some x) : l.getD i false = x := by simp [List.getD, h]
def R21 : Ct := fun ss hp r out => ∃ (m : List Bool) (a b : List Int), ss = [.one (.d (.sl 1 (m.map boC))), .one (.d (.sl 1 (a.map inC))), .one (.d (.sl 1 (b.map inC)))] ∧ hp = [] ∧ m.length ≤ 4194304 ∧ b.length ≤ 4194304 ∧ r = .tup [.c (.own 0), .c (.d (.int .i64 (if blendOk m a b then 0 else 2)))] ∧ out = [.row 1 ((blend m a b).map inC)]
set_option maxHeartbeats 4000000 in
theorem ok21 : VSound Try.prog (21, R21) := by
  refine vsound (T := ty) (F := []) (pl := []) (nw := true) (cuts := []) mix tyOk .nil Try.func21 (by kernel_rfl) (by kernel_rfl) ?_
  rintro _ _ _ _ ⟨m, a, b, rfl, rfl, hm, hb, rfl, rfl⟩
  conv => whnf
  (repeat' (first | ((with_reducible refine And.intro (fun (e : (_ : Bool) = true) => ?_) (fun (e : (_ : Bool) = false) => ?_)) <;> (try simp only [reduceCtorEq, ints_len, bools_len, Bool.not_false, Bool.not_true, List.length_map, decide_eq_true_eq, decide_eq_false_iff_not, Bool.not_eq_true', Bool.not_eq_false', Bool.and_eq_true, Bool.or_eq_true, Bool.and_eq_false_iff, Bool.or_eq_false_iff, beq_iff_eq, bne_iff_ne, beq_eq_false_iff_ne, bne_eq_false_iff_eq, Int.not_lt, Int.not_le, ge_iff_le, gt_iff_lt, not_or, not_and, Bool.cond_true_right, Bool.cond_true_left, Bool.cond_false_right, Bool.cond_false_left, bif_t, bif_f] at e) <;> (conv => whnf)) | (refine And.intro ?_ ?_; ((first | (with_reducible assumption) | (intro _; with_reducible assumption) | omega | (simp only [reduceCtorEq, ints_len, bools_len, Bool.not_false, Bool.not_true, List.length_map, decide_eq_true_eq, decide_eq_false_iff_not, Bool.not_eq_true', Bool.not_eq_false', Bool.and_eq_true, Bool.or_eq_true, Bool.and_eq_false_iff, Bool.or_eq_false_iff, beq_iff_eq, bne_iff_ne, beq_eq_false_iff_ne, bne_eq_false_iff_eq, Int.not_lt, Int.not_le, ge_iff_le, gt_iff_lt, not_or, not_and, Bool.cond_true_right, Bool.cond_true_left, Bool.cond_false_right, Bool.cond_false_left, bif_t, bif_f] at *; omega) | (intro hg; (try simp only [reduceCtorEq, ints_len, bools_len, Bool.not_false, Bool.not_true, List.length_map, decide_eq_true_eq, decide_eq_false_iff_not, Bool.not_eq_true', Bool.not_eq_false', Bool.and_eq_true, Bool.or_eq_true, Bool.and_eq_false_iff, Bool.or_eq_false_iff, beq_iff_eq, bne_iff_ne, beq_eq_false_iff_ne, bne_eq_false_iff_eq, Int.not_lt, Int.not_le, ge_iff_le, gt_iff_lt, not_or, not_and, Bool.cond_true_right, Bool.cond_true_left, Bool.cond_false_right, Bool.cond_false_left, bif_t, bif_f] at hg); first | (with_reducible assumption) | omega | (simp only [reduceCtorEq, ints_len, bools_len, Bool.not_false, Bool.not_true, List.length_map, decide_eq_true_eq, decide_eq_false_iff_not, Bool.not_eq_true', Bool.not_eq_false', Bool.and_eq_true, Bool.or_eq_true, Bool.and_eq_false_iff, Bool.or_eq_false_iff, beq_iff_eq, bne_iff_ne, beq_eq_false_iff_ne, bne_eq_false_iff_eq, Int.not_lt, Int.not_le, ge_iff_le, gt_iff_lt, not_or, not_and, Bool.cond_true_right, Bool.cond_true_left, Bool.cond_false_right, Bool.cond_false_left, bif_t, bif_f] at *; omega) | (refine ⟨?_, ?_⟩ <;> omega)) | (refine ⟨?_, ?_⟩ <;> omega) | (simp [*]; done) | grind)); (conv => whnf))))
  · have e1 := e
    have ho : blendOk m a b = false := by unfold blendOk; exact decide_eq_false (by omega)
    refine ⟨[.slot 6 true], ?_⟩
    conv => whnf
    refine ⟨[0], by simp, .cons ⟨_, rfl, rfl, ?_⟩ .nil, .cons rfl (.cons ?_ .nil)⟩
    · unfold blend; rw [ho]; rfl
    · rw [ho]; rfl
  · have e1 := e
    have ho : blendOk m a b = true := by unfold blendOk; exact decide_eq_true (by omega)
    have hB : blend m a b = blendTo m a b m.length := by unfold blend; rw [if_pos ho]
    rw [ho, hB]
    refine ⟨[.slot 8 true], [0, 1, 2, 8, 9], 1, fun n1 σ => ∃ i : Nat, i ≤ m.length ∧ n1 = m.length - i ∧ σ = (⟨[.one (.d (.sl 1 (m.map boC))), .one (.d (.sl 1 (a.map inC))), .one (.d (.sl 1 (b.map inC))), .junk, .junk, .junk, .junk, .junk, .one (.own 0), .di .i64 i, .junk, .junk, .junk, .junk, .junk, .junk, .junk, .junk, .junk, .junk, .junk, .junk, .junk, .junk, .junk, .junk, .junk, .junk, .junk, .junk, .junk, .junk, .junk, .junk, .junk, .junk, .junk, .junk, .junk, .junk, .junk, .junk, .junk, .junk, .junk, .junk], [.row 1 ((blendTo m a b i).map inC)]⟩ : St), ?_, ?_⟩
    · refine ⟨m.length, ?_⟩
      conv => whnf
      exact ⟨0, by omega, by omega, rfl⟩
    · rintro n1 _ ⟨i, hi, rfl, rfl⟩
      conv => whnf
      ((with_reducible refine And.intro (fun (e : (_ : Bool) = true) => ?_) (fun (e : (_ : Bool) = false) => ?_)) <;> (try simp only [reduceCtorEq, ints_len, bools_len, Bool.not_false, Bool.not_true, List.length_map, decide_eq_true_eq, decide_eq_false_iff_not, Bool.not_eq_true', Bool.not_eq_false', Bool.and_eq_true, Bool.or_eq_true, Bool.and_eq_false_iff, Bool.or_eq_false_iff, beq_iff_eq, bne_iff_ne, beq_eq_false_iff_ne, bne_eq_false_iff_eq, Int.not_lt, Int.not_le, ge_iff_le, gt_iff_lt, not_or, not_and, Bool.cond_true_right, Bool.cond_true_left, Bool.cond_false_right, Bool.cond_false_left, bif_t, bif_f] at e) <;> (conv => whnf))
      · obtain ⟨x, hx⟩ := get_lt (l := m) (i := i) (by omega)
        obtain ⟨y, hy⟩ := get_lt (l := a) (i := i) (by omega)
        obtain ⟨z, hz⟩ := get_lt (l := b) (i := i) (by omega)
        have hs : (blendTo m a b (i + 1)).map inC = (blendTo m a b i).map inC ++ [inC (if x then y else z)] := by
          rw [blendTo, getB_of hx, getD_of hy, getD_of hz, List.map_append]; rfl
        have hlen := blendTo_len m a b i
        refine ⟨_, And.intro ⟨?_, enc_get hz⟩ ?_⟩
        · omega
        conv => whnf
        refine ⟨_, And.intro ⟨?_, enc_get hx⟩ ?_⟩
        · omega
        conv => whnf
        refine ⟨fun e => ?_, fun e => ?_⟩
        · subst e
          conv => whnf
          refine ⟨_, And.intro ⟨?_, enc_get hy⟩ ?_⟩
          · omega
          conv => whnf
          refine ⟨by rw [map_len]; simp only [List.length_cons, List.length_nil]; omega, ?_⟩
          conv => whnf
          (refine And.intro ?_ ?_; ((first | (with_reducible assumption) | (intro _; with_reducible assumption) | omega | (simp only [reduceCtorEq, ints_len, bools_len, Bool.not_false, Bool.not_true, List.length_map, decide_eq_true_eq, decide_eq_false_iff_not, Bool.not_eq_true', Bool.not_eq_false', Bool.and_eq_true, Bool.or_eq_true, Bool.and_eq_false_iff, Bool.or_eq_false_iff, beq_iff_eq, bne_iff_ne, beq_eq_false_iff_ne, bne_eq_false_iff_eq, Int.not_lt, Int.not_le, ge_iff_le, gt_iff_lt, not_or, not_and, Bool.cond_true_right, Bool.cond_true_left, Bool.cond_false_right, Bool.cond_false_left, bif_t, bif_f] at *; omega) | (intro hg; (try simp only [reduceCtorEq, ints_len, bools_len, Bool.not_false, Bool.not_true, List.length_map, decide_eq_true_eq, decide_eq_false_iff_not, Bool.not_eq_true', Bool.not_eq_false', Bool.and_eq_true, Bool.or_eq_true, Bool.and_eq_false_iff, Bool.or_eq_false_iff, beq_iff_eq, bne_iff_ne, beq_eq_false_iff_ne, bne_eq_false_iff_eq, Int.not_lt, Int.not_le, ge_iff_le, gt_iff_lt, not_or, not_and, Bool.cond_true_right, Bool.cond_true_left, Bool.cond_false_right, Bool.cond_false_left, bif_t, bif_f] at hg); first | (with_reducible assumption) | omega | (simp only [reduceCtorEq, ints_len, bools_len, Bool.not_false, Bool.not_true, List.length_map, decide_eq_true_eq, decide_eq_false_iff_not, Bool.not_eq_true', Bool.not_eq_false', Bool.and_eq_true, Bool.or_eq_true, Bool.and_eq_false_iff, Bool.or_eq_false_iff, beq_iff_eq, bne_iff_ne, beq_eq_false_iff_ne, bne_eq_false_iff_eq, Int.not_lt, Int.not_le, ge_iff_le, gt_iff_lt, not_or, not_and, Bool.cond_true_right, Bool.cond_true_left, Bool.cond_false_right, Bool.cond_false_left, bif_t, bif_f] at *; omega) | (refine ⟨?_, ?_⟩ <;> omega)) | (refine ⟨?_, ?_⟩ <;> omega) | (simp [*]; done) | grind)); (conv => whnf))
          refine ⟨m.length - (i + 1), by omega, [], ?_⟩
          conv => whnf
          refine ⟨i + 1, by omega, rfl, ?_⟩
          rw [hs]; rfl
        · subst e
          conv => whnf
          refine ⟨by rw [map_len]; simp only [List.length_cons, List.length_nil]; omega, ?_⟩
          conv => whnf
          (refine And.intro ?_ ?_; ((first | (with_reducible assumption) | (intro _; with_reducible assumption) | omega | (simp only [reduceCtorEq, ints_len, bools_len, Bool.not_false, Bool.not_true, List.length_map, decide_eq_true_eq, decide_eq_false_iff_not, Bool.not_eq_true', Bool.not_eq_false', Bool.and_eq_true, Bool.or_eq_true, Bool.and_eq_false_iff, Bool.or_eq_false_iff, beq_iff_eq, bne_iff_ne, beq_eq_false_iff_ne, bne_eq_false_iff_eq, Int.not_lt, Int.not_le, ge_iff_le, gt_iff_lt, not_or, not_and, Bool.cond_true_right, Bool.cond_true_left, Bool.cond_false_right, Bool.cond_false_left, bif_t, bif_f] at *; omega) | (intro hg; (try simp only [reduceCtorEq, ints_len, bools_len, Bool.not_false, Bool.not_true, List.length_map, decide_eq_true_eq, decide_eq_false_iff_not, Bool.not_eq_true', Bool.not_eq_false', Bool.and_eq_true, Bool.or_eq_true, Bool.and_eq_false_iff, Bool.or_eq_false_iff, beq_iff_eq, bne_iff_ne, beq_eq_false_iff_ne, bne_eq_false_iff_eq, Int.not_lt, Int.not_le, ge_iff_le, gt_iff_lt, not_or, not_and, Bool.cond_true_right, Bool.cond_true_left, Bool.cond_false_right, Bool.cond_false_left, bif_t, bif_f] at hg); first | (with_reducible assumption) | omega | (simp only [reduceCtorEq, ints_len, bools_len, Bool.not_false, Bool.not_true, List.length_map, decide_eq_true_eq, decide_eq_false_iff_not, Bool.not_eq_true', Bool.not_eq_false', Bool.and_eq_true, Bool.or_eq_true, Bool.and_eq_false_iff, Bool.or_eq_false_iff, beq_iff_eq, bne_iff_ne, beq_eq_false_iff_ne, bne_eq_false_iff_eq, Int.not_lt, Int.not_le, ge_iff_le, gt_iff_lt, not_or, not_and, Bool.cond_true_right, Bool.cond_true_left, Bool.cond_false_right, Bool.cond_false_left, bif_t, bif_f] at *; omega) | (refine ⟨?_, ?_⟩ <;> omega)) | (refine ⟨?_, ?_⟩ <;> omega) | (simp [*]; done) | grind)); (conv => whnf))
          refine ⟨m.length - (i + 1), by omega, [], ?_⟩
          conv => whnf
          refine ⟨i + 1, by omega, rfl, ?_⟩
          rw [hs]; rfl
      · have hi' : i = m.length := by omega
        subst hi'
        refine ⟨[], ?_⟩
        conv => whnf
        exact ⟨[0], by simp, .cons ⟨_, rfl, rfl, rfl⟩ .nil, .cons rfl (.cons rfl .nil)⟩
end Go.Proofs.Ytahdihhhankhdaa.V

