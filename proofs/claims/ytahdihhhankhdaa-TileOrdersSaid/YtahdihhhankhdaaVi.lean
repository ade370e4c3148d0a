/-
  V: Loads. By the session's own hand.
-/
import Derived.Test.YtahdihhhankhdaaVg
set_option linter.unusedVariables false
set_option linter.unusedSimpArgs false
set_option maxRecDepth 100000
set_option linter.all false
set_option linter.unnecessarySimpa false
set_option linter.deprecated false
namespace Go.Proofs.Ytahdihhhankhdaa.V
open Go.Proofs.YtahdihhhankhdaaVY Go.RowKit
def R126 : Ct := fun ss hp r out => ∃ x : Ref, ss = [.v (.ag (x.c.map .d))] ∧ hp = [] ∧ x.str.length ≤ 4194304 ∧ r = .v (.ag [.d (.int .i64 x.arr), .d (.int .i64 x.base), .own 0]) ∧ out = [.row 1 (x.str.map inC)]
set_option maxHeartbeats 4000000 in
theorem ok126 : VSound Try.prog (126, R126) := by
  refine vsound (T := ty) (F := [(64, R64)]) (pl := []) (nw := true) (cuts := []) mix tyOk (.cons (ok64) .nil) Try.func126 (by kernel_rfl) (by kernel_rfl) ?_
  rintro _ _ _ _ ⟨⟨xa, xb, xs⟩, rfl, rfl, hx, rfl, rfl⟩
  conv => whnf
  refine ⟨[], false, false, ?_⟩
  conv => whnf
  refine ⟨_, _, ⟨xs, rfl, rfl, hx, rfl, rfl⟩, ?_⟩
  conv => whnf
  refine ⟨[], ?_⟩
  conv => whnf
  exact ⟨[2], by simp, .cons ⟨_, rfl, rfl, rfl⟩ .nil, .cons rfl (.cons rfl (.cons rfl .nil))⟩
def loadsOf (k : Kern) (set : Int) : List Ref := if formed k = true ∧ 0 ≤ set ∧ set < k.sets.length then ((k.sets[set.toNat]?).map ASet.loads).getD [] else []
def loadsErr (k : Kern) (set : Int) : Int := if formed k = true ∧ 0 ≤ set ∧ set < k.sets.length then 0 else 2
def R96 : Ct := fun ss hp r out => ∃ (k : Kern) (set : Int), ss = [.v (.ag (k.c.map .d)), .di .i64 set] ∧ hp = [] ∧ k.bulk ≤ 4194304 ∧ r = .tup [.c (.own 0), .c (.d (.int .i64 (loadsErr k set)))] ∧ out = [.row 3 ((loadsOf k set).map Ref.c)]
set_option maxHeartbeats 4000000 in
theorem ok96 : VSound Try.prog (96, R96) := by
  refine vsound (T := ty) (F := [(94, R94), (121, R121), (126, R126)]) (pl := []) (nw := true) (cuts := []) mix tyOk (.cons (ok94) (.cons (ok121) (.cons (ok126) .nil))) Try.func96 (by kernel_rfl) (by kernel_rfl) ?_
  rintro _ _ _ _ ⟨⟨ext, sets⟩, set, rfl, rfl, hm, rfl, rfl⟩
  conv => whnf
  refine ⟨[], false, false, ?_⟩
  conv => whnf
  refine ⟨_, _, ⟨⟨ext, sets⟩, rfl, rfl, hm, rfl, rfl⟩, ?_⟩
  conv => whnf
  (repeat' (first | ((with_reducible refine And.intro (fun (e : (_ : Bool) = true) => ?_) (fun (e : (_ : Bool) = false) => ?_)) <;> (try simp only [reduceCtorEq, ints_len, bools_len, Bool.not_false, Bool.not_true, List.length_map, decide_eq_true_eq, decide_eq_false_iff_not, Bool.not_eq_true', Bool.not_eq_false', Bool.and_eq_true, Bool.or_eq_true, Bool.and_eq_false_iff, Bool.or_eq_false_iff, beq_iff_eq, bne_iff_ne, beq_eq_false_iff_ne, bne_eq_false_iff_eq, Int.not_lt, Int.not_le, ge_iff_le, gt_iff_lt, not_or, not_and, Bool.cond_true_right, Bool.cond_true_left, Bool.cond_false_right, Bool.cond_false_left, bif_t, bif_f] at e) <;> (conv => whnf)) | (refine And.intro ?_ ?_; ((first | (with_reducible assumption) | (intro _; with_reducible assumption) | omega | (simp only [reduceCtorEq, ints_len, bools_len, Bool.not_false, Bool.not_true, List.length_map, decide_eq_true_eq, decide_eq_false_iff_not, Bool.not_eq_true', Bool.not_eq_false', Bool.and_eq_true, Bool.or_eq_true, Bool.and_eq_false_iff, Bool.or_eq_false_iff, beq_iff_eq, bne_iff_ne, beq_eq_false_iff_ne, bne_eq_false_iff_eq, Int.not_lt, Int.not_le, ge_iff_le, gt_iff_lt, not_or, not_and, Bool.cond_true_right, Bool.cond_true_left, Bool.cond_false_right, Bool.cond_false_left, bif_t, bif_f] at *; omega) | (intro hg; (try simp only [reduceCtorEq, ints_len, bools_len, Bool.not_false, Bool.not_true, List.length_map, decide_eq_true_eq, decide_eq_false_iff_not, Bool.not_eq_true', Bool.not_eq_false', Bool.and_eq_true, Bool.or_eq_true, Bool.and_eq_false_iff, Bool.or_eq_false_iff, beq_iff_eq, bne_iff_ne, beq_eq_false_iff_ne, bne_eq_false_iff_eq, Int.not_lt, Int.not_le, ge_iff_le, gt_iff_lt, not_or, not_and, Bool.cond_true_right, Bool.cond_true_left, Bool.cond_false_right, Bool.cond_false_left, bif_t, bif_f] at hg); first | (with_reducible assumption) | omega | (simp only [reduceCtorEq, ints_len, bools_len, Bool.not_false, Bool.not_true, List.length_map, decide_eq_true_eq, decide_eq_false_iff_not, Bool.not_eq_true', Bool.not_eq_false', Bool.and_eq_true, Bool.or_eq_true, Bool.and_eq_false_iff, Bool.or_eq_false_iff, beq_iff_eq, bne_iff_ne, beq_eq_false_iff_ne, bne_eq_false_iff_eq, Int.not_lt, Int.not_le, ge_iff_le, gt_iff_lt, not_or, not_and, Bool.cond_true_right, Bool.cond_true_left, Bool.cond_false_right, Bool.cond_false_left, bif_t, bif_f] at *; omega) | (refine ⟨?_, ?_⟩ <;> omega)) | (refine ⟨?_, ?_⟩ <;> omega) | (simp [*]; done) | grind)); (conv => whnf))))
  · refine ⟨[.slot 4 true], ?_⟩
    conv => whnf
    have hn : ¬ (formed ⟨ext, sets⟩ = true ∧ 0 ≤ set ∧ set < sets.length) := by
      rintro ⟨h1, h2, h3⟩
      rcases e with (e | e) | e
      · rw [h1] at e; cases e
      · omega
      · omega
    refine ⟨[1], by simp, .cons ⟨_, rfl, rfl, ?_⟩ .nil, ?_⟩
    · unfold loadsOf; rw [if_neg hn]; rfl
    · unfold loadsErr; rw [if_neg hn]; exact .cons rfl (.cons rfl .nil)
  · obtain ⟨⟨e1, e2⟩, e3⟩ := e
    have hy : formed ⟨ext, sets⟩ = true ∧ 0 ≤ set ∧ set < sets.length := ⟨e1, e2, e3⟩
    obtain ⟨i, rfl⟩ := Int.eq_ofNat_of_zero_le e2
    have hlt : i < sets.length := by omega
    obtain ⟨x, hget⟩ := get_lt hlt
    have hb := setsBulk_get hget
    simp only [Kern.bulk] at hm
    have hll := x.loads_len
    have hstr : ∀ r ∈ x.loads, r.str.length ≤ x.bulk := fun r hr => ASet.loads_str hr
    have hL : loadsOf ⟨ext, sets⟩ i = x.loads := by
      unfold loadsOf; rw [if_pos hy, Int.toNat_natCast]; simp only; rw [hget]; rfl
    have hE : loadsErr ⟨ext, sets⟩ i = 0 := by unfold loadsErr; rw [if_pos hy]
    rw [hL, hE]
    refine ⟨_, And.intro ⟨?_, enc_get hget⟩ ?_⟩
    · omega
    obtain ⟨⟨xa, xb, xs⟩, mask, ⟨op, kind, n, ref, kids⟩⟩ := x
    conv => whnf
    refine ⟨[], false, false, ?_⟩
    conv => whnf
    refine ⟨_, _, ⟨⟨⟨xa, xb, xs⟩, mask, ⟨op, kind, n, ref, kids⟩⟩, rfl, rfl, by omega, rfl, rfl⟩, ?_⟩
    conv => whnf
    generalize (ASet.mk ⟨xa, xb, xs⟩ mask ⟨op, kind, n, ref, kids⟩).loads = L at *
    refine ⟨[.slot 6 true], [6, 28, 29, 30], 3, fun n1 σ => ∃ i : Nat, i ≤ L.length ∧ n1 = L.length - i ∧ σ = (⟨[.junk, .junk, .junk, .junk, .junk, .junk, .one (.own 2), .junk, .junk, .junk, .junk, .junk, .junk, .junk, .junk, .junk, .junk, .junk, .junk, .junk, .junk, .junk, .junk, .junk, .junk, .junk, .junk, .junk, .one (.own 1), .di .i64 L.length, .di .i64 i, .junk, .junk, .junk, .junk, .junk, .junk, .junk, .junk, .junk, .junk], [.box (List.map .d (Kern.mk ext sets).c), .row 3 (L.map Ref.c), .row 3 ((L.take i).map Ref.c)]⟩ : St), ?_, ?_⟩
    · refine ⟨L.length, ?_⟩
      conv => whnf
      refine ⟨0, by omega, by omega, ?_⟩
      rw [map_len]; rfl
    · rintro n1 _ ⟨j, hj, rfl, rfl⟩
      conv => whnf
      ((with_reducible refine And.intro (fun (e : (_ : Bool) = true) => ?_) (fun (e : (_ : Bool) = false) => ?_)) <;> (try simp only [reduceCtorEq, ints_len, bools_len, Bool.not_false, Bool.not_true, List.length_map, decide_eq_true_eq, decide_eq_false_iff_not, Bool.not_eq_true', Bool.not_eq_false', Bool.and_eq_true, Bool.or_eq_true, Bool.and_eq_false_iff, Bool.or_eq_false_iff, beq_iff_eq, bne_iff_ne, beq_eq_false_iff_ne, bne_eq_false_iff_eq, Int.not_lt, Int.not_le, ge_iff_le, gt_iff_lt, not_or, not_and, Bool.cond_true_right, Bool.cond_true_left, Bool.cond_false_right, Bool.cond_false_left, bif_t, bif_f] at e) <;> (conv => whnf))
      · have hlt : j < L.length := by omega
        obtain ⟨y, hgy⟩ := get_lt hlt
        have hys := hstr y (List.mem_of_getElem? hgy)
        refine And.intro ⟨by omega, by rw [map_len]; omega⟩ ?_
        conv => whnf
        refine ⟨_, And.intro (enc_get hgy) ?_⟩
        obtain ⟨ya, yb, ys⟩ := y
        conv => whnf
        refine ⟨[], false, false, ?_⟩
        conv => whnf
        refine ⟨_, _, ⟨⟨ya, yb, ys⟩, rfl, rfl, by omega, rfl, rfl⟩, ?_⟩
        conv => whnf
        refine ⟨by rw [map_len, List.length_take]; simp only [List.length_cons, List.length_nil]; omega, ?_⟩
        conv => whnf
        (refine And.intro ?_ ?_; ((first | (with_reducible assumption) | (intro _; with_reducible assumption) | omega | (simp only [reduceCtorEq, ints_len, bools_len, Bool.not_false, Bool.not_true, List.length_map, decide_eq_true_eq, decide_eq_false_iff_not, Bool.not_eq_true', Bool.not_eq_false', Bool.and_eq_true, Bool.or_eq_true, Bool.and_eq_false_iff, Bool.or_eq_false_iff, beq_iff_eq, bne_iff_ne, beq_eq_false_iff_ne, bne_eq_false_iff_eq, Int.not_lt, Int.not_le, ge_iff_le, gt_iff_lt, not_or, not_and, Bool.cond_true_right, Bool.cond_true_left, Bool.cond_false_right, Bool.cond_false_left, bif_t, bif_f] at *; omega) | (intro hg; (try simp only [reduceCtorEq, ints_len, bools_len, Bool.not_false, Bool.not_true, List.length_map, decide_eq_true_eq, decide_eq_false_iff_not, Bool.not_eq_true', Bool.not_eq_false', Bool.and_eq_true, Bool.or_eq_true, Bool.and_eq_false_iff, Bool.or_eq_false_iff, beq_iff_eq, bne_iff_ne, beq_eq_false_iff_ne, bne_eq_false_iff_eq, Int.not_lt, Int.not_le, ge_iff_le, gt_iff_lt, not_or, not_and, Bool.cond_true_right, Bool.cond_true_left, Bool.cond_false_right, Bool.cond_false_left, bif_t, bif_f] at hg); first | (with_reducible assumption) | omega | (simp only [reduceCtorEq, ints_len, bools_len, Bool.not_false, Bool.not_true, List.length_map, decide_eq_true_eq, decide_eq_false_iff_not, Bool.not_eq_true', Bool.not_eq_false', Bool.and_eq_true, Bool.or_eq_true, Bool.and_eq_false_iff, Bool.or_eq_false_iff, beq_iff_eq, bne_iff_ne, beq_eq_false_iff_ne, bne_eq_false_iff_eq, Int.not_lt, Int.not_le, ge_iff_le, gt_iff_lt, not_or, not_and, Bool.cond_true_right, Bool.cond_true_left, Bool.cond_false_right, Bool.cond_false_left, bif_t, bif_f] at *; omega) | (refine ⟨?_, ?_⟩ <;> omega)) | (refine ⟨?_, ?_⟩ <;> omega) | (simp [*]; done) | grind)); (conv => whnf))
        refine ⟨L.length - (j + 1), by omega, [], ?_⟩
        conv => whnf
        refine ⟨j + 1, by omega, rfl, ?_⟩
        rw [List.take_add_one, hgy, List.map_append]; rfl
      · have hj' : j = L.length := by omega
        subst hj'
        rw [List.take_length]
        refine ⟨[], ?_⟩
        conv => whnf
        exact ⟨[2], by simp, .cons ⟨_, rfl, rfl, rfl⟩ .nil, .cons rfl (.cons rfl .nil)⟩
end Go.Proofs.Ytahdihhhankhdaa.V

