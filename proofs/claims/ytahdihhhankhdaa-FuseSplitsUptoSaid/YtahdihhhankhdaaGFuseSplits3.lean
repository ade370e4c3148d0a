/-
  V: contracts of functions, texts of the session's own hand, in one file.
-/
import Derived.Test.YtahdihhhankhdaaGFuseSplits2
import Derived.Test.YtahdihhhankhdaaGFuseSplits1
import Derived.Test.YtahdihhhankhdaaRows
import Derived.Below
import Derived.RowKit
set_option linter.unusedVariables false
set_option linter.unusedSimpArgs false
set_option maxRecDepth 100000
set_option linter.all false
set_option linter.unnecessarySimpa false
set_option linter.deprecated false
-- Vfa
namespace Go.Proofs.Ytahdihhhankhdaa.V
open Go.Proofs.YtahdihhhankhdaaVY Go.RowKit
theorem hinder_cases (l : List Int) (s t : ASet) : hinder l s t = flowB ∨ hinder l s t = antiB ∨ hinder l s t = outputB ∨ hinder l s t = emptyB := by
  unfold hinder
  repeat' split
  all_goals simp
def R84 : Ct := fun ss hp r out => ∃ (p q : Kern), ss = [.v (.ag (p.c.map .d)), .v (.ag (q.c.map .d))] ∧ hp = [] ∧ p.bulk ≤ 4194304 ∧ q.bulk ≤ 4194304 ∧ isKern p = true ∧ isKern q = true ∧ r = .one (.d (.str (whyF p q))) ∧ out = []
set_option maxHeartbeats 4000000 in
theorem ok84 : VSound Try.prog (84, R84) := by
  refine vsound (T := ty) (F := [(22, R22), (112, R112)]) (pl := [(11, [[], [0], [], [2], [], [2, 3, 4], [2, 3, 4, 5], [], [7], [], [7, 8, 9], [7, 8, 9, 10], [0, 1, 2, 3, 4, 5, 6, 7, 8, 9, 10, 11], [0, 1, 2, 3, 4, 5, 6, 7, 8, 9, 10, 11, 12]], .look 0 (.look 1 (.look 2 (.look 3 (.look 4 (.look 5 (.look 6 (.look 7 (.look 8 (.look 9 (.look 10 (.look 11 (.act 12 [] (.look 13 .done) .stop)))))))))))))]) (nw := true) (cuts := []) mix tyOk (.cons (ok22) (.cons (ok112) .nil)) Try.func84 (by kernel_rfl) (by kernel_rfl) ?_
  rintro _ _ _ _ ⟨⟨ext, A⟩, ⟨ext2, B⟩, rfl, rfl, hp, hq, kp, kq, rfl, rfl⟩
  have hp2 := (isKern_iff _).1 kp
  have hq2 := (isKern_iff _).1 kq
  simp only at hp2 hq2
  have hm := many_prod hp2.1
  have hm2 := many_prod hq2.1
  conv => whnf
  (refine ⟨[], false, false, ?_⟩; (conv => whnf); refine ⟨_, _, ⟨ext, ext2, rfl, rfl, by omega, rfl, rfl⟩, ?_⟩; (conv => whnf))
  refine ⟨fun e => ?_, fun e => ?_⟩
  · have e1 : ext ≠ ext2 := by simpa using e
    have hh : whyF ⟨ext, A⟩ ⟨ext2, B⟩ = extentB := by unfold whyF; rw [if_pos e1]
    rw [hh]
    conv => whnf
    (refine ⟨[], ?_⟩; (conv => whnf); refine ⟨[], .nil, .nil, ?_⟩; (conv => whnf))
    rfl
  · have e1 : ext = ext2 := by simpa using e
    subst e1
    conv => whnf
    rw [map_len, map_len]
    (repeat' (first | ((with_reducible refine And.intro (fun (e : (_ : Bool) = true) => ?_) (fun (e : (_ : Bool) = false) => ?_)) <;> (try simp only [reduceCtorEq, ints_len, bools_len, Bool.not_false, Bool.not_true, List.length_map, decide_eq_true_eq, decide_eq_false_iff_not, Bool.not_eq_true', Bool.not_eq_false', Bool.and_eq_true, Bool.or_eq_true, Bool.and_eq_false_iff, Bool.or_eq_false_iff, beq_iff_eq, bne_iff_ne, beq_eq_false_iff_ne, bne_eq_false_iff_eq, Int.not_lt, Int.not_le, ge_iff_le, gt_iff_lt, not_or, not_and, Bool.cond_true_right, Bool.cond_true_left, Bool.cond_false_right, Bool.cond_false_left, bif_t, bif_f] at e) <;> (conv => whnf)) | ((with_reducible refine And.intro (fun (e : (_ : Bool) = false) => ?_) (fun (e : (_ : Bool) = true) => ?_)) <;> (try simp only [reduceCtorEq, ints_len, bools_len, Bool.not_false, Bool.not_true, List.length_map, decide_eq_true_eq, decide_eq_false_iff_not, Bool.not_eq_true', Bool.not_eq_false', Bool.and_eq_true, Bool.or_eq_true, Bool.and_eq_false_iff, Bool.or_eq_false_iff, beq_iff_eq, bne_iff_ne, beq_eq_false_iff_ne, bne_eq_false_iff_eq, Int.not_lt, Int.not_le, ge_iff_le, gt_iff_lt, not_or, not_and, Bool.cond_true_right, Bool.cond_true_left, Bool.cond_false_right, Bool.cond_false_left, bif_t, bif_f] at e) <;> (conv => whnf)) | (refine And.intro ?_ ?_; ((first | (with_reducible assumption) | (intro _; with_reducible assumption) | omega | (simp only [reduceCtorEq, ints_len, bools_len, Bool.not_false, Bool.not_true, List.length_map, decide_eq_true_eq, decide_eq_false_iff_not, Bool.not_eq_true', Bool.not_eq_false', Bool.and_eq_true, Bool.or_eq_true, Bool.and_eq_false_iff, Bool.or_eq_false_iff, beq_iff_eq, bne_iff_ne, beq_eq_false_iff_ne, bne_eq_false_iff_eq, Int.not_lt, Int.not_le, ge_iff_le, gt_iff_lt, not_or, not_and, Bool.cond_true_right, Bool.cond_true_left, Bool.cond_false_right, Bool.cond_false_left, bif_t, bif_f] at *; omega) | (intro hg; (try simp only [reduceCtorEq, ints_len, bools_len, Bool.not_false, Bool.not_true, List.length_map, decide_eq_true_eq, decide_eq_false_iff_not, Bool.not_eq_true', Bool.not_eq_false', Bool.and_eq_true, Bool.or_eq_true, Bool.and_eq_false_iff, Bool.or_eq_false_iff, beq_iff_eq, bne_iff_ne, beq_eq_false_iff_ne, bne_eq_false_iff_eq, Int.not_lt, Int.not_le, ge_iff_le, gt_iff_lt, not_or, not_and, Bool.cond_true_right, Bool.cond_true_left, Bool.cond_false_right, Bool.cond_false_left, bif_t, bif_f] at hg); first | (with_reducible assumption) | omega | (simp only [reduceCtorEq, ints_len, bools_len, Bool.not_false, Bool.not_true, List.length_map, decide_eq_true_eq, decide_eq_false_iff_not, Bool.not_eq_true', Bool.not_eq_false', Bool.and_eq_true, Bool.or_eq_true, Bool.and_eq_false_iff, Bool.or_eq_false_iff, beq_iff_eq, bne_iff_ne, beq_eq_false_iff_ne, bne_eq_false_iff_eq, Int.not_lt, Int.not_le, ge_iff_le, gt_iff_lt, not_or, not_and, Bool.cond_true_right, Bool.cond_true_left, Bool.cond_false_right, Bool.cond_false_left, bif_t, bif_f] at *; omega) | (refine ⟨?_, ?_⟩ <;> omega)) | (refine ⟨?_, ?_⟩ <;> omega) | (simp [*]; done) | grind)); (conv => whnf))))
    · have hh : whyF ⟨ext, A⟩ ⟨ext, B⟩ = setsB := by unfold whyF; rw [if_neg (by simp), if_pos (by simp only; omega)]
      rw [hh]
      (refine ⟨[], ?_⟩; (conv => whnf); refine ⟨[], .nil, .nil, ?_⟩; (conv => whnf))
      rfl
    · have e2 := e
      have hh : whyF ⟨ext, A⟩ ⟨ext, B⟩ = firstOf ext B A := by unfold whyF; rw [if_neg (by simp), if_neg (by simp only; omega)]
      rw [hh]
      refine ⟨[], [2, 3, 5], 2, fun n1 σ => ∃ i : Nat, i ≤ A.length ∧ n1 = A.length - i ∧ firstOf ext B A = firstOf ext B (A.drop i) ∧ σ = (⟨[.junk, .junk, .one (.ptr 0 0), .one (.ptr 1 0), .junk, .di .i64 i, .junk, .junk, .junk, .junk, .junk, .junk, .junk, .junk, .junk, .junk, .junk, .junk, .junk, .junk, .junk, .junk, .junk, .junk, .junk, .junk, .junk, .junk, .junk, .junk, .junk, .junk, .junk, .junk, .junk, .junk, .junk, .junk, .junk, .junk, .junk, .junk, .junk, .junk, .junk, .junk, .junk, .junk, .junk, .junk, .junk, .junk], [.box ((Kern.mk ext A).c.map .d), .box ((Kern.mk ext B).c.map .d)]⟩ : St), ?_, ?_⟩
      · refine ⟨A.length, ?_⟩
        conv => whnf
        exact ⟨0, by omega, by omega, rfl, rfl⟩
      · rintro n1 _ ⟨i, hi, rfl, hd, rfl⟩
        rw [hd]
        conv => whnf
        rw [map_len]
        ((with_reducible refine And.intro (fun (e : (_ : Bool) = true) => ?_) (fun (e : (_ : Bool) = false) => ?_)) <;> (try simp only [reduceCtorEq, ints_len, bools_len, Bool.not_false, Bool.not_true, List.length_map, decide_eq_true_eq, decide_eq_false_iff_not, Bool.not_eq_true', Bool.not_eq_false', Bool.and_eq_true, Bool.or_eq_true, Bool.and_eq_false_iff, Bool.or_eq_false_iff, beq_iff_eq, bne_iff_ne, beq_eq_false_iff_ne, bne_eq_false_iff_eq, Int.not_lt, Int.not_le, ge_iff_le, gt_iff_lt, not_or, not_and, Bool.cond_true_right, Bool.cond_true_left, Bool.cond_false_right, Bool.cond_false_left, bif_t, bif_f] at e) <;> (conv => whnf))
        · obtain ⟨x, hx⟩ := get_lt (l := A) (i := i) (by omega)
          have hdr : A.drop i = x :: A.drop (i + 1) := by
            obtain ⟨h1, h2⟩ := List.getElem?_eq_some_iff.1 hx
            rw [List.drop_eq_getElem_cons h1, h2]
          rw [hdr]
          obtain ⟨x1, x2, x3⟩ := kern_refs kp (List.mem_of_getElem? hx)
          have hxb := setsBulk_get hx
          refine ⟨[], [2, 3, 5, 6], 2, fun n2 σ => ∃ j : Nat, j ≤ B.length ∧ n2 = B.length - j ∧ firstIn ext x B = firstIn ext x (B.drop j) ∧ σ = (⟨[.junk, .junk, .one (.ptr 0 0), .one (.ptr 1 0), .junk, .di .i64 i, .di .i64 j, .junk, .junk, .junk, .junk, .junk, .junk, .junk, .junk, .junk, .junk, .junk, .junk, .junk, .junk, .junk, .junk, .junk, .junk, .junk, .junk, .junk, .junk, .junk, .junk, .junk, .junk, .junk, .junk, .junk, .junk, .junk, .junk, .junk, .junk, .junk, .junk, .junk, .junk, .junk, .junk, .junk, .junk, .junk, .junk, .junk], [.box ((Kern.mk ext A).c.map .d), .box ((Kern.mk ext B).c.map .d)]⟩ : St), ?_, ?_⟩
          · refine ⟨B.length, ?_⟩
            conv => whnf
            exact ⟨0, by omega, by omega, rfl, rfl⟩
          · rintro n2 _ ⟨j, hj, rfl, hd2, rfl⟩
            conv => whnf
            rw [map_len]
            ((with_reducible refine And.intro (fun (e : (_ : Bool) = true) => ?_) (fun (e : (_ : Bool) = false) => ?_)) <;> (try simp only [reduceCtorEq, ints_len, bools_len, Bool.not_false, Bool.not_true, List.length_map, decide_eq_true_eq, decide_eq_false_iff_not, Bool.not_eq_true', Bool.not_eq_false', Bool.and_eq_true, Bool.or_eq_true, Bool.and_eq_false_iff, Bool.or_eq_false_iff, beq_iff_eq, bne_iff_ne, beq_eq_false_iff_ne, bne_eq_false_iff_eq, Int.not_lt, Int.not_le, ge_iff_le, gt_iff_lt, not_or, not_and, Bool.cond_true_right, Bool.cond_true_left, Bool.cond_false_right, Bool.cond_false_left, bif_t, bif_f] at e) <;> (conv => whnf))
            · obtain ⟨y, hy⟩ := get_lt (l := B) (i := j) (by omega)
              have hdr2 : B.drop j = y :: B.drop (j + 1) := by
                obtain ⟨h1, h2⟩ := List.getElem?_eq_some_iff.1 hy
                rw [List.drop_eq_getElem_cons h1, h2]
              obtain ⟨y1, y2, y3⟩ := kern_refs kq (List.mem_of_getElem? hy)
              have hyb := setsBulk_get hy
              have hxl := x.loads_len
              have hyl := y.loads_len
              simp only [Kern.bulk] at hp hq
              have hc := hinder_cases ext x y
              (refine ⟨_, And.intro ⟨by omega, enc_get hx⟩ ?_⟩; (conv => whnf))
              obtain ⟨⟨xa, xb, xs⟩, xm, ⟨xop, xk, xn, xr, xkids⟩⟩ := x
              conv => whnf
              (refine ⟨_, And.intro ⟨by omega, enc_get hy⟩ ?_⟩; (conv => whnf))
              obtain ⟨⟨ya, yb, ys⟩, ym, ⟨yop, yk, yn, yr, ykids⟩⟩ := y
              conv => whnf
              (refine ⟨[], false, false, ?_⟩; (conv => whnf); refine ⟨_, _, ⟨ext, ⟨⟨xa, xb, xs⟩, xm, ⟨xop, xk, xn, xr, xkids⟩⟩, ⟨⟨ya, yb, ys⟩, ym, ⟨yop, yk, yn, yr, ykids⟩⟩, rfl, rfl, by omega, by omega, by omega, by omega, x1, y1, x2, y2, rfl, rfl⟩, ?_⟩; (conv => whnf))
              generalize hH : hinder ext ⟨⟨xa, xb, xs⟩, xm, ⟨xop, xk, xn, xr, xkids⟩⟩ ⟨⟨ya, yb, ys⟩, ym, ⟨yop, yk, yn, yr, ykids⟩⟩ = H at *
              have hcase : H = emptyB ∨ (H ≠ emptyB ∧ (!(H.toList == emptyB.toList)) = true) := by
                rcases hc with rfl | rfl | rfl | rfl
                · exact .inr ⟨by decide, by decide +kernel⟩
                · exact .inr ⟨by decide, by decide +kernel⟩
                · exact .inr ⟨by decide, by decide +kernel⟩
                · exact .inl rfl
              rcases hcase with rfl | ⟨hne, hne2⟩
              · refine ⟨fun h => absurd h (by decide +kernel), fun _ => ?_⟩
                conv => whnf
                (refine And.intro ?_ ?_; ((first | (with_reducible assumption) | (intro _; with_reducible assumption) | omega | (simp only [reduceCtorEq, ints_len, bools_len, Bool.not_false, Bool.not_true, List.length_map, decide_eq_true_eq, decide_eq_false_iff_not, Bool.not_eq_true', Bool.not_eq_false', Bool.and_eq_true, Bool.or_eq_true, Bool.and_eq_false_iff, Bool.or_eq_false_iff, beq_iff_eq, bne_iff_ne, beq_eq_false_iff_ne, bne_eq_false_iff_eq, Int.not_lt, Int.not_le, ge_iff_le, gt_iff_lt, not_or, not_and, Bool.cond_true_right, Bool.cond_true_left, Bool.cond_false_right, Bool.cond_false_left, bif_t, bif_f] at *; omega) | (intro hg; (try simp only [reduceCtorEq, ints_len, bools_len, Bool.not_false, Bool.not_true, List.length_map, decide_eq_true_eq, decide_eq_false_iff_not, Bool.not_eq_true', Bool.not_eq_false', Bool.and_eq_true, Bool.or_eq_true, Bool.and_eq_false_iff, Bool.or_eq_false_iff, beq_iff_eq, bne_iff_ne, beq_eq_false_iff_ne, bne_eq_false_iff_eq, Int.not_lt, Int.not_le, ge_iff_le, gt_iff_lt, not_or, not_and, Bool.cond_true_right, Bool.cond_true_left, Bool.cond_false_right, Bool.cond_false_left, bif_t, bif_f] at hg); first | (with_reducible assumption) | omega | (simp only [reduceCtorEq, ints_len, bools_len, Bool.not_false, Bool.not_true, List.length_map, decide_eq_true_eq, decide_eq_false_iff_not, Bool.not_eq_true', Bool.not_eq_false', Bool.and_eq_true, Bool.or_eq_true, Bool.and_eq_false_iff, Bool.or_eq_false_iff, beq_iff_eq, bne_iff_ne, beq_eq_false_iff_ne, bne_eq_false_iff_eq, Int.not_lt, Int.not_le, ge_iff_le, gt_iff_lt, not_or, not_and, Bool.cond_true_right, Bool.cond_true_left, Bool.cond_false_right, Bool.cond_false_left, bif_t, bif_f] at *; omega) | (refine ⟨?_, ?_⟩ <;> omega)) | (refine ⟨?_, ?_⟩ <;> omega) | (simp [*]; done) | grind)); (conv => whnf))
                refine ⟨B.length - (j + 1), by omega, [], ?_⟩
                conv => whnf
                refine ⟨j + 1, by omega, rfl, ?_, rfl⟩
                rw [hd2, hdr2, hinder_none hH]
              · refine ⟨fun _ => ?_, fun h => absurd (h.symm.trans hne2) (by decide)⟩
                conv => whnf
                have hfo : firstOf ext B (⟨⟨xa, xb, xs⟩, xm, ⟨xop, xk, xn, xr, xkids⟩⟩ :: A.drop (i + 1)) = H := by
                  have hfi : firstIn ext ⟨⟨xa, xb, xs⟩, xm, ⟨xop, xk, xn, xr, xkids⟩⟩ B = H := by rw [hd2, hdr2, hinder_some (by rw [hH]; exact hne), hH]
                  rw [firstOf, if_pos (by rw [hfi]; exact hne), hfi]
                rw [hfo]
                (refine ⟨[], ?_⟩; (conv => whnf); refine ⟨[], .nil, .nil, ?_⟩; (conv => whnf))
            · have hj' : j = B.length := by omega
              have hfi : firstIn ext x B = emptyB := by rw [hd2, hj', List.drop_length]; rfl
              (refine And.intro ?_ ?_; ((first | (with_reducible assumption) | (intro _; with_reducible assumption) | omega | (simp only [reduceCtorEq, ints_len, bools_len, Bool.not_false, Bool.not_true, List.length_map, decide_eq_true_eq, decide_eq_false_iff_not, Bool.not_eq_true', Bool.not_eq_false', Bool.and_eq_true, Bool.or_eq_true, Bool.and_eq_false_iff, Bool.or_eq_false_iff, beq_iff_eq, bne_iff_ne, beq_eq_false_iff_ne, bne_eq_false_iff_eq, Int.not_lt, Int.not_le, ge_iff_le, gt_iff_lt, not_or, not_and, Bool.cond_true_right, Bool.cond_true_left, Bool.cond_false_right, Bool.cond_false_left, bif_t, bif_f] at *; omega) | (intro hg; (try simp only [reduceCtorEq, ints_len, bools_len, Bool.not_false, Bool.not_true, List.length_map, decide_eq_true_eq, decide_eq_false_iff_not, Bool.not_eq_true', Bool.not_eq_false', Bool.and_eq_true, Bool.or_eq_true, Bool.and_eq_false_iff, Bool.or_eq_false_iff, beq_iff_eq, bne_iff_ne, beq_eq_false_iff_ne, bne_eq_false_iff_eq, Int.not_lt, Int.not_le, ge_iff_le, gt_iff_lt, not_or, not_and, Bool.cond_true_right, Bool.cond_true_left, Bool.cond_false_right, Bool.cond_false_left, bif_t, bif_f] at hg); first | (with_reducible assumption) | omega | (simp only [reduceCtorEq, ints_len, bools_len, Bool.not_false, Bool.not_true, List.length_map, decide_eq_true_eq, decide_eq_false_iff_not, Bool.not_eq_true', Bool.not_eq_false', Bool.and_eq_true, Bool.or_eq_true, Bool.and_eq_false_iff, Bool.or_eq_false_iff, beq_iff_eq, bne_iff_ne, beq_eq_false_iff_ne, bne_eq_false_iff_eq, Int.not_lt, Int.not_le, ge_iff_le, gt_iff_lt, not_or, not_and, Bool.cond_true_right, Bool.cond_true_left, Bool.cond_false_right, Bool.cond_false_left, bif_t, bif_f] at *; omega) | (refine ⟨?_, ?_⟩ <;> omega)) | (refine ⟨?_, ?_⟩ <;> omega) | (simp [*]; done) | grind)); (conv => whnf))
              refine ⟨A.length - (i + 1), by omega, [], ?_⟩
              conv => whnf
              refine ⟨i + 1, by omega, rfl, ?_, rfl⟩
              rw [firstOf, if_neg (by rw [hfi]; simp)]
        · have hi' : i = A.length := by omega
          rw [hi', List.drop_length]
          (refine ⟨[], ?_⟩; (conv => whnf); refine ⟨[], .nil, .nil, ?_⟩; (conv => whnf))
          rfl
def R83 : Ct := fun ss hp r out => ∃ (p q : Kern), ss = [.v (.ag (p.c.map .d)), .v (.ag (q.c.map .d))] ∧ hp = [] ∧ p.bulk ≤ 4194304 ∧ q.bulk ≤ 4194304 ∧ isKern p = true ∧ isKern q = true ∧ r = .one (.d (.str (whyF p q))) ∧ out = []
set_option maxHeartbeats 4000000 in
theorem ok83 : VSound Try.prog (83, R83) := by
  refine vsound (T := ty) (F := [(106, R106), (111, R111)]) (pl := []) (nw := true) (cuts := []) mix tyOk (.cons (ok106) (.cons (ok111) .nil)) Try.func83 (by kernel_rfl) (by kernel_rfl) ?_
  rintro _ _ _ _ ⟨⟨ext, A⟩, ⟨ext2, B⟩, rfl, rfl, hp, hq, kp, kq, rfl, rfl⟩
  have hp2 := (isKern_iff _).1 kp
  have hq2 := (isKern_iff _).1 kq
  simp only at hp2 hq2
  have hm := many_prod hp2.1
  have hm2 := many_prod hq2.1
  conv => whnf
  (refine ⟨[], false, false, ?_⟩; (conv => whnf); refine ⟨_, _, ⟨ext, ext2, rfl, rfl, by omega, rfl, rfl⟩, ?_⟩; (conv => whnf))
  refine ⟨fun e => ?_, fun e => ?_⟩
  · have e1 : ext ≠ ext2 := by simpa using e
    have hh : whyF ⟨ext, A⟩ ⟨ext2, B⟩ = extentB := by unfold whyF; rw [if_pos e1]
    rw [hh]
    conv => whnf
    (refine ⟨[], ?_⟩; (conv => whnf); refine ⟨[], .nil, .nil, ?_⟩; (conv => whnf))
    rfl
  · have e1 : ext = ext2 := by simpa using e
    subst e1
    conv => whnf
    rw [map_len, map_len]
    (repeat' (first | ((with_reducible refine And.intro (fun (e : (_ : Bool) = true) => ?_) (fun (e : (_ : Bool) = false) => ?_)) <;> (try simp only [reduceCtorEq, ints_len, bools_len, Bool.not_false, Bool.not_true, List.length_map, decide_eq_true_eq, decide_eq_false_iff_not, Bool.not_eq_true', Bool.not_eq_false', Bool.and_eq_true, Bool.or_eq_true, Bool.and_eq_false_iff, Bool.or_eq_false_iff, beq_iff_eq, bne_iff_ne, beq_eq_false_iff_ne, bne_eq_false_iff_eq, Int.not_lt, Int.not_le, ge_iff_le, gt_iff_lt, not_or, not_and, Bool.cond_true_right, Bool.cond_true_left, Bool.cond_false_right, Bool.cond_false_left, bif_t, bif_f] at e) <;> (conv => whnf)) | ((with_reducible refine And.intro (fun (e : (_ : Bool) = false) => ?_) (fun (e : (_ : Bool) = true) => ?_)) <;> (try simp only [reduceCtorEq, ints_len, bools_len, Bool.not_false, Bool.not_true, List.length_map, decide_eq_true_eq, decide_eq_false_iff_not, Bool.not_eq_true', Bool.not_eq_false', Bool.and_eq_true, Bool.or_eq_true, Bool.and_eq_false_iff, Bool.or_eq_false_iff, beq_iff_eq, bne_iff_ne, beq_eq_false_iff_ne, bne_eq_false_iff_eq, Int.not_lt, Int.not_le, ge_iff_le, gt_iff_lt, not_or, not_and, Bool.cond_true_right, Bool.cond_true_left, Bool.cond_false_right, Bool.cond_false_left, bif_t, bif_f] at e) <;> (conv => whnf)) | (refine And.intro ?_ ?_; ((first | (with_reducible assumption) | (intro _; with_reducible assumption) | omega | (simp only [reduceCtorEq, ints_len, bools_len, Bool.not_false, Bool.not_true, List.length_map, decide_eq_true_eq, decide_eq_false_iff_not, Bool.not_eq_true', Bool.not_eq_false', Bool.and_eq_true, Bool.or_eq_true, Bool.and_eq_false_iff, Bool.or_eq_false_iff, beq_iff_eq, bne_iff_ne, beq_eq_false_iff_ne, bne_eq_false_iff_eq, Int.not_lt, Int.not_le, ge_iff_le, gt_iff_lt, not_or, not_and, Bool.cond_true_right, Bool.cond_true_left, Bool.cond_false_right, Bool.cond_false_left, bif_t, bif_f] at *; omega) | (intro hg; (try simp only [reduceCtorEq, ints_len, bools_len, Bool.not_false, Bool.not_true, List.length_map, decide_eq_true_eq, decide_eq_false_iff_not, Bool.not_eq_true', Bool.not_eq_false', Bool.and_eq_true, Bool.or_eq_true, Bool.and_eq_false_iff, Bool.or_eq_false_iff, beq_iff_eq, bne_iff_ne, beq_eq_false_iff_ne, bne_eq_false_iff_eq, Int.not_lt, Int.not_le, ge_iff_le, gt_iff_lt, not_or, not_and, Bool.cond_true_right, Bool.cond_true_left, Bool.cond_false_right, Bool.cond_false_left, bif_t, bif_f] at hg); first | (with_reducible assumption) | omega | (simp only [reduceCtorEq, ints_len, bools_len, Bool.not_false, Bool.not_true, List.length_map, decide_eq_true_eq, decide_eq_false_iff_not, Bool.not_eq_true', Bool.not_eq_false', Bool.and_eq_true, Bool.or_eq_true, Bool.and_eq_false_iff, Bool.or_eq_false_iff, beq_iff_eq, bne_iff_ne, beq_eq_false_iff_ne, bne_eq_false_iff_eq, Int.not_lt, Int.not_le, ge_iff_le, gt_iff_lt, not_or, not_and, Bool.cond_true_right, Bool.cond_true_left, Bool.cond_false_right, Bool.cond_false_left, bif_t, bif_f] at *; omega) | (refine ⟨?_, ?_⟩ <;> omega)) | (refine ⟨?_, ?_⟩ <;> omega) | (simp [*]; done) | grind)); (conv => whnf))))
    · have hh : whyF ⟨ext, A⟩ ⟨ext, B⟩ = setsB := by unfold whyF; rw [if_neg (by simp), if_pos (by simp only; omega)]
      rw [hh]
      (refine ⟨[], ?_⟩; (conv => whnf); refine ⟨[], .nil, .nil, ?_⟩; (conv => whnf))
      rfl
    · have e2 := e
      have hh : whyF ⟨ext, A⟩ ⟨ext, B⟩ = firstOf ext B A := by unfold whyF; rw [if_neg (by simp), if_neg (by simp only; omega)]
      rw [hh]
      refine ⟨[], [2, 3, 26, 27], 2, fun n1 σ => ∃ i : Nat, i ≤ A.length ∧ n1 = A.length - i ∧ firstOf ext B A = firstOf ext B (A.drop i) ∧ σ = (⟨[.junk, .junk, .one (.ptr 0 0), .one (.ptr 1 0), .junk, .junk, .junk, .junk, .junk, .junk, .junk, .junk, .junk, .junk, .junk, .junk, .junk, .junk, .junk, .junk, .junk, .junk, .junk, .junk, .junk, .junk, .di .i64 A.length, .di .i64 i, .junk, .junk, .junk, .junk, .junk, .junk, .junk, .junk, .junk, .junk, .junk, .junk, .junk, .junk, .junk, .junk, .junk, .junk], [.box ((Kern.mk ext A).c.map .d), .box ((Kern.mk ext B).c.map .d)]⟩ : St), ?_, ?_⟩
      · refine ⟨A.length, ?_⟩
        conv => whnf
        exact ⟨0, by omega, by omega, rfl, by rw [map_len]; rfl⟩
      · rintro n1 _ ⟨i, hi, rfl, hd, rfl⟩
        rw [hd]
        conv => whnf
        ((with_reducible refine And.intro (fun (e : (_ : Bool) = true) => ?_) (fun (e : (_ : Bool) = false) => ?_)) <;> (try simp only [reduceCtorEq, ints_len, bools_len, Bool.not_false, Bool.not_true, List.length_map, decide_eq_true_eq, decide_eq_false_iff_not, Bool.not_eq_true', Bool.not_eq_false', Bool.and_eq_true, Bool.or_eq_true, Bool.and_eq_false_iff, Bool.or_eq_false_iff, beq_iff_eq, bne_iff_ne, beq_eq_false_iff_ne, bne_eq_false_iff_eq, Int.not_lt, Int.not_le, ge_iff_le, gt_iff_lt, not_or, not_and, Bool.cond_true_right, Bool.cond_true_left, Bool.cond_false_right, Bool.cond_false_left, bif_t, bif_f] at e) <;> (conv => whnf))
        · obtain ⟨x, hx⟩ := get_lt (l := A) (i := i) (by omega)
          have hdr : A.drop i = x :: A.drop (i + 1) := by
            obtain ⟨h1, h2⟩ := List.getElem?_eq_some_iff.1 hx
            rw [List.drop_eq_getElem_cons h1, h2]
          rw [hdr]
          obtain ⟨x1, x2, x3⟩ := kern_refs kp (List.mem_of_getElem? hx)
          have hxb := setsBulk_get hx
          refine ⟨[], [2, 3, 5, 26, 27, 32, 33], 2, fun n2 σ => ∃ j : Nat, j ≤ B.length ∧ n2 = B.length - j ∧ firstIn ext x B = firstIn ext x (B.drop j) ∧ σ = (⟨[.junk, .junk, .one (.ptr 0 0), .one (.ptr 1 0), .junk, .di .i64 i, .junk, .junk, .junk, .junk, .junk, .junk, .junk, .junk, .junk, .junk, .junk, .junk, .junk, .junk, .junk, .junk, .junk, .junk, .junk, .junk, .di .i64 A.length, .di .i64 i, .junk, .junk, .junk, .junk, .di .i64 B.length, .di .i64 j, .junk, .junk, .junk, .junk, .junk, .junk, .junk, .junk, .junk, .junk, .junk, .junk], [.box ((Kern.mk ext A).c.map .d), .box ((Kern.mk ext B).c.map .d)]⟩ : St), ?_, ?_⟩
          · refine ⟨B.length, ?_⟩
            conv => whnf
            exact ⟨0, by omega, by omega, rfl, by rw [map_len]; rfl⟩
          · rintro n2 _ ⟨j, hj, rfl, hd2, rfl⟩
            conv => whnf
            ((with_reducible refine And.intro (fun (e : (_ : Bool) = true) => ?_) (fun (e : (_ : Bool) = false) => ?_)) <;> (try simp only [reduceCtorEq, ints_len, bools_len, Bool.not_false, Bool.not_true, List.length_map, decide_eq_true_eq, decide_eq_false_iff_not, Bool.not_eq_true', Bool.not_eq_false', Bool.and_eq_true, Bool.or_eq_true, Bool.and_eq_false_iff, Bool.or_eq_false_iff, beq_iff_eq, bne_iff_ne, beq_eq_false_iff_ne, bne_eq_false_iff_eq, Int.not_lt, Int.not_le, ge_iff_le, gt_iff_lt, not_or, not_and, Bool.cond_true_right, Bool.cond_true_left, Bool.cond_false_right, Bool.cond_false_left, bif_t, bif_f] at e) <;> (conv => whnf))
            · obtain ⟨y, hy⟩ := get_lt (l := B) (i := j) (by omega)
              have hdr2 : B.drop j = y :: B.drop (j + 1) := by
                obtain ⟨h1, h2⟩ := List.getElem?_eq_some_iff.1 hy
                rw [List.drop_eq_getElem_cons h1, h2]
              obtain ⟨y1, y2, y3⟩ := kern_refs kq (List.mem_of_getElem? hy)
              have hyb := setsBulk_get hy
              have hxl := x.loads_len
              have hyl := y.loads_len
              simp only [Kern.bulk] at hp hq
              have hc := hinder_cases ext x y
              obtain ⟨⟨xa, xb, xs⟩, xm, ⟨xop, xk, xn, xr, xkids⟩⟩ := x
              conv => whnf
              obtain ⟨⟨ya, yb, ys⟩, ym, ⟨yop, yk, yn, yr, ykids⟩⟩ := y
              conv => whnf
              (refine ⟨[], false, false, ?_⟩; (conv => whnf); refine ⟨_, _, ⟨⟨ext, A⟩, ⟨ext, B⟩, i, j, ⟨⟨xa, xb, xs⟩, xm, ⟨xop, xk, xn, xr, xkids⟩⟩, ⟨⟨ya, yb, ys⟩, ym, ⟨yop, yk, yn, yr, ykids⟩⟩, rfl, rfl, by simp only; omega, by simp only; omega, hx, hy, by simp only [Kern.bulk, setsBulk]; omega, by simp only [Kern.bulk, setsBulk]; omega, x3, y3, by omega, by omega, x1, y1, x2, y2, rfl, rfl⟩, ?_⟩; (conv => whnf))
              generalize hH : hinder ext ⟨⟨xa, xb, xs⟩, xm, ⟨xop, xk, xn, xr, xkids⟩⟩ ⟨⟨ya, yb, ys⟩, ym, ⟨yop, yk, yn, yr, ykids⟩⟩ = H at *
              have hcase : H = emptyB ∨ (H ≠ emptyB ∧ (!(H.toList == emptyB.toList)) = true) := by
                rcases hc with rfl | rfl | rfl | rfl
                · exact .inr ⟨by decide, by decide +kernel⟩
                · exact .inr ⟨by decide, by decide +kernel⟩
                · exact .inr ⟨by decide, by decide +kernel⟩
                · exact .inl rfl
              rcases hcase with rfl | ⟨hne, hne2⟩
              · refine ⟨fun h => absurd h (by decide +kernel), fun _ => ?_⟩
                conv => whnf
                (refine And.intro ?_ ?_; ((first | (with_reducible assumption) | (intro _; with_reducible assumption) | omega | (simp only [reduceCtorEq, ints_len, bools_len, Bool.not_false, Bool.not_true, List.length_map, decide_eq_true_eq, decide_eq_false_iff_not, Bool.not_eq_true', Bool.not_eq_false', Bool.and_eq_true, Bool.or_eq_true, Bool.and_eq_false_iff, Bool.or_eq_false_iff, beq_iff_eq, bne_iff_ne, beq_eq_false_iff_ne, bne_eq_false_iff_eq, Int.not_lt, Int.not_le, ge_iff_le, gt_iff_lt, not_or, not_and, Bool.cond_true_right, Bool.cond_true_left, Bool.cond_false_right, Bool.cond_false_left, bif_t, bif_f] at *; omega) | (intro hg; (try simp only [reduceCtorEq, ints_len, bools_len, Bool.not_false, Bool.not_true, List.length_map, decide_eq_true_eq, decide_eq_false_iff_not, Bool.not_eq_true', Bool.not_eq_false', Bool.and_eq_true, Bool.or_eq_true, Bool.and_eq_false_iff, Bool.or_eq_false_iff, beq_iff_eq, bne_iff_ne, beq_eq_false_iff_ne, bne_eq_false_iff_eq, Int.not_lt, Int.not_le, ge_iff_le, gt_iff_lt, not_or, not_and, Bool.cond_true_right, Bool.cond_true_left, Bool.cond_false_right, Bool.cond_false_left, bif_t, bif_f] at hg); first | (with_reducible assumption) | omega | (simp only [reduceCtorEq, ints_len, bools_len, Bool.not_false, Bool.not_true, List.length_map, decide_eq_true_eq, decide_eq_false_iff_not, Bool.not_eq_true', Bool.not_eq_false', Bool.and_eq_true, Bool.or_eq_true, Bool.and_eq_false_iff, Bool.or_eq_false_iff, beq_iff_eq, bne_iff_ne, beq_eq_false_iff_ne, bne_eq_false_iff_eq, Int.not_lt, Int.not_le, ge_iff_le, gt_iff_lt, not_or, not_and, Bool.cond_true_right, Bool.cond_true_left, Bool.cond_false_right, Bool.cond_false_left, bif_t, bif_f] at *; omega) | (refine ⟨?_, ?_⟩ <;> omega)) | (refine ⟨?_, ?_⟩ <;> omega) | (simp [*]; done) | grind)); (conv => whnf))
                refine ⟨B.length - (j + 1), by omega, [], ?_⟩
                conv => whnf
                refine ⟨j + 1, by omega, rfl, ?_, rfl⟩
                rw [hd2, hdr2, hinder_none hH]
              · refine ⟨fun _ => ?_, fun h => absurd (h.symm.trans hne2) (by decide)⟩
                conv => whnf
                have hfo : firstOf ext B (⟨⟨xa, xb, xs⟩, xm, ⟨xop, xk, xn, xr, xkids⟩⟩ :: A.drop (i + 1)) = H := by
                  have hfi : firstIn ext ⟨⟨xa, xb, xs⟩, xm, ⟨xop, xk, xn, xr, xkids⟩⟩ B = H := by rw [hd2, hdr2, hinder_some (by rw [hH]; exact hne), hH]
                  rw [firstOf, if_pos (by rw [hfi]; exact hne), hfi]
                rw [hfo]
                (refine ⟨[], ?_⟩; (conv => whnf); refine ⟨[], .nil, .nil, ?_⟩; (conv => whnf))
            · have hj' : j = B.length := by omega
              have hfi : firstIn ext x B = emptyB := by rw [hd2, hj', List.drop_length]; rfl
              (refine And.intro ?_ ?_; ((first | (with_reducible assumption) | (intro _; with_reducible assumption) | omega | (simp only [reduceCtorEq, ints_len, bools_len, Bool.not_false, Bool.not_true, List.length_map, decide_eq_true_eq, decide_eq_false_iff_not, Bool.not_eq_true', Bool.not_eq_false', Bool.and_eq_true, Bool.or_eq_true, Bool.and_eq_false_iff, Bool.or_eq_false_iff, beq_iff_eq, bne_iff_ne, beq_eq_false_iff_ne, bne_eq_false_iff_eq, Int.not_lt, Int.not_le, ge_iff_le, gt_iff_lt, not_or, not_and, Bool.cond_true_right, Bool.cond_true_left, Bool.cond_false_right, Bool.cond_false_left, bif_t, bif_f] at *; omega) | (intro hg; (try simp only [reduceCtorEq, ints_len, bools_len, Bool.not_false, Bool.not_true, List.length_map, decide_eq_true_eq, decide_eq_false_iff_not, Bool.not_eq_true', Bool.not_eq_false', Bool.and_eq_true, Bool.or_eq_true, Bool.and_eq_false_iff, Bool.or_eq_false_iff, beq_iff_eq, bne_iff_ne, beq_eq_false_iff_ne, bne_eq_false_iff_eq, Int.not_lt, Int.not_le, ge_iff_le, gt_iff_lt, not_or, not_and, Bool.cond_true_right, Bool.cond_true_left, Bool.cond_false_right, Bool.cond_false_left, bif_t, bif_f] at hg); first | (with_reducible assumption) | omega | (simp only [reduceCtorEq, ints_len, bools_len, Bool.not_false, Bool.not_true, List.length_map, decide_eq_true_eq, decide_eq_false_iff_not, Bool.not_eq_true', Bool.not_eq_false', Bool.and_eq_true, Bool.or_eq_true, Bool.and_eq_false_iff, Bool.or_eq_false_iff, beq_iff_eq, bne_iff_ne, beq_eq_false_iff_ne, bne_eq_false_iff_eq, Int.not_lt, Int.not_le, ge_iff_le, gt_iff_lt, not_or, not_and, Bool.cond_true_right, Bool.cond_true_left, Bool.cond_false_right, Bool.cond_false_left, bif_t, bif_f] at *; omega) | (refine ⟨?_, ?_⟩ <;> omega)) | (refine ⟨?_, ?_⟩ <;> omega) | (simp [*]; done) | grind)); (conv => whnf))
              refine ⟨A.length - (i + 1), by omega, [], ?_⟩
              conv => whnf
              refine ⟨i + 1, by omega, rfl, ?_, rfl⟩
              rw [firstOf, if_neg (by rw [hfi]; simp)]
        · have hi' : i = A.length := by omega
          rw [hi', List.drop_length]
          (refine ⟨[], ?_⟩; (conv => whnf); refine ⟨[], .nil, .nil, ?_⟩; (conv => whnf))
          rfl
end Go.Proofs.Ytahdihhhankhdaa.V
-- Vfb
namespace Go.Proofs.Ytahdihhhankhdaa.V
open Go.Proofs.YtahdihhhankhdaaVY Go.RowKit
def bothK (p q : Kern) : Bool := isKern p && isKern q
def whyR (p q : Kern) : ByteArray := if bothK p q = true then whyF p q else emptyB
def askErr (p q : Kern) : Int := if bothK p q = true then 0 else 2
def mayB (p q : Kern) : Bool := bothK p q && (whyF p q).toList == emptyB.toList
def R82 : Ct := fun ss hp r out => ∃ k : Kern, ss = [.v (.ag (k.c.map .d))] ∧ hp = [] ∧ k.bulk ≤ 4194304 ∧ r = .db (isKern k) ∧ out = []
set_option maxHeartbeats 4000000 in
theorem ok82 : VSound Try.prog (82, R82) := by
  refine vsound (T := ty) (F := [(94, R94)]) (pl := []) (nw := true) (cuts := []) mix tyOk (.cons (ok94) .nil) Try.func82 (by kernel_rfl) (by kernel_rfl) ?_
  rintro _ _ _ _ ⟨⟨ext, sets⟩, rfl, rfl, hm, rfl, rfl⟩
  conv => whnf
  (refine ⟨[], false, false, ?_⟩; (conv => whnf); refine ⟨_, _, ⟨⟨ext, sets⟩, rfl, rfl, hm, rfl, rfl⟩, ?_⟩; (conv => whnf))
  (repeat' (first | ((with_reducible refine And.intro (fun (e : (_ : Bool) = true) => ?_) (fun (e : (_ : Bool) = false) => ?_)) <;> (try simp only [reduceCtorEq, ints_len, bools_len, Bool.not_false, Bool.not_true, List.length_map, decide_eq_true_eq, decide_eq_false_iff_not, Bool.not_eq_true', Bool.not_eq_false', Bool.and_eq_true, Bool.or_eq_true, Bool.and_eq_false_iff, Bool.or_eq_false_iff, beq_iff_eq, bne_iff_ne, beq_eq_false_iff_ne, bne_eq_false_iff_eq, Int.not_lt, Int.not_le, ge_iff_le, gt_iff_lt, not_or, not_and, Bool.cond_true_right, Bool.cond_true_left, Bool.cond_false_right, Bool.cond_false_left, bif_t, bif_f] at e) <;> (conv => whnf)) | (refine And.intro ?_ ?_; ((first | (with_reducible assumption) | (intro _; with_reducible assumption) | omega | (simp only [reduceCtorEq, ints_len, bools_len, Bool.not_false, Bool.not_true, List.length_map, decide_eq_true_eq, decide_eq_false_iff_not, Bool.not_eq_true', Bool.not_eq_false', Bool.and_eq_true, Bool.or_eq_true, Bool.and_eq_false_iff, Bool.or_eq_false_iff, beq_iff_eq, bne_iff_ne, beq_eq_false_iff_ne, bne_eq_false_iff_eq, Int.not_lt, Int.not_le, ge_iff_le, gt_iff_lt, not_or, not_and, Bool.cond_true_right, Bool.cond_true_left, Bool.cond_false_right, Bool.cond_false_left, bif_t, bif_f] at *; omega) | (intro hg; (try simp only [reduceCtorEq, ints_len, bools_len, Bool.not_false, Bool.not_true, List.length_map, decide_eq_true_eq, decide_eq_false_iff_not, Bool.not_eq_true', Bool.not_eq_false', Bool.and_eq_true, Bool.or_eq_true, Bool.and_eq_false_iff, Bool.or_eq_false_iff, beq_iff_eq, bne_iff_ne, beq_eq_false_iff_ne, bne_eq_false_iff_eq, Int.not_lt, Int.not_le, ge_iff_le, gt_iff_lt, not_or, not_and, Bool.cond_true_right, Bool.cond_true_left, Bool.cond_false_right, Bool.cond_false_left, bif_t, bif_f] at hg); first | (with_reducible assumption) | omega | (simp only [reduceCtorEq, ints_len, bools_len, Bool.not_false, Bool.not_true, List.length_map, decide_eq_true_eq, decide_eq_false_iff_not, Bool.not_eq_true', Bool.not_eq_false', Bool.and_eq_true, Bool.or_eq_true, Bool.and_eq_false_iff, Bool.or_eq_false_iff, beq_iff_eq, bne_iff_ne, beq_eq_false_iff_ne, bne_eq_false_iff_eq, Int.not_lt, Int.not_le, ge_iff_le, gt_iff_lt, not_or, not_and, Bool.cond_true_right, Bool.cond_true_left, Bool.cond_false_right, Bool.cond_false_left, bif_t, bif_f] at *; omega) | (refine ⟨?_, ?_⟩ <;> omega)) | (refine ⟨?_, ?_⟩ <;> omega) | (simp [*]; done) | grind)); (conv => whnf))))
  (refine ⟨[], ?_⟩; (conv => whnf); refine ⟨[], .nil, .nil, ?_⟩; (conv => whnf))
  congr 1
  unfold isKern
  simp only [reduceCtorEq, ints_len, bools_len, Bool.not_false, Bool.not_true, List.length_map, decide_eq_true_eq, decide_eq_false_iff_not, Bool.not_eq_true', Bool.not_eq_false', Bool.and_eq_true, Bool.or_eq_true, Bool.and_eq_false_iff, Bool.or_eq_false_iff, beq_iff_eq, bne_iff_ne, beq_eq_false_iff_ne, bne_eq_false_iff_eq, Int.not_lt, Int.not_le, ge_iff_le, gt_iff_lt, not_or, not_and, Bool.cond_true_right, Bool.cond_true_left, Bool.cond_false_right, Bool.cond_false_left, bif_t, bif_f]
  cases formed ⟨ext, sets⟩ <;> simp <;> (by_cases h1 : 1 ≤ sets.length <;> by_cases h2 : sets.length ≤ 8 <;> simp [h1, h2] <;> omega)
theorem bothK_iff {p q : Kern} : bothK p q = true ↔ isKern p = true ∧ isKern q = true := by unfold bothK; simp only [Bool.and_eq_true]
def R45 : Ct := fun ss hp r out => ∃ (p q : Kern), ss = [.v (.ag (p.c.map .d)), .v (.ag (q.c.map .d))] ∧ hp = [] ∧ p.bulk ≤ 4194304 ∧ q.bulk ≤ 4194304 ∧ r = .tup [.c (.d (.str (whyR p q))), .c (.d (.int .i64 (askErr p q)))] ∧ out = []
set_option maxHeartbeats 4000000 in
theorem ok45 : VSound Try.prog (45, R45) := by
  refine vsound (T := ty) (F := [(82, R82), (83, R83)]) (pl := []) (nw := true) (cuts := []) mix tyOk (.cons (ok82) (.cons (ok83) .nil)) Try.func45 (by kernel_rfl) (by kernel_rfl) ?_
  rintro _ _ _ _ ⟨⟨ext, A⟩, ⟨ext2, B⟩, rfl, rfl, hp, hq, rfl, rfl⟩
  conv => whnf
  (refine ⟨[], false, false, ?_⟩; (conv => whnf); refine ⟨_, _, ⟨⟨ext, A⟩, rfl, rfl, hp, rfl, rfl⟩, ?_⟩; (conv => whnf))
  cases hk : isKern ⟨ext, A⟩ with
  | false =>
    have hb : bothK ⟨ext, A⟩ ⟨ext2, B⟩ = false := by unfold bothK; rw [hk]; rfl
    rw [whyR, askErr, hb]
    ((first | refine And.intro (fun _ => ?_) (fun h => absurd h (by decide)) | refine And.intro (fun h => absurd h (by decide)) (fun _ => ?_)); (conv => whnf))
    (repeat ((first | with_reducible refine And.intro (fun h => h) ?_ | with_reducible refine And.intro (fun _ => rfl) ?_ | with_reducible refine And.intro rfl ?_); conv => whnf))
    ((first | refine And.intro (fun _ => ?_) (fun h => absurd h (by decide)) | refine And.intro (fun h => absurd h (by decide)) (fun _ => ?_)); (conv => whnf))
    (refine ⟨[], ?_⟩; (conv => whnf); refine ⟨[], .nil, .nil, ?_⟩)
    exact .cons rfl (.cons rfl .nil)
  | true =>
    ((first | refine And.intro (fun _ => ?_) (fun h => absurd h (by decide)) | refine And.intro (fun h => absurd h (by decide)) (fun _ => ?_)); (conv => whnf))
    (repeat ((first | with_reducible refine And.intro (fun h => h) ?_ | with_reducible refine And.intro (fun _ => rfl) ?_ | with_reducible refine And.intro rfl ?_); conv => whnf))
    (refine ⟨[], false, false, ?_⟩; (conv => whnf); refine ⟨_, _, ⟨⟨ext2, B⟩, rfl, rfl, hq, rfl, rfl⟩, ?_⟩; (conv => whnf))
    cases hk2 : isKern ⟨ext2, B⟩ with
    | false =>
      have hb : bothK ⟨ext, A⟩ ⟨ext2, B⟩ = false := by unfold bothK; rw [hk2, Bool.and_false]
      rw [whyR, askErr, hb]
      (repeat ((first | with_reducible refine And.intro (fun h => h) ?_ | with_reducible refine And.intro (fun _ => rfl) ?_ | with_reducible refine And.intro rfl ?_); conv => whnf))
      ((first | refine And.intro (fun _ => ?_) (fun h => absurd h (by decide)) | refine And.intro (fun h => absurd h (by decide)) (fun _ => ?_)); (conv => whnf))
      (refine ⟨[], ?_⟩; (conv => whnf); refine ⟨[], .nil, .nil, ?_⟩)
      exact .cons rfl (.cons rfl .nil)
    | true =>
      have hb : bothK ⟨ext, A⟩ ⟨ext2, B⟩ = true := by unfold bothK; rw [hk, hk2]; rfl
      rw [whyR, askErr, if_pos hb, if_pos hb]
      (repeat ((first | with_reducible refine And.intro (fun h => h) ?_ | with_reducible refine And.intro (fun _ => rfl) ?_ | with_reducible refine And.intro rfl ?_); conv => whnf))
      ((first | refine And.intro (fun _ => ?_) (fun h => absurd h (by decide)) | refine And.intro (fun h => absurd h (by decide)) (fun _ => ?_)); (conv => whnf))
      (refine ⟨[], false, false, ?_⟩; (conv => whnf); refine ⟨_, _, ⟨⟨ext, A⟩, ⟨ext2, B⟩, rfl, rfl, hp, hq, hk, hk2, rfl, rfl⟩, ?_⟩; (conv => whnf))
      (refine ⟨[], ?_⟩; (conv => whnf); refine ⟨[], .nil, .nil, ?_⟩)
      exact .cons rfl (.cons rfl .nil)
def R46 : Ct := fun ss hp r out => ∃ (p q : Kern), ss = [.v (.ag (p.c.map .d)), .v (.ag (q.c.map .d))] ∧ hp = [] ∧ p.bulk ≤ 4194304 ∧ q.bulk ≤ 4194304 ∧ r = .tup [.c (.d (.str (whyR p q))), .c (.d (.int .i64 (askErr p q)))] ∧ out = []
set_option maxHeartbeats 4000000 in
theorem ok46 : VSound Try.prog (46, R46) := by
  refine vsound (T := ty) (F := [(61, R61), (84, R84)]) (pl := []) (nw := true) (cuts := []) mix tyOk (.cons (ok61) (.cons (ok84) .nil)) Try.func46 (by kernel_rfl) (by kernel_rfl) ?_
  rintro _ _ _ _ ⟨⟨ext, A⟩, ⟨ext2, B⟩, rfl, rfl, hp, hq, rfl, rfl⟩
  conv => whnf
  (refine ⟨[], false, false, ?_⟩; (conv => whnf); refine ⟨_, _, ⟨⟨ext, A⟩, rfl, rfl, hp, rfl, rfl⟩, ?_⟩; (conv => whnf))
  cases hk : isKern ⟨ext, A⟩ with
  | false =>
    have hb : bothK ⟨ext, A⟩ ⟨ext2, B⟩ = false := by unfold bothK; rw [hk]; rfl
    rw [whyR, askErr, hb]
    ((first | refine And.intro (fun _ => ?_) (fun h => absurd h (by decide)) | refine And.intro (fun h => absurd h (by decide)) (fun _ => ?_)); (conv => whnf))
    (repeat ((first | with_reducible refine And.intro (fun h => h) ?_ | with_reducible refine And.intro (fun _ => rfl) ?_ | with_reducible refine And.intro rfl ?_); conv => whnf))
    ((first | refine And.intro (fun _ => ?_) (fun h => absurd h (by decide)) | refine And.intro (fun h => absurd h (by decide)) (fun _ => ?_)); (conv => whnf))
    (refine ⟨[], ?_⟩; (conv => whnf); refine ⟨[], .nil, .nil, ?_⟩)
    exact .cons rfl (.cons rfl .nil)
  | true =>
    ((first | refine And.intro (fun _ => ?_) (fun h => absurd h (by decide)) | refine And.intro (fun h => absurd h (by decide)) (fun _ => ?_)); (conv => whnf))
    (repeat ((first | with_reducible refine And.intro (fun h => h) ?_ | with_reducible refine And.intro (fun _ => rfl) ?_ | with_reducible refine And.intro rfl ?_); conv => whnf))
    (refine ⟨[], false, false, ?_⟩; (conv => whnf); refine ⟨_, _, ⟨⟨ext2, B⟩, rfl, rfl, hq, rfl, rfl⟩, ?_⟩; (conv => whnf))
    cases hk2 : isKern ⟨ext2, B⟩ with
    | false =>
      have hb : bothK ⟨ext, A⟩ ⟨ext2, B⟩ = false := by unfold bothK; rw [hk2, Bool.and_false]
      rw [whyR, askErr, hb]
      (repeat ((first | with_reducible refine And.intro (fun h => h) ?_ | with_reducible refine And.intro (fun _ => rfl) ?_ | with_reducible refine And.intro rfl ?_); conv => whnf))
      ((first | refine And.intro (fun _ => ?_) (fun h => absurd h (by decide)) | refine And.intro (fun h => absurd h (by decide)) (fun _ => ?_)); (conv => whnf))
      (refine ⟨[], ?_⟩; (conv => whnf); refine ⟨[], .nil, .nil, ?_⟩)
      exact .cons rfl (.cons rfl .nil)
    | true =>
      have hb : bothK ⟨ext, A⟩ ⟨ext2, B⟩ = true := by unfold bothK; rw [hk, hk2]; rfl
      rw [whyR, askErr, if_pos hb, if_pos hb]
      (repeat ((first | with_reducible refine And.intro (fun h => h) ?_ | with_reducible refine And.intro (fun _ => rfl) ?_ | with_reducible refine And.intro rfl ?_); conv => whnf))
      ((first | refine And.intro (fun _ => ?_) (fun h => absurd h (by decide)) | refine And.intro (fun h => absurd h (by decide)) (fun _ => ?_)); (conv => whnf))
      (refine ⟨[], false, false, ?_⟩; (conv => whnf); refine ⟨_, _, ⟨⟨ext, A⟩, ⟨ext2, B⟩, rfl, rfl, hp, hq, hk, hk2, rfl, rfl⟩, ?_⟩; (conv => whnf))
      (refine ⟨[], ?_⟩; (conv => whnf); refine ⟨[], .nil, .nil, ?_⟩)
      exact .cons rfl (.cons rfl .nil)
def R43 : Ct := fun ss hp r out => ∃ (p q : Kern), ss = [.v (.ag (p.c.map .d)), .v (.ag (q.c.map .d))] ∧ hp = [] ∧ p.bulk ≤ 4194304 ∧ q.bulk ≤ 4194304 ∧ r = .tup [.c (.d (.bool (mayB p q))), .c (.d (.int .i64 (askErr p q)))] ∧ out = []
set_option maxHeartbeats 4000000 in
theorem ok43 : VSound Try.prog (43, R43) := by
  refine vsound (T := ty) (F := [(45, R45)]) (pl := []) (nw := true) (cuts := []) mix tyOk (.cons (ok45) .nil) Try.func43 (by kernel_rfl) (by kernel_rfl) ?_
  rintro _ _ _ _ ⟨⟨ext, A⟩, ⟨ext2, B⟩, rfl, rfl, hp, hq, rfl, rfl⟩
  conv => whnf
  (refine ⟨[], false, false, ?_⟩; (conv => whnf); refine ⟨_, _, ⟨⟨ext, A⟩, ⟨ext2, B⟩, rfl, rfl, hp, hq, rfl, rfl⟩, ?_⟩; (conv => whnf))
  (repeat ((first | with_reducible refine And.intro (fun h => h) ?_ | with_reducible refine And.intro (fun _ => rfl) ?_ | with_reducible refine And.intro rfl ?_); conv => whnf))
  (refine ⟨[], ?_⟩; (conv => whnf); refine ⟨[], .nil, .nil, ?_⟩)
  refine .cons ?_ (.cons rfl .nil)
  show D.bool _ = D.bool _
  congr 1
  rw [mayB, whyR, askErr]
  cases hb : bothK ⟨ext, A⟩ ⟨ext2, B⟩ with
  | false => simp
  | true =>
    generalize whyF ⟨ext, A⟩ ⟨ext2, B⟩ = W
    rw [if_pos rfl, if_pos rfl, Bool.true_and]
    show (bif _ then _ else _) = (W.toList == emptyB.toList)
    first
    | (show (bif (W.toList == emptyB.toList) then true else false) = _
       cases (W.toList == emptyB.toList) <;> rfl)
    | (show (bif true then (W.toList == emptyB.toList) else false) = _; rfl)
def R44 : Ct := fun ss hp r out => ∃ (p q : Kern), ss = [.v (.ag (p.c.map .d)), .v (.ag (q.c.map .d))] ∧ hp = [] ∧ p.bulk ≤ 4194304 ∧ q.bulk ≤ 4194304 ∧ r = .tup [.c (.d (.bool (mayB p q))), .c (.d (.int .i64 (askErr p q)))] ∧ out = []
set_option maxHeartbeats 4000000 in
theorem ok44 : VSound Try.prog (44, R44) := by
  refine vsound (T := ty) (F := [(46, R46)]) (pl := []) (nw := true) (cuts := []) mix tyOk (.cons (ok46) .nil) Try.func44 (by kernel_rfl) (by kernel_rfl) ?_
  rintro _ _ _ _ ⟨⟨ext, A⟩, ⟨ext2, B⟩, rfl, rfl, hp, hq, rfl, rfl⟩
  conv => whnf
  (refine ⟨[], false, false, ?_⟩; (conv => whnf); refine ⟨_, _, ⟨⟨ext, A⟩, ⟨ext2, B⟩, rfl, rfl, hp, hq, rfl, rfl⟩, ?_⟩; (conv => whnf))
  (repeat ((first | with_reducible refine And.intro (fun h => h) ?_ | with_reducible refine And.intro (fun _ => rfl) ?_ | with_reducible refine And.intro rfl ?_); conv => whnf))
  (refine ⟨[], ?_⟩; (conv => whnf); refine ⟨[], .nil, .nil, ?_⟩)
  refine .cons ?_ (.cons rfl .nil)
  show D.bool _ = D.bool _
  congr 1
  rw [mayB, whyR, askErr]
  cases hb : bothK ⟨ext, A⟩ ⟨ext2, B⟩ with
  | false => simp
  | true =>
    generalize whyF ⟨ext, A⟩ ⟨ext2, B⟩ = W
    rw [if_pos rfl, if_pos rfl, Bool.true_and]
    show (bif _ then _ else _) = (W.toList == emptyB.toList)
    first
    | (show (bif (W.toList == emptyB.toList) then true else false) = _
       cases (W.toList == emptyB.toList) <;> rfl)
    | (show (bif true then (W.toList == emptyB.toList) else false) = _; rfl)
end Go.Proofs.Ytahdihhhankhdaa.V
-- Vfc
namespace Go.Proofs.Ytahdihhhankhdaa.V
open Go.Proofs.YtahdihhhankhdaaVY Go.RowKit
def R115 (m : Nat) : Ct := fun ss hp r out => ∃ t : Tree, ss = [.v (.ag (t.c.map .d))] ∧ hp = [] ∧ t.bulk < m ∧ m ≤ 4194305 ∧ r = .v (.ag (t.c.map .d)) ∧ out = []
theorem ok115_0 : VSound Try.prog (115, R115 0) := by
  refine .inl ⟨?_, enterB_ok (by kernel_rfl)⟩
  unfold Ok
  intros
  rename_i hR
  obtain ⟨t, _, _, h, _⟩ := hR
  omega
theorem take_snoc {α : Type} {l : List α} {i : Nat} {x : α} (h : l[i]? = some x) : l.take (i + 1) = l.take i ++ [x] := by
  rw [List.take_add_one, h]; rfl
set_option maxHeartbeats 4000000 in
theorem ok115_s (m : Nat) (ih : VSound Try.prog (115, R115 m)) : VSound Try.prog (115, R115 (m + 1)) := by
  refine vsound (T := ty) (F := [(64, R64), (115, R115 m)]) (pl := [(6, [[], [0], [], [2], [2, 3], [0, 1, 2, 3, 4], [0, 1, 2, 3, 4, 5], [0, 1, 2, 3, 4, 5, 6]], .look 0 (.look 1 (.look 2 (.act 3 [0, 1] (.act 4 [0, 1] (.act 5 [] (.look 6 (.act 7 [] .done .stop)) .stop) .stop) .stop))))]) (nw := true) (cuts := []) mix tyOk (.cons (ok64) (.cons (ih) .nil)) Try.func115 (by kernel_rfl) (by kernel_rfl) ?_
  rintro _ _ _ _ ⟨⟨op, kind, n, ⟨ra, rb, rs⟩, kids⟩, rfl, rfl, hm, hm2, rfl, rfl⟩
  rw [Tree.bulk] at hm
  simp only at hm
  have hkl := treesBulk_len kids
  conv => whnf
  (refine ⟨[], false, false, ?_⟩; (conv => whnf); refine ⟨_, _, ⟨rs, rfl, rfl, by omega, rfl, rfl⟩, ?_⟩; (conv => whnf))
  refine ⟨[.cell 2 6], [1, 2, 3, 15, 16, 17], 5, fun n1 σ => ∃ i : Nat, i ≤ kids.length ∧ n1 = kids.length - i ∧ σ = (⟨[.junk, .one (.ptr 0 0), .one (.ptr 1 0), .one (.ptr 2 0), .junk, .junk, .junk, .junk, .junk, .junk, .junk, .junk, .junk, .junk, .junk, .one (.d (.sl 7 (treesC kids))), .di .i64 kids.length, .di .i64 i, .junk, .junk, .junk, .junk, .junk, .junk, .junk, .junk, .junk, .junk, .junk, .junk], [.box (List.map .d (Tree.mk op kind n ⟨ra, rb, rs⟩ kids).c), .box [.d (.str ⟨#[]⟩), .d (.int .i64 0), .d (.int .i64 0), .d (.int .i64 0), .d (.int .i64 0), .emp 1, .emp 7], .box [.d (.str op), .d (.int .i64 kind), .d (.int .i64 n), .d (.int .i64 ra), .d (.int .i64 rb), .own 3, .own 4], .row 1 (rs.map inC), .row 7 ((kids.take i).map Tree.c)]⟩ : St), ?_, ?_⟩
  · refine ⟨kids.length, ?_⟩
    conv => whnf
    refine ⟨0, by omega, by omega, ?_⟩
    rw [treesC_map, map_len]; rfl
  · rintro n1 _ ⟨i, hi, rfl, rfl⟩
    conv => whnf
    ((with_reducible refine And.intro (fun (e : (_ : Bool) = true) => ?_) (fun (e : (_ : Bool) = false) => ?_)) <;> (try simp only [reduceCtorEq, ints_len, bools_len, Bool.not_false, Bool.not_true, List.length_map, decide_eq_true_eq, decide_eq_false_iff_not, Bool.not_eq_true', Bool.not_eq_false', Bool.and_eq_true, Bool.or_eq_true, Bool.and_eq_false_iff, Bool.or_eq_false_iff, beq_iff_eq, bne_iff_ne, beq_eq_false_iff_ne, bne_eq_false_iff_eq, Int.not_lt, Int.not_le, ge_iff_le, gt_iff_lt, not_or, not_and, Bool.cond_true_right, Bool.cond_true_left, Bool.cond_false_right, Bool.cond_false_left, bif_t, bif_f] at e) <;> (conv => whnf))
    · have hlt : i < kids.length := by omega
      obtain ⟨x, hget⟩ := get_lt hlt
      have hb := treesBulk_get hget
      have ht := take_snoc hget
      (refine ⟨_, And.intro ⟨by omega, (trees_get hget)⟩ ?_⟩; (conv => whnf))
      obtain ⟨xop, xkind, xn, ⟨xa, xb, xs⟩, xkids⟩ := x
      conv => whnf
      (refine ⟨[], false, false, ?_⟩; (conv => whnf); refine ⟨_, _, ⟨.mk xop xkind xn ⟨xa, xb, xs⟩ xkids, rfl, rfl, by omega, by omega, rfl, rfl⟩, ?_⟩; (conv => whnf))
      refine ⟨by rw [map_len, List.length_take]; simp only [List.length_cons, List.length_nil]; omega, ?_⟩
      conv => whnf
      (refine And.intro ?_ ?_; ((first | (with_reducible assumption) | (intro _; with_reducible assumption) | omega | (simp only [reduceCtorEq, ints_len, bools_len, Bool.not_false, Bool.not_true, List.length_map, decide_eq_true_eq, decide_eq_false_iff_not, Bool.not_eq_true', Bool.not_eq_false', Bool.and_eq_true, Bool.or_eq_true, Bool.and_eq_false_iff, Bool.or_eq_false_iff, beq_iff_eq, bne_iff_ne, beq_eq_false_iff_ne, bne_eq_false_iff_eq, Int.not_lt, Int.not_le, ge_iff_le, gt_iff_lt, not_or, not_and, Bool.cond_true_right, Bool.cond_true_left, Bool.cond_false_right, Bool.cond_false_left, bif_t, bif_f] at *; omega) | (intro hg; (try simp only [reduceCtorEq, ints_len, bools_len, Bool.not_false, Bool.not_true, List.length_map, decide_eq_true_eq, decide_eq_false_iff_not, Bool.not_eq_true', Bool.not_eq_false', Bool.and_eq_true, Bool.or_eq_true, Bool.and_eq_false_iff, Bool.or_eq_false_iff, beq_iff_eq, bne_iff_ne, beq_eq_false_iff_ne, bne_eq_false_iff_eq, Int.not_lt, Int.not_le, ge_iff_le, gt_iff_lt, not_or, not_and, Bool.cond_true_right, Bool.cond_true_left, Bool.cond_false_right, Bool.cond_false_left, bif_t, bif_f] at hg); first | (with_reducible assumption) | omega | (simp only [reduceCtorEq, ints_len, bools_len, Bool.not_false, Bool.not_true, List.length_map, decide_eq_true_eq, decide_eq_false_iff_not, Bool.not_eq_true', Bool.not_eq_false', Bool.and_eq_true, Bool.or_eq_true, Bool.and_eq_false_iff, Bool.or_eq_false_iff, beq_iff_eq, bne_iff_ne, beq_eq_false_iff_ne, bne_eq_false_iff_eq, Int.not_lt, Int.not_le, ge_iff_le, gt_iff_lt, not_or, not_and, Bool.cond_true_right, Bool.cond_true_left, Bool.cond_false_right, Bool.cond_false_left, bif_t, bif_f] at *; omega) | (refine ⟨?_, ?_⟩ <;> omega)) | (refine ⟨?_, ?_⟩ <;> omega) | (simp [*]; done) | grind)); (conv => whnf))
      refine ⟨kids.length - (i + 1), by omega, [], ?_⟩
      conv => whnf
      refine ⟨i + 1, by omega, rfl, ?_⟩
      rw [ht, List.map_append]; rfl
    · have hi' : i = kids.length := by omega
      subst hi'
      rw [List.take_length]
      refine ⟨[], ?_⟩
      conv => whnf
      refine ⟨[], .nil, .nil, ?_⟩
      refine .cons rfl (.cons rfl (.cons rfl (.cons rfl (.cons rfl (.cons (.inl ⟨rfl, by simp⟩) (.cons (.inl ⟨?_, by simp⟩) .nil))))))
      rw [treesC_map]; rfl
theorem ok115 : ∀ m : Nat, VSound Try.prog (115, R115 m)
  | 0 => ok115_0
  | m + 1 => ok115_s m (ok115 m)
end Go.Proofs.Ytahdihhhankhdaa.V
-- Vfd
namespace Go.Proofs.Ytahdihhhankhdaa.V
open Go.Proofs.YtahdihhhankhdaaVY Go.RowKit
def R113 : Ct := fun ss hp r out => ∃ (l : List ASet), ss = [.one (.d (.sl 11 (l.map ASet.c)))] ∧ hp = [] ∧ l.length ≤ 4194304 ∧ r = .one (.own 0) ∧ out = [.row 11 (l.map ASet.c)]
set_option maxHeartbeats 4000000 in
theorem ok113 : VSound Try.prog (113, R113) := by
  refine vsound (T := ty) (F := []) (pl := []) (nw := true) (cuts := []) mix tyOk .nil Try.func113 (by kernel_rfl) (by kernel_rfl) ?_
  rintro _ _ _ _ ⟨l, rfl, rfl, hl, rfl, rfl⟩
  conv => whnf
  refine ⟨fun h0 => ?_, ?_⟩
  · conv => whnf
    refine ⟨[.slot 2 true], ?_⟩
    conv => whnf
    have : l = [] := by simpa using h0
    subst this
    exact ⟨[0], by simp, .cons ⟨_, rfl, rfl, rfl⟩ .nil, rfl⟩
  · conv => whnf
    refine ⟨?_, ?_⟩
    · simp; omega
    conv => whnf
    refine ⟨[], ?_⟩
    conv => whnf
    exact ⟨[0], by simp, .cons ⟨_, rfl, rfl, rfl⟩ .nil, rfl⟩
def joined (p q : Kern) : Kern := ⟨p.ext, p.sets ++ q.sets⟩
def R90 : Ct := fun ss hp r out => ∃ k : Kern, ss = [.v (.ag (k.c.map .d))] ∧ hp = [] ∧ k.bulk ≤ 4194304 ∧ r = .v (.ag (k.c.map .d)) ∧ out = []
set_option maxHeartbeats 4000000 in
theorem ok90 : VSound Try.prog (90, R90) := by
  refine vsound (T := ty) (F := [(64, R64), (115, R115 4194305)]) (pl := [(5, [[], [0], [], [2], [2, 3], [0, 1, 2, 3, 4], [], [0, 1, 2, 3, 4, 5, 6]], .look 0 (.look 1 (.look 2 (.look 3 (.act 4 [0, 1] (.look 5 (.act 6 [0, 1, 2, 3, 5] (.act 7 [] .done .stop) .stop)) (.act 6 [0, 1, 2, 3] (.act 4 [0, 1] (.look 5 (.act 7 [] .done .stop)) .stop) .stop)))))), (10, [[], [0], [], [2], [2, 3], [0, 1, 2, 3, 4], [0, 1, 2, 3, 4, 5], [0, 1, 2, 3, 4, 5, 6]], .look 0 (.look 1 (.look 2 (.act 3 [0, 1] (.act 4 [0, 1] (.act 5 [] (.look 6 (.act 7 [] .done .stop)) .stop) .stop) .stop))))]) (nw := true) (cuts := []) mix tyOk (.cons (ok64) (.cons (ok115 4194305) .nil)) Try.func90 (by kernel_rfl) (by kernel_rfl) ?_
  rintro _ _ _ _ ⟨⟨ext, sets⟩, rfl, rfl, hm, rfl, rfl⟩
  simp only [Kern.bulk] at hm
  have hkl := setsBulk_len sets
  conv => whnf
  (refine ⟨[], false, false, ?_⟩; (conv => whnf); refine ⟨_, _, ⟨ext, rfl, rfl, by omega, rfl, rfl⟩, ?_⟩; (conv => whnf))
  refine ⟨[.cell 3 1], [1, 2, 3, 14, 15, 16], 5, fun n1 σ => ∃ i : Nat, i ≤ sets.length ∧ n1 = sets.length - i ∧ σ = (⟨[.junk, .one (.ptr 0 0), .one (.ptr 1 0), .one (.ptr 3 0), .junk, .junk, .junk, .junk, .junk, .junk, .junk, .junk, .junk, .junk, .one (.d (.sl 11 (sets.map ASet.c))), .di .i64 sets.length, .di .i64 i, .junk, .junk, .junk, .junk, .junk, .junk, .junk, .junk, .junk, .junk, .junk, .junk, .junk, .junk, .junk, .junk, .junk, .junk, .junk, .junk, .junk, .junk, .junk, .junk, .junk, .junk, .junk, .junk, .junk, .junk, .junk, .junk, .junk, .junk, .junk, .junk, .junk, .junk], [.box (List.map .d (Kern.mk ext sets).c), .box [.emp 1, .emp 11], .row 1 (ext.map inC), .box [.own 2, .own 4], .row 11 ((sets.take i).map ASet.c)]⟩ : St), ?_, ?_⟩
  · refine ⟨sets.length, ?_⟩
    conv => whnf
    refine ⟨0, by omega, by omega, ?_⟩
    rw [map_len]; rfl
  · rintro n1 _ ⟨i, hi, rfl, rfl⟩
    conv => whnf
    ((with_reducible refine And.intro (fun (e : (_ : Bool) = true) => ?_) (fun (e : (_ : Bool) = false) => ?_)) <;> (try simp only [reduceCtorEq, ints_len, bools_len, Bool.not_false, Bool.not_true, List.length_map, decide_eq_true_eq, decide_eq_false_iff_not, Bool.not_eq_true', Bool.not_eq_false', Bool.and_eq_true, Bool.or_eq_true, Bool.and_eq_false_iff, Bool.or_eq_false_iff, beq_iff_eq, bne_iff_ne, beq_eq_false_iff_ne, bne_eq_false_iff_eq, Int.not_lt, Int.not_le, ge_iff_le, gt_iff_lt, not_or, not_and, Bool.cond_true_right, Bool.cond_true_left, Bool.cond_false_right, Bool.cond_false_left, bif_t, bif_f] at e) <;> (conv => whnf))
    · have hlt : i < sets.length := by omega
      obtain ⟨x, hget⟩ := get_lt hlt
      have hb := setsBulk_get hget
      have ht := take_snoc hget
      (refine ⟨_, And.intro ⟨by omega, enc_get hget⟩ ?_⟩; (conv => whnf))
      obtain ⟨⟨xa, xb, xs⟩, mask, ⟨op, kind, n, ⟨ra, rb, rs⟩, kids⟩⟩ := x
      simp only [ASet.bulk] at hb
      have hkl := treesBulk_len mask
      conv => whnf
      refine And.intro ?_ ?_ <;> (conv => whnf)
      all_goals
        (refine ⟨[], false, false, ?_⟩; (conv => whnf); refine ⟨_, _, ⟨.mk op kind n ⟨ra, rb, rs⟩ kids, rfl, rfl, by omega, by omega, rfl, rfl⟩, ?_⟩; (conv => whnf))
        (refine ⟨[], false, false, ?_⟩; (conv => whnf); refine ⟨_, _, ⟨xs, rfl, rfl, by omega, rfl, rfl⟩, ?_⟩; (conv => whnf))
        refine ⟨[.cell 6 3], [1, 2, 3, 5, 6, 14, 15, 16, 33, 34, 35], 9, fun n2 σ => ∃ j : Nat, j ≤ mask.length ∧ n2 = mask.length - j ∧ σ = (⟨[.junk, .one (.ptr 0 0), .one (.ptr 1 0), .one (.ptr 3 0), .junk, .one (.ptr 5 0), .one (.ptr 6 0), .junk, .junk, .junk, .junk, .junk, .junk, .junk, .one (.d (.sl 11 (sets.map ASet.c))), .di .i64 sets.length, .di .i64 i, .junk, .junk, .junk, .junk, .junk, .junk, .junk, .junk, .junk, .junk, .junk, .junk, .junk, .junk, .junk, .junk, .one (.d (.sl 7 (mask.map Tree.c))), .di .i64 mask.length, .di .i64 j, .junk, .junk, .junk, .junk, .junk, .junk, .junk, .junk, .junk, .junk, .junk, .junk, .junk, .junk, .junk, .junk, .junk, .junk, .junk], [.box (List.map .d (Kern.mk ext sets).c), .box [.emp 1, .emp 11], .row 1 (ext.map inC), .box [.own 2, .own 4], .row 11 ((sets.take i).map ASet.c), .box (List.map .d (ASet.mk ⟨xa, xb, xs⟩ mask (.mk op kind n ⟨ra, rb, rs⟩ kids)).c), .box [.d (.int .i64 xa), .d (.int .i64 xb), .own 7, .own 8, .d (.str op), .d (.int .i64 kind), .d (.int .i64 n), .d (.int .i64 ra), .d (.int .i64 rb), .d (.sl 1 (ints rs)), .d (.sl 7 (treesC kids))], .row 1 (xs.map inC), .row 7 ((mask.take j).map Tree.c)]⟩ : St), ?_, ?_⟩
        · refine ⟨mask.length, ?_⟩
          conv => whnf
          refine ⟨0, by omega, by omega, ?_⟩
          rw [map_len]; rfl
        · rintro n2 _ ⟨j, hj, rfl, rfl⟩
          conv => whnf
          ((with_reducible refine And.intro (fun (e : (_ : Bool) = true) => ?_) (fun (e : (_ : Bool) = false) => ?_)) <;> (try simp only [reduceCtorEq, ints_len, bools_len, Bool.not_false, Bool.not_true, List.length_map, decide_eq_true_eq, decide_eq_false_iff_not, Bool.not_eq_true', Bool.not_eq_false', Bool.and_eq_true, Bool.or_eq_true, Bool.and_eq_false_iff, Bool.or_eq_false_iff, beq_iff_eq, bne_iff_ne, beq_eq_false_iff_ne, bne_eq_false_iff_eq, Int.not_lt, Int.not_le, ge_iff_le, gt_iff_lt, not_or, not_and, Bool.cond_true_right, Bool.cond_true_left, Bool.cond_false_right, Bool.cond_false_left, bif_t, bif_f] at e) <;> (conv => whnf))
          · have hlt2 : j < mask.length := by omega
            obtain ⟨y, hgy⟩ := get_lt hlt2
            have hb2 := treesBulk_get hgy
            have ht2 := take_snoc hgy
            (refine ⟨_, And.intro ⟨by omega, enc_get hgy⟩ ?_⟩; (conv => whnf))
            obtain ⟨yop, ykind, yn, ⟨ya, yb, ys⟩, ykids⟩ := y
            conv => whnf
            (refine ⟨[], false, false, ?_⟩; (conv => whnf); refine ⟨_, _, ⟨.mk yop ykind yn ⟨ya, yb, ys⟩ ykids, rfl, rfl, by omega, by omega, rfl, rfl⟩, ?_⟩; (conv => whnf))
            refine ⟨by rw [map_len, List.length_take]; simp only [List.length_cons, List.length_nil]; omega, ?_⟩
            conv => whnf
            (refine And.intro ?_ ?_; ((first | (with_reducible assumption) | (intro _; with_reducible assumption) | omega | (simp only [reduceCtorEq, ints_len, bools_len, Bool.not_false, Bool.not_true, List.length_map, decide_eq_true_eq, decide_eq_false_iff_not, Bool.not_eq_true', Bool.not_eq_false', Bool.and_eq_true, Bool.or_eq_true, Bool.and_eq_false_iff, Bool.or_eq_false_iff, beq_iff_eq, bne_iff_ne, beq_eq_false_iff_ne, bne_eq_false_iff_eq, Int.not_lt, Int.not_le, ge_iff_le, gt_iff_lt, not_or, not_and, Bool.cond_true_right, Bool.cond_true_left, Bool.cond_false_right, Bool.cond_false_left, bif_t, bif_f] at *; omega) | (intro hg; (try simp only [reduceCtorEq, ints_len, bools_len, Bool.not_false, Bool.not_true, List.length_map, decide_eq_true_eq, decide_eq_false_iff_not, Bool.not_eq_true', Bool.not_eq_false', Bool.and_eq_true, Bool.or_eq_true, Bool.and_eq_false_iff, Bool.or_eq_false_iff, beq_iff_eq, bne_iff_ne, beq_eq_false_iff_ne, bne_eq_false_iff_eq, Int.not_lt, Int.not_le, ge_iff_le, gt_iff_lt, not_or, not_and, Bool.cond_true_right, Bool.cond_true_left, Bool.cond_false_right, Bool.cond_false_left, bif_t, bif_f] at hg); first | (with_reducible assumption) | omega | (simp only [reduceCtorEq, ints_len, bools_len, Bool.not_false, Bool.not_true, List.length_map, decide_eq_true_eq, decide_eq_false_iff_not, Bool.not_eq_true', Bool.not_eq_false', Bool.and_eq_true, Bool.or_eq_true, Bool.and_eq_false_iff, Bool.or_eq_false_iff, beq_iff_eq, bne_iff_ne, beq_eq_false_iff_ne, bne_eq_false_iff_eq, Int.not_lt, Int.not_le, ge_iff_le, gt_iff_lt, not_or, not_and, Bool.cond_true_right, Bool.cond_true_left, Bool.cond_false_right, Bool.cond_false_left, bif_t, bif_f] at *; omega) | (refine ⟨?_, ?_⟩ <;> omega)) | (refine ⟨?_, ?_⟩ <;> omega) | (simp [*]; done) | grind)); (conv => whnf))
            refine ⟨mask.length - (j + 1), by omega, [], ?_⟩
            conv => whnf
            refine ⟨j + 1, by omega, rfl, ?_⟩
            rw [ht2, List.map_append]; rfl
          · have hj' : j = mask.length := by omega
            subst hj'
            rw [List.take_length]
            refine ⟨by rw [map_len, List.length_take]; simp only [List.length_cons, List.length_nil]; omega, ?_⟩
            conv => whnf
            (refine And.intro ?_ ?_; ((first | (with_reducible assumption) | (intro _; with_reducible assumption) | omega | (simp only [reduceCtorEq, ints_len, bools_len, Bool.not_false, Bool.not_true, List.length_map, decide_eq_true_eq, decide_eq_false_iff_not, Bool.not_eq_true', Bool.not_eq_false', Bool.and_eq_true, Bool.or_eq_true, Bool.and_eq_false_iff, Bool.or_eq_false_iff, beq_iff_eq, bne_iff_ne, beq_eq_false_iff_ne, bne_eq_false_iff_eq, Int.not_lt, Int.not_le, ge_iff_le, gt_iff_lt, not_or, not_and, Bool.cond_true_right, Bool.cond_true_left, Bool.cond_false_right, Bool.cond_false_left, bif_t, bif_f] at *; omega) | (intro hg; (try simp only [reduceCtorEq, ints_len, bools_len, Bool.not_false, Bool.not_true, List.length_map, decide_eq_true_eq, decide_eq_false_iff_not, Bool.not_eq_true', Bool.not_eq_false', Bool.and_eq_true, Bool.or_eq_true, Bool.and_eq_false_iff, Bool.or_eq_false_iff, beq_iff_eq, bne_iff_ne, beq_eq_false_iff_ne, bne_eq_false_iff_eq, Int.not_lt, Int.not_le, ge_iff_le, gt_iff_lt, not_or, not_and, Bool.cond_true_right, Bool.cond_true_left, Bool.cond_false_right, Bool.cond_false_left, bif_t, bif_f] at hg); first | (with_reducible assumption) | omega | (simp only [reduceCtorEq, ints_len, bools_len, Bool.not_false, Bool.not_true, List.length_map, decide_eq_true_eq, decide_eq_false_iff_not, Bool.not_eq_true', Bool.not_eq_false', Bool.and_eq_true, Bool.or_eq_true, Bool.and_eq_false_iff, Bool.or_eq_false_iff, beq_iff_eq, bne_iff_ne, beq_eq_false_iff_ne, bne_eq_false_iff_eq, Int.not_lt, Int.not_le, ge_iff_le, gt_iff_lt, not_or, not_and, Bool.cond_true_right, Bool.cond_true_left, Bool.cond_false_right, Bool.cond_false_left, bif_t, bif_f] at *; omega) | (refine ⟨?_, ?_⟩ <;> omega)) | (refine ⟨?_, ?_⟩ <;> omega) | (simp [*]; done) | grind)); (conv => whnf))
            refine ⟨sets.length - (i + 1), by omega, [], ?_⟩
            conv => whnf
            refine ⟨i + 1, by omega, rfl, ?_⟩
            rw [ht, List.map_append]; rfl
    · have hi' : i = sets.length := by omega
      subst hi'
      rw [List.take_length]
      refine ⟨[], ?_⟩
      conv => whnf
      refine ⟨[], .nil, .nil, ?_⟩
      refine .cons (.inl ⟨rfl, by simp⟩) (.cons (.inl ⟨?_, by simp⟩) .nil)
      rfl
theorem setsBulk_app : ∀ (A B : List ASet), setsBulk (A ++ B) = setsBulk A + setsBulk B
  | [], B => by simp [setsBulk]
  | s :: A, B => by rw [List.cons_append, setsBulk, setsBulk_app A B, setsBulk]; omega
def R85 : Ct := fun ss hp r out => ∃ (p q : Kern), ss = [.v (.ag (p.c.map .d)), .v (.ag (q.c.map .d))] ∧ hp = [] ∧ p.bulk + q.bulk ≤ 4194304 ∧ r = .v (.ag ((joined p q).c.map .d)) ∧ out = []
set_option maxHeartbeats 4000000 in
theorem ok85 : VSound Try.prog (85, R85) := by
  refine vsound (T := ty) (F := [(90, R90), (113, R113)]) (pl := [(1, [[], [0], [], [2], [2, 3], [], [5], [2, 3, 4, 5, 6], [0, 1, 2, 3, 4, 5, 6, 7], [0, 1, 2, 3, 4, 5, 6, 7, 8], [0, 1, 2, 3, 4, 5, 6, 7, 8, 9]], .look 0 (.look 1 (.look 2 (.look 3 (.look 5 (.look 6 (.act 4 [0, 1, 5, 6] (.act 7 [0, 1] (.look 8 (.act 9 [] (.act 10 [] .done .stop) .stop)) .stop) .stop)))))))]) (nw := true) (cuts := []) mix tyOk (.cons (ok90) (.cons (ok113) .nil)) Try.func85 (by kernel_rfl) (by kernel_rfl) ?_
  rintro _ _ _ _ ⟨⟨ext, A⟩, ⟨ext2, B⟩, rfl, rfl, hm, rfl, rfl⟩
  simp only [Kern.bulk] at hm
  have hkl := setsBulk_len A
  have hkl2 := setsBulk_len B
  have ha := setsBulk_app A B
  conv => whnf
  (refine ⟨[], false, false, ?_⟩; (conv => whnf); refine ⟨_, _, ⟨A, rfl, rfl, by omega, rfl, rfl⟩, ?_⟩; (conv => whnf))
  refine ⟨by rw [map_len, map_len]; simp only; omega, ?_⟩
  conv => whnf
  rw [← List.map_append]
  (refine ⟨[], false, true, ?_⟩; (conv => whnf); refine ⟨_, _, ⟨⟨ext, A ++ B⟩, rfl, rfl, by simp only [Kern.bulk]; omega, rfl, rfl⟩, ?_⟩; (conv => whnf))
  (refine ⟨[], ?_⟩; (conv => whnf); refine ⟨[], .nil, .nil, ?_⟩; (conv => whnf))
  exact .cons rfl (.cons rfl .nil)
def R86 : Ct := fun ss hp r out => ∃ (p q : Kern), ss = [.v (.ag (p.c.map .d)), .v (.ag (q.c.map .d))] ∧ hp = [] ∧ p.bulk + q.bulk ≤ 4194304 ∧ r = .v (.ag ((joined p q).c.map .d)) ∧ out = []
set_option maxHeartbeats 4000000 in
theorem ok86 : VSound Try.prog (86, R86) := by
  refine vsound (T := ty) (F := []) (pl := [(1, [[], [0], [], [], [3], [2, 3, 4], [], [6], [2, 3, 4, 5, 6, 7], [0, 1, 2, 3, 4, 5, 6, 7, 8], [0, 1, 2, 3, 4, 5, 6, 7, 8, 9]], .look 0 (.look 1 (.look 3 (.look 4 (.look 6 (.look 7 (.act 2 [0, 1, 3, 4, 6, 7] (.act 5 [0, 1, 6, 7] (.act 8 [0, 1] (.look 9 (.act 10 [] .done .stop)) .stop) .stop) .stop)))))))]) (nw := true) (cuts := []) mix tyOk .nil Try.func86 (by kernel_rfl) (by kernel_rfl) ?_
  rintro _ _ _ _ ⟨⟨ext, A⟩, ⟨ext2, B⟩, rfl, rfl, hm, rfl, rfl⟩
  simp only [Kern.bulk] at hm
  have hkl := setsBulk_len A
  have hkl2 := setsBulk_len B
  conv => whnf
  refine ⟨by rw [map_len]; simp only [List.length_nil]; omega, ?_⟩
  conv => whnf
  refine ⟨by rw [List.nil_append, map_len, map_len]; simp only; omega, ?_⟩
  conv => whnf
  rw [List.nil_append, ← List.map_append]
  refine ⟨[], ?_⟩
  conv => whnf
  exact ⟨[], .nil, .nil, .cons rfl (.cons (.inl ⟨rfl, by simp⟩) .nil)⟩
end Go.Proofs.Ytahdihhhankhdaa.V
-- Vfe
namespace Go.Proofs.Ytahdihhhankhdaa.V
open Go.Proofs.YtahdihhhankhdaaVY Go.RowKit
def fuseK (p q : Kern) : Kern := if mayB p q = true then joined p q else ⟨[], []⟩
def fuseErr (p q : Kern) : Int := if bothK p q = true then (if mayB p q = true then 0 else 110) else 2
def R47 : Ct := fun ss hp r out => ∃ (p q : Kern), ss = [.v (.ag (p.c.map .d)), .v (.ag (q.c.map .d))] ∧ hp = [] ∧ p.bulk + q.bulk ≤ 4194304 ∧ r = .tup [.ag ((fuseK p q).c.map .d), .c (.d (.int .i64 (fuseErr p q)))] ∧ out = []
set_option maxHeartbeats 4000000 in
theorem ok47 : VSound Try.prog (47, R47) := by
  refine vsound (T := ty) (F := [(43, R43), (85, R85)]) (pl := []) (nw := true) (cuts := []) mix tyOk (.cons (ok43) (.cons (ok85) .nil)) Try.func47 (by kernel_rfl) (by kernel_rfl) ?_
  rintro _ _ _ _ ⟨⟨ext, A⟩, ⟨ext2, B⟩, rfl, rfl, hm, rfl, rfl⟩
  conv => whnf
  (refine ⟨[], false, false, ?_⟩; (conv => whnf); refine ⟨_, _, ⟨⟨ext, A⟩, ⟨ext2, B⟩, rfl, rfl, by omega, by omega, rfl, rfl⟩, ?_⟩; (conv => whnf))
  rw [askErr]
  cases hb : bothK ⟨ext, A⟩ ⟨ext2, B⟩ with
  | false =>
    have hm2 : mayB ⟨ext, A⟩ ⟨ext2, B⟩ = false := by rw [mayB, hb]; rfl
    rw [fuseK, fuseErr, hb, hm2]
    refine ⟨fun _ => ?_, fun h => absurd h (by decide)⟩
    conv => whnf
    (refine ⟨[], ?_⟩; (conv => whnf); refine ⟨[], .nil, .nil, ?_⟩)
    exact .cons (.cons ⟨rfl, rfl⟩ (.cons ⟨rfl, rfl⟩ .nil)) (.cons rfl .nil)
  | true =>
    refine ⟨fun h => absurd h (by decide), fun _ => ?_⟩
    conv => whnf
    cases hm2 : mayB ⟨ext, A⟩ ⟨ext2, B⟩ with
    | false =>
      rw [fuseK, fuseErr, hb, hm2]
      refine ⟨fun _ => ?_, fun h => absurd h (by decide)⟩
      conv => whnf
      (refine ⟨[], ?_⟩; (conv => whnf); refine ⟨[], .nil, .nil, ?_⟩)
      exact .cons (.cons ⟨rfl, rfl⟩ (.cons ⟨rfl, rfl⟩ .nil)) (.cons rfl .nil)
    | true =>
      rw [fuseK, fuseErr, hb, hm2, if_pos rfl]
      refine ⟨fun h => absurd h (by decide), fun _ => ?_⟩
      conv => whnf
      (refine ⟨[], false, false, ?_⟩; (conv => whnf); refine ⟨_, _, ⟨⟨ext, A⟩, ⟨ext2, B⟩, rfl, rfl, hm, rfl, rfl⟩, ?_⟩; (conv => whnf))
      (refine ⟨[], ?_⟩; (conv => whnf); refine ⟨[], .nil, .nil, ?_⟩)
      exact .cons (.cons rfl (.cons rfl .nil)) (.cons rfl .nil)
def R48 : Ct := fun ss hp r out => ∃ (p q : Kern), ss = [.v (.ag (p.c.map .d)), .v (.ag (q.c.map .d))] ∧ hp = [] ∧ p.bulk + q.bulk ≤ 4194304 ∧ r = .tup [.ag ((fuseK p q).c.map .d), .c (.d (.int .i64 (fuseErr p q)))] ∧ out = []
set_option maxHeartbeats 4000000 in
theorem ok48 : VSound Try.prog (48, R48) := by
  refine vsound (T := ty) (F := [(44, R44), (86, R86)]) (pl := []) (nw := true) (cuts := []) mix tyOk (.cons (ok44) (.cons (ok86) .nil)) Try.func48 (by kernel_rfl) (by kernel_rfl) ?_
  rintro _ _ _ _ ⟨⟨ext, A⟩, ⟨ext2, B⟩, rfl, rfl, hm, rfl, rfl⟩
  conv => whnf
  (refine ⟨[], false, false, ?_⟩; (conv => whnf); refine ⟨_, _, ⟨⟨ext, A⟩, ⟨ext2, B⟩, rfl, rfl, by omega, by omega, rfl, rfl⟩, ?_⟩; (conv => whnf))
  rw [askErr]
  cases hb : bothK ⟨ext, A⟩ ⟨ext2, B⟩ with
  | false =>
    have hm2 : mayB ⟨ext, A⟩ ⟨ext2, B⟩ = false := by rw [mayB, hb]; rfl
    rw [fuseK, fuseErr, hb, hm2]
    refine ⟨fun _ => ?_, fun h => absurd h (by decide)⟩
    conv => whnf
    (refine ⟨[], ?_⟩; (conv => whnf); refine ⟨[], .nil, .nil, ?_⟩)
    exact .cons (.cons ⟨rfl, rfl⟩ (.cons ⟨rfl, rfl⟩ .nil)) (.cons rfl .nil)
  | true =>
    refine ⟨fun h => absurd h (by decide), fun _ => ?_⟩
    conv => whnf
    cases hm2 : mayB ⟨ext, A⟩ ⟨ext2, B⟩ with
    | false =>
      rw [fuseK, fuseErr, hb, hm2]
      refine ⟨fun _ => ?_, fun h => absurd h (by decide)⟩
      conv => whnf
      (refine ⟨[], ?_⟩; (conv => whnf); refine ⟨[], .nil, .nil, ?_⟩)
      exact .cons (.cons ⟨rfl, rfl⟩ (.cons ⟨rfl, rfl⟩ .nil)) (.cons rfl .nil)
    | true =>
      rw [fuseK, fuseErr, hb, hm2, if_pos rfl]
      refine ⟨fun h => absurd h (by decide), fun _ => ?_⟩
      conv => whnf
      (refine ⟨[], false, false, ?_⟩; (conv => whnf); refine ⟨_, _, ⟨⟨ext, A⟩, ⟨ext2, B⟩, rfl, rfl, hm, rfl, rfl⟩, ?_⟩; (conv => whnf))
      (refine ⟨[], ?_⟩; (conv => whnf); refine ⟨[], .nil, .nil, ?_⟩)
      exact .cons (.cons rfl (.cons rfl .nil)) (.cons rfl .nil)
end Go.Proofs.Ytahdihhhankhdaa.V
-- Vfk
namespace Go.Proofs.Ytahdihhhankhdaa.V
open Go.Proofs.YtahdihhhankhdaaVY Go.RowKit
def kernsBulk : List Kern → Nat
  | [] => 0
  | k :: l => k.bulk + 1 + kernsBulk l
theorem kernsBulk_sum : ∀ l : List Kern, kernsBulk l = (l.map fun k => k.bulk + 1).sum
  | [] => rfl
  | k :: l => by rw [kernsBulk, kernsBulk_sum l, List.map_cons, List.sum_cons]
theorem kernsBulk_len : ∀ l : List Kern, l.length ≤ kernsBulk l
  | [] => by simp [kernsBulk]
  | k :: l => by have := kernsBulk_len l; rw [kernsBulk, List.length_cons]; omega
theorem kernsBulk_get : ∀ {l : List Kern} {i : Nat} {x : Kern}, l[i]? = some x → x.bulk + 1 ≤ kernsBulk l
  | [], _, _, h => by simp at h
  | y :: l, 0, x, h => by simp at h; subst h; rw [kernsBulk]; omega
  | y :: l, i + 1, x, h => by have := kernsBulk_get (l := l) (i := i) (by simpa using h); rw [kernsBulk]; omega
theorem kernsBulk_mem {l : List Kern} {x : Kern} (h : x ∈ l) : x.bulk + 1 ≤ kernsBulk l := by
  obtain ⟨i, hi⟩ := List.getElem?_of_mem h; exact kernsBulk_get hi
theorem kernsBulk_app : ∀ (l m : List Kern), kernsBulk (l ++ m) = kernsBulk l + kernsBulk m
  | [], m => by simp [kernsBulk]
  | k :: l, m => by rw [List.cons_append, kernsBulk, kernsBulk_app l m, kernsBulk]; omega
theorem kernsBulk_take (l : List Kern) (i : Nat) : kernsBulk (l.take i) ≤ kernsBulk l := by
  have := kernsBulk_app (l.take i) (l.drop i)
  rw [List.take_append_drop] at this; omega
/-- what becomes of so many kernels: those that are left, and how many went into each -/
def fits (q k : Kern) : Bool := (whyF q k).toList == emptyB.toList
def step (P : List (Kern × Int)) (k : Kern) : List (Kern × Int) := match P.getLast? with
  | some (q, m) => if fits q k = true then P.dropLast ++ [(joined q k, m + 1)] else P ++ [(k, 1)]
  | none => [(k, 1)]
def accN (l : List Kern) : Nat → List (Kern × Int)
  | 0 => []
  | i + 1 => match l[i]? with
    | some k => step (accN l i) k
    | none => accN l i
theorem step_nil (k : Kern) : step [] k = [(k, 1)] := rfl
theorem step_snoc (P : List (Kern × Int)) (q : Kern) (m : Int) (k : Kern) : step (P ++ [(q, m)]) k = if fits q k = true then P ++ [(joined q k, m + 1)] else P ++ [(q, m)] ++ [(k, 1)] := by
  unfold step
  rw [List.getLast?_append]
  simp
theorem snoc_or {α : Type} (P : List α) : P = [] ∨ ∃ Q x, P = Q ++ [x] := by
  rcases List.eq_nil_or_concat P with h | ⟨Q, x, h⟩
  · exact .inl h
  · exact .inr ⟨Q, x, by simpa using h⟩
theorem hinder_why {p q : Kern} (h : fits p q = true) : p.ext = q.ext ∧ p.sets.length + q.sets.length ≤ 8 := by
  unfold fits whyF at h
  split at h
  · exact absurd h (by decide +kernel)
  · rename_i h1
    split at h
    · exact absurd h (by decide +kernel)
    · rename_i h2
      exact ⟨Decidable.not_not.1 h1, by omega⟩
theorem joined_kern {p q : Kern} (hp : isKern p = true) (hq : isKern q = true) (h : fits p q = true) : isKern (joined p q) = true := by
  obtain ⟨h1, h2⟩ := hinder_why h
  have a := (isKern_iff p).1 hp
  have b := (isKern_iff q).1 hq
  refine (isKern_iff _).2 ⟨a.1, ?_, ?_, fun s hs r hr => ?_⟩
  · simp only [joined, List.length_append]; omega
  · simp only [joined, List.length_append]; omega
  · simp only [joined, List.mem_append] at hs
    rcases hs with hs | hs
    · exact a.2.2.2 s hs r hr
    · show refOk p.ext r = true
      rw [h1]; exact b.2.2.2 s hs r hr
theorem joined_bulk (p q : Kern) : (joined p q).bulk ≤ p.bulk + q.bulk := by
  simp only [joined, Kern.bulk, setsBulk_app]; omega
/-- all that is kept is a kernel, small, and their numbers are few -/
structure Acc (P : List (Kern × Int)) (n b : Nat) : Prop where
  kern : ∀ x ∈ P, isKern x.1 = true
  bulk : kernsBulk (P.map (·.1)) ≤ b
  few : ∀ x ∈ P, 0 ≤ x.2 ∧ x.2 ≤ n
theorem step_acc {P : List (Kern × Int)} {n b : Nat} {k : Kern} (h : Acc P n b) (hk : isKern k = true) : Acc (step P k) (n + 1) (b + (k.bulk + 1)) := by
  rcases snoc_or P with rfl | ⟨Q, ⟨q, m⟩, rfl⟩
  · rw [step_nil]
    refine ⟨?_, ?_, ?_⟩
    · simp [hk]
    · simp [kernsBulk]
    · simp; omega
  · rw [step_snoc]
    have h1 := h.kern
    have h2 := h.bulk
    have h3 := h.few
    simp only [List.mem_append, List.mem_singleton, List.map_append, List.map_cons, List.map_nil, kernsBulk_app, kernsBulk] at h1 h2 h3
    have hq := h1 (q, m) (.inr rfl)
    have hq3 := h3 (q, m) (.inr rfl)
    simp only at hq hq3
    split
    · rename_i hf
      have hj := joined_bulk q k
      refine ⟨fun x hx => ?_, ?_, fun x hx => ?_⟩
      · rcases List.mem_append.1 hx with hx | hx
        · exact h1 x (.inl hx)
        · rw [List.mem_singleton.1 hx]; exact joined_kern hq hk hf
      · simp only [List.map_append, List.map_cons, List.map_nil, kernsBulk_app, kernsBulk]; omega
      · rcases List.mem_append.1 hx with hx | hx
        · have := h3 x (.inl hx); omega
        · rw [List.mem_singleton.1 hx]; simp only; omega
    · refine ⟨fun x hx => ?_, ?_, fun x hx => ?_⟩
      · rcases List.mem_append.1 hx with hx | hx
        · exact h1 x (List.mem_append.1 hx |>.imp id (List.mem_singleton.1 ·))
        · rw [List.mem_singleton.1 hx]; exact hk
      · simp only [List.map_append, List.map_cons, List.map_nil, kernsBulk_app, kernsBulk]; omega
      · rcases List.mem_append.1 hx with hx | hx
        · have := h3 x (List.mem_append.1 hx |>.imp id (List.mem_singleton.1 ·)); omega
        · rw [List.mem_singleton.1 hx]; simp only; omega
theorem accN_acc {l : List Kern} (h : ∀ k ∈ l, isKern k = true) : ∀ i, i ≤ l.length → Acc (accN l i) i (kernsBulk (l.take i))
  | 0, _ => ⟨by simp [accN], by simp [accN, kernsBulk], by simp [accN]⟩
  | i + 1, hi => by
    obtain ⟨x, hx⟩ := get_lt (l := l) (i := i) (by omega)
    have ih := accN_acc h i (by omega)
    rw [accN, hx, take_snoc hx, kernsBulk_app, kernsBulk, kernsBulk]
    exact step_acc ih (h x (List.mem_of_getElem? hx))
theorem step_len (P : List (Kern × Int)) (k : Kern) : (step P k).length ≤ P.length + 1 := by
  rcases snoc_or P with rfl | ⟨Q, ⟨q, m⟩, rfl⟩
  · simp [step_nil]
  · rw [step_snoc]; split <;> simp
theorem accN_len (l : List Kern) : ∀ i, (accN l i).length ≤ i
  | 0 => Nat.le_refl _
  | i + 1 => by
    have := accN_len l i
    rw [accN]
    split
    · have := step_len (accN l i) (by assumption); omega
    · omega
def allOk (l : List Kern) : Bool := decide (l.length ≤ 50) && l.all isKern
def allOf (l : List Kern) : List (Kern × Int) := if allOk l = true then accN l l.length else []
def allErr (l : List Kern) : Int := if allOk l = true then 0 else 2
end Go.Proofs.Ytahdihhhankhdaa.V
-- Vfo
namespace Go.Proofs.Ytahdihhhankhdaa.V
open Go.Proofs.YtahdihhhankhdaaVY Go.RowKit
/-- some meeting where the second comes behind the first -/
def late (l : List Int) (a b : Ref) : Bool := (pairs l a b).any fun p => decide (p.1 < p.2)
theorem late_early (l : List Int) (a b : Ref) : late l a b = early l b a := by
  unfold late early
  rw [Bool.eq_iff_iff, List.any_eq_true, List.any_eq_true]
  constructor
  · rintro ⟨⟨x, y⟩, h, hp⟩; exact ⟨(y, x), pairs_turn h, by simpa using hp⟩
  · rintro ⟨⟨x, y⟩, h, hp⟩; exact ⟨(y, x), pairs_turn h, by simpa using hp⟩
theorem compTo_last (l : List Int) : ∀ i, 1 ≤ i → i ≤ l.length → 0 < (compTo l i).length ∧ (compTo l i)[(compTo l i).length - 1]? = l[i - 1]?
  | 0, h, _ => absurd h (by decide)
  | i + 1, _, hi => by
    obtain ⟨x, hx⟩ := get_lt (l := l) (i := i) (by omega)
    rw [compTo, Nat.add_sub_cancel]
    split
    · rename_i h
      obtain ⟨y, hy⟩ := get_lt (l := l) (i := i - 1) (by omega)
      have ih := compTo_last l i (by omega) (by omega)
      rw [gD_of hx, gD_of hy] at h
      rw [ih.2, hx, hy, h.2]
      exact ⟨ih.1, rfl⟩
    · rw [List.length_append, List.length_singleton]
      refine ⟨by omega, ?_⟩
      rw [Nat.add_sub_cancel, List.getElem?_append_right (Nat.le_refl _), Nat.sub_self, gD_of hx, hx]; rfl
theorem late_dist (l : List Int) (a b : Ref) : late l a b = (decide (dist l a b ≠ []) && decide (0 < (dist l a b).getD ((dist l a b).length - 1) 0)) := by
  unfold late dist
  have hp := sortI_perm ((pairs l a b).map gap)
  have hs := sortI_sorted ((pairs l a b).map gap)
  generalize sortI ((pairs l a b).map gap) = S at *
  rw [show ((pairs l a b).any fun p => decide (p.1 < p.2)) = ((pairs l a b).map gap).any fun g => decide (0 < g) by
    rw [List.any_map]
    congr 1
    funext p
    simp only [Function.comp, gap]
    exact decide_eq_decide.2 (by omega)]
  rw [show ((pairs l a b).map gap).any (fun g => decide (0 < g)) = S.any fun g => decide (0 < g) from (List.Perm.any_eq hp).symm]
  rcases snoc_or S with rfl | ⟨T, x, rfl⟩
  · rfl
  · obtain ⟨h1, h2⟩ := compTo_last (T ++ [x]) (T ++ [x]).length (by simp) (Nat.le_refl _)
    have hc : comp (T ++ [x]) ≠ [] := fun h => by unfold comp at h; rw [h] at h1; simp at h1
    have hg : (comp (T ++ [x])).getD ((comp (T ++ [x])).length - 1) 0 = x := gD_of (by
      unfold comp; rw [h2, List.length_append, List.length_singleton, Nat.add_sub_cancel, List.getElem?_append_right (Nat.le_refl _), Nat.sub_self]; rfl)
    rw [decide_eq_true hc, hg, Bool.true_and, List.any_append]
    by_cases h : 0 < x
    · simp [h]
    · rw [decide_eq_false h]
      simp only [List.any_cons, List.any_nil, Bool.or_false, decide_eq_false h, List.any_eq_false, decide_eq_true_eq]
      intro y hy
      have := (List.pairwise_append.1 hs).2.2 y hy x (by simp)
      omega
def headK (k : Kern) (i : Nat) : Kern := ⟨k.ext, k.sets.take i⟩
def tailK (k : Kern) (i : Nat) : Kern := ⟨k.ext, k.sets.drop i⟩
/-- some load of one of A reaches what one of B stores, later -/
def meets (l : List Int) (A B : List ASet) : Bool := A.any fun s => B.any fun t => anyEarly l s.loads t.to false
def cutsB (k : Kern) (i : Nat) : Bool := fits (headK k i) (tailK k i) && !meets k.ext (k.sets.take i) (k.sets.drop i)
theorem setsBulk_take (l : List ASet) (i : Nat) : setsBulk (l.take i) ≤ setsBulk l ∧ setsBulk (l.drop i) ≤ setsBulk l := by
  have := setsBulk_app (l.take i) (l.drop i)
  rw [List.take_append_drop] at this; omega
theorem part_kern {k : Kern} {i : Nat} (h : isKern k = true) (h1 : 1 ≤ i) (h2 : i < k.sets.length) : isKern (headK k i) = true ∧ isKern (tailK k i) = true := by
  obtain ⟨a, b, c, d⟩ := (isKern_iff k).1 h
  refine ⟨(isKern_iff _).2 ⟨a, ?_, ?_, fun s hs => d s (List.mem_of_mem_take hs)⟩, (isKern_iff _).2 ⟨a, ?_, ?_, fun s hs => d s (List.mem_of_mem_drop hs)⟩⟩
  all_goals simp only [headK, tailK, List.length_take, List.length_drop]; omega
end Go.Proofs.Ytahdihhhankhdaa.V
-- Vfp
namespace Go.Proofs.Ytahdihhhankhdaa.V
open Go.Proofs.YtahdihhhankhdaaVY Go.RowKit
def R118 : Ct := fun ss hp r out => ∃ (l : List Int) (a b : Ref), ss = [.one (.d (.sl 1 (l.map inC))), .v (.ag (a.c.map .d)), .v (.ag (b.c.map .d))] ∧ hp = [] ∧ l.length < 4611686018427387904 ∧ a.str.length < 4611686018427387904 ∧ b.str.length < 4611686018427387904 ∧ r = .db (late l a b) ∧ out = []
set_option maxHeartbeats 4000000 in
theorem ok118 : VSound Try.prog (118, R118) := by
  refine vsound (T := ty) (F := [(138, R138)]) (pl := []) (nw := true) (cuts := []) mix tyOk (.cons (ok138) .nil) Try.func118 (by kernel_rfl) (by kernel_rfl) ?_
  rintro _ _ _ _ ⟨l, ⟨aa, ab, sa⟩, ⟨ba, bb, sb⟩, rfl, rfl, hl, ha, hb, rfl, rfl⟩
  conv => whnf
  (refine ⟨[], false, false, ?_⟩; (conv => whnf); refine ⟨_, _, ⟨l, ⟨aa, ab, sa⟩, ⟨ba, bb, sb⟩, rfl, rfl, hl, ha, hb, rfl, rfl⟩, ?_⟩; (conv => whnf))
  rw [late_dist]
  (repeat' (first | ((with_reducible refine And.intro (fun (e : (_ : Bool) = true) => ?_) (fun (e : (_ : Bool) = false) => ?_)) <;> (try simp only [reduceCtorEq, ints_len, bools_len, Bool.not_false, Bool.not_true, List.length_map, decide_eq_true_eq, decide_eq_false_iff_not, Bool.not_eq_true', Bool.not_eq_false', Bool.and_eq_true, Bool.or_eq_true, Bool.and_eq_false_iff, Bool.or_eq_false_iff, beq_iff_eq, bne_iff_ne, beq_eq_false_iff_ne, bne_eq_false_iff_eq, Int.not_lt, Int.not_le, ge_iff_le, gt_iff_lt, not_or, not_and, Bool.cond_true_right, Bool.cond_true_left, Bool.cond_false_right, Bool.cond_false_left, bif_t, bif_f] at e) <;> (conv => whnf)) | ((with_reducible refine And.intro (fun (e : (_ : Bool) = false) => ?_) (fun (e : (_ : Bool) = true) => ?_)) <;> (try simp only [reduceCtorEq, ints_len, bools_len, Bool.not_false, Bool.not_true, List.length_map, decide_eq_true_eq, decide_eq_false_iff_not, Bool.not_eq_true', Bool.not_eq_false', Bool.and_eq_true, Bool.or_eq_true, Bool.and_eq_false_iff, Bool.or_eq_false_iff, beq_iff_eq, bne_iff_ne, beq_eq_false_iff_ne, bne_eq_false_iff_eq, Int.not_lt, Int.not_le, ge_iff_le, gt_iff_lt, not_or, not_and, Bool.cond_true_right, Bool.cond_true_left, Bool.cond_false_right, Bool.cond_false_left, bif_t, bif_f] at e) <;> (conv => whnf)) | (refine And.intro ?_ ?_; ((first | (with_reducible assumption) | (intro _; with_reducible assumption) | omega | (simp only [reduceCtorEq, ints_len, bools_len, Bool.not_false, Bool.not_true, List.length_map, decide_eq_true_eq, decide_eq_false_iff_not, Bool.not_eq_true', Bool.not_eq_false', Bool.and_eq_true, Bool.or_eq_true, Bool.and_eq_false_iff, Bool.or_eq_false_iff, beq_iff_eq, bne_iff_ne, beq_eq_false_iff_ne, bne_eq_false_iff_eq, Int.not_lt, Int.not_le, ge_iff_le, gt_iff_lt, not_or, not_and, Bool.cond_true_right, Bool.cond_true_left, Bool.cond_false_right, Bool.cond_false_left, bif_t, bif_f] at *; omega) | (intro hg; (try simp only [reduceCtorEq, ints_len, bools_len, Bool.not_false, Bool.not_true, List.length_map, decide_eq_true_eq, decide_eq_false_iff_not, Bool.not_eq_true', Bool.not_eq_false', Bool.and_eq_true, Bool.or_eq_true, Bool.and_eq_false_iff, Bool.or_eq_false_iff, beq_iff_eq, bne_iff_ne, beq_eq_false_iff_ne, bne_eq_false_iff_eq, Int.not_lt, Int.not_le, ge_iff_le, gt_iff_lt, not_or, not_and, Bool.cond_true_right, Bool.cond_true_left, Bool.cond_false_right, Bool.cond_false_left, bif_t, bif_f] at hg); first | (with_reducible assumption) | omega | (simp only [reduceCtorEq, ints_len, bools_len, Bool.not_false, Bool.not_true, List.length_map, decide_eq_true_eq, decide_eq_false_iff_not, Bool.not_eq_true', Bool.not_eq_false', Bool.and_eq_true, Bool.or_eq_true, Bool.and_eq_false_iff, Bool.or_eq_false_iff, beq_iff_eq, bne_iff_ne, beq_eq_false_iff_ne, bne_eq_false_iff_eq, Int.not_lt, Int.not_le, ge_iff_le, gt_iff_lt, not_or, not_and, Bool.cond_true_right, Bool.cond_true_left, Bool.cond_false_right, Bool.cond_false_left, bif_t, bif_f] at *; omega) | (refine ⟨?_, ?_⟩ <;> omega)) | (refine ⟨?_, ?_⟩ <;> omega) | (simp [*]; done) | grind)); (conv => whnf))))
  (refine ⟨[], ?_⟩; (conv => whnf); refine ⟨[], .nil, .nil, ?_⟩; (conv => whnf))
  congr 1
  generalize decide (dist l ⟨aa, ab, sa⟩ ⟨ba, bb, sb⟩ ≠ []) = A
  cases A <;> rfl
def R117 : Ct := fun ss hp r out => ∃ (k : Kern) (s : ASet) (y : Ref), ss = [.v (.ag (y.c.map .d)), .one (.pel k.c), .one (.pel s.c)] ∧ hp = [] ∧ k.ext.length < 4611686018427387904 ∧ s.to.str.length < 4611686018427387904 ∧ y.str.length < 4611686018427387904 ∧ r = .db (late k.ext s.to y) ∧ out = []
set_option maxHeartbeats 4000000 in
theorem ok117 : VSound Try.prog (117, R117) := by
  refine vsound (T := ty) (F := [(118, R118)]) (pl := []) (nw := true) (cuts := []) mix tyOk (.cons (ok118) .nil) Try.func117 (by kernel_rfl) (by kernel_rfl) ?_
  rintro _ _ _ _ ⟨⟨ext, sets⟩, ⟨⟨xa, xb, xs⟩, mask, ⟨op, kind, n, ref, kids⟩⟩, ⟨ya, yb, ys⟩, rfl, rfl, hk, hx, hy, rfl, rfl⟩
  conv => whnf
  (refine ⟨[], false, false, ?_⟩; (conv => whnf); refine ⟨_, _, ⟨ext, ⟨xa, xb, xs⟩, ⟨ya, yb, ys⟩, rfl, rfl, hk, hx, hy, rfl, rfl⟩, ?_⟩; (conv => whnf))
  (refine ⟨[], ?_⟩; (conv => whnf); refine ⟨[], .nil, .nil, ?_⟩; (conv => whnf))
def R93 : Ct := fun ss hp r out => ∃ (k : Kern) (i : Nat), ss = [.v (.ag (k.c.map .d)), .di .i64 i] ∧ hp = [] ∧ k.sets.length ≤ 4194304 ∧ i ≤ k.sets.length ∧ r = .tup [.ag ((headK k i).c.map .d), .ag ((tailK k i).c.map .d)] ∧ out = []
set_option maxHeartbeats 4000000 in
theorem ok93 : VSound Try.prog (93, R93) := by
  refine vsound (T := ty) (F := []) (pl := [(1, [[], [0], [], [2], [], [2, 3, 4], [0, 1, 2, 3, 4, 5], [], [7], [], [9], [], [9, 10, 11], [7, 8, 9, 10, 11, 12], [0, 1, 2, 3, 4, 5, 6], [0, 1, 2, 3, 4, 5, 6, 7, 8, 9, 10, 11, 12, 13, 14]], .look 0 (.look 1 (.look 2 (.look 3 (.look 4 (.look 5 (.look 6 (.look 7 (.look 8 (.look 9 (.look 10 (.look 11 (.look 12 (.look 13 (.act 14 [7, 8, 9, 10, 11, 12, 13] (.act 15 [] .done .stop) .stop)))))))))))))))]) (nw := true) (cuts := []) mix tyOk .nil Try.func93 (by kernel_rfl) (by kernel_rfl) ?_
  rintro _ _ _ _ ⟨⟨ext, sets⟩, i, rfl, rfl, hl, hi, rfl, rfl⟩
  simp only at hl hi
  conv => whnf
  refine ⟨by rw [map_len]; simp only; omega, ?_⟩
  conv => whnf
  refine ⟨by rw [map_len]; simp only; omega, ?_⟩
  conv => whnf
  have e1 : ((sets.map ASet.c).take (i : Int).toNat).drop (0 : Int).toNat = (sets.take i).map ASet.c := by rw [Int.toNat_natCast, Int.toNat_zero, List.drop_zero, List.map_take]
  have e2 : ((sets.map ASet.c).take (((sets.map ASet.c).length : Nat) : Int).toNat).drop (i : Int).toNat = (sets.drop i).map ASet.c := by rw [Int.toNat_natCast, Int.toNat_natCast, List.take_length, List.map_drop]
  simp only
  rw [e1, e2]
  refine ⟨[], ?_⟩
  conv => whnf
  exact ⟨[], .nil, .nil, .cons (.cons rfl (.cons rfl .nil)) (.cons (.cons rfl (.cons rfl .nil)) .nil)⟩
theorem meets_not {l : List Int} {A B : List ASet} {i j : Nat} {s t : ASet} (hs : A[i]? = some s) (ht : B[j]? = some t) (h : anyEarly l s.loads t.to false = true) : meets l A B = true := by
  unfold meets
  rw [List.any_eq_true]
  exact ⟨s, List.mem_of_getElem? hs, List.any_eq_true.2 ⟨t, List.mem_of_getElem? ht, h⟩⟩
theorem meets_no {l : List Int} {A B : List ASet} (h : ∀ (i : Nat) s, A[i]? = some s → ∀ (j : Nat) t, B[j]? = some t → anyEarly l s.loads t.to false = false) : meets l A B = false := by
  unfold meets
  rw [List.any_eq_false]
  intro s hs
  obtain ⟨i, hi⟩ := List.getElem?_of_mem hs
  rw [Bool.not_eq_true, List.any_eq_false]
  intro t ht
  obtain ⟨j, hj⟩ := List.getElem?_of_mem ht
  rw [h i s hi j t hj]; decide
def R92 : Ct := fun ss hp r out => ∃ (k : Kern) (i : Nat), ss = [.v (.ag (k.c.map .d)), .di .i64 i] ∧ hp = [] ∧ k.bulk ≤ 4194304 ∧ isKern k = true ∧ 1 ≤ i ∧ i < k.sets.length ∧ r = .db (cutsB k i) ∧ out = []
set_option maxHeartbeats 4000000 in
theorem ok92 : VSound Try.prog (92, R92) := by
  refine vsound (T := ty) (F := [(84, R84), (93, R93), (99, R99), (119, R119)]) (pl := [(10, [[], [0], [], [2], [], [2, 3, 4], [2, 3, 4, 5], [2, 3, 4, 5, 6], [], [8], [], [8, 9, 10], [8, 9, 10, 11], [8, 9, 10, 11, 12], [0, 1, 2, 3, 4, 5, 6, 7, 8, 9, 10, 11, 12, 13]], .look 0 (.look 1 (.look 2 (.look 3 (.look 4 (.look 5 (.look 6 (.look 8 (.look 9 (.look 10 (.look 11 (.look 12 (.look 13 (.act 7 [0, 1, 8, 9, 10, 11, 12, 13] (.act 14 [] .done .stop) .stop))))))))))))))]) (nw := true) (cuts := []) mix tyOk (.cons (ok84) (.cons (ok93) (.cons (ok99) (.cons (ok119) .nil)))) Try.func92 (by kernel_rfl) (by kernel_rfl) ?_
  rintro _ _ _ _ ⟨⟨ext, sets⟩, c, rfl, rfl, hm, hk, hc1, hc2, rfl, rfl⟩
  simp only at hc2
  obtain ⟨kh, kt⟩ := part_kern hk hc1 hc2
  simp only [headK, tailK] at kh kt
  have hkl := setsBulk_len sets
  have hbt := setsBulk_take sets c
  have hk2 := (isKern_iff _).1 hk
  simp only [Kern.bulk] at hm
  simp only at hk2
  conv => whnf
  (refine ⟨[], false, false, ?_⟩; (conv => whnf); refine ⟨_, _, ⟨⟨ext, sets⟩, c, rfl, rfl, by simp only; omega, by simp only; omega, rfl, rfl⟩, ?_⟩; (conv => whnf))
  have hcut : cutsB ⟨ext, sets⟩ c = (fits ⟨ext, sets.take c⟩ ⟨ext, sets.drop c⟩ && !meets ext (sets.take c) (sets.drop c)) := rfl
  have hsA : ∀ s ∈ sets.take c, s ∈ sets := fun s hs => List.mem_of_mem_take hs
  have hsB : ∀ s ∈ sets.drop c, s ∈ sets := fun s hs => List.mem_of_mem_drop hs
  rw [hcut]
  simp only [headK, tailK] at hbt ⊢
  generalize sets.take c = A at *
  generalize sets.drop c = B at *
  have hlA := setsBulk_len A
  have hlB := setsBulk_len B
  (refine ⟨[], false, false, ?_⟩; (conv => whnf); refine ⟨_, _, ⟨⟨ext, A⟩, ⟨ext, B⟩, rfl, rfl, by simp only [Kern.bulk]; omega, by simp only [Kern.bulk]; omega, kh, kt, rfl, rfl⟩, ?_⟩; (conv => whnf))
  cases hfit : fits ⟨ext, A⟩ ⟨ext, B⟩ with
  | false =>
    have hfit2 : ((whyF ⟨ext, A⟩ ⟨ext, B⟩).toList == (ByteArray.mk #[]).toList) = false := hfit
    rw [hfit2, Bool.false_and]
    ((first | refine And.intro (fun _ => ?_) (fun h => absurd h (by decide)) | refine And.intro (fun h => absurd h (by decide)) (fun _ => ?_)); (conv => whnf))
    (refine ⟨[], ?_⟩; (conv => whnf); refine ⟨[], .nil, .nil, ?_⟩; (conv => whnf))
  | true =>
    have hfit2 : ((whyF ⟨ext, A⟩ ⟨ext, B⟩).toList == (ByteArray.mk #[]).toList) = true := hfit
    rw [hfit2, Bool.true_and]
    ((first | refine And.intro (fun _ => ?_) (fun h => absurd h (by decide)) | refine And.intro (fun h => absurd h (by decide)) (fun _ => ?_)); (conv => whnf))
    refine ⟨[], [2, 5, 6, 7], 3, fun n1 σ => ∃ i : Nat, i ≤ A.length ∧ n1 = A.length - i ∧ (∀ i' < i, ∀ s, A[i']? = some s → ∀ (j : Nat) t, B[j]? = some t → anyEarly ext s.loads t.to false = false) ∧ σ = (⟨[.junk, .junk, .one (.ptr 0 0), .junk, .junk, .one (.ptr 1 0), .one (.ptr 2 0), .di .i64 i, .junk, .junk, .junk, .junk, .junk, .junk, .junk, .junk, .junk, .junk, .junk, .junk, .junk, .junk, .junk, .junk, .junk, .junk, .junk, .junk, .junk, .junk, .junk, .junk, .junk, .junk, .junk, .junk, .junk, .junk, .junk, .junk, .junk, .junk, .junk, .junk, .junk, .junk, .junk, .junk], [.box ((Kern.mk ext sets).c.map .d), .box ((Kern.mk ext A).c.map .d), .box ((Kern.mk ext B).c.map .d)]⟩ : St), ?_, ?_⟩
    · refine ⟨A.length, ?_⟩
      conv => whnf
      exact ⟨0, by omega, by omega, by omega, rfl⟩
    · rintro n1 _ ⟨i, hi, rfl, hout, rfl⟩
      conv => whnf
      rw [map_len]
      ((with_reducible refine And.intro (fun (e : (_ : Bool) = true) => ?_) (fun (e : (_ : Bool) = false) => ?_)) <;> (try simp only [reduceCtorEq, ints_len, bools_len, Bool.not_false, Bool.not_true, List.length_map, decide_eq_true_eq, decide_eq_false_iff_not, Bool.not_eq_true', Bool.not_eq_false', Bool.and_eq_true, Bool.or_eq_true, Bool.and_eq_false_iff, Bool.or_eq_false_iff, beq_iff_eq, bne_iff_ne, beq_eq_false_iff_ne, bne_eq_false_iff_eq, Int.not_lt, Int.not_le, ge_iff_le, gt_iff_lt, not_or, not_and, Bool.cond_true_right, Bool.cond_true_left, Bool.cond_false_right, Bool.cond_false_left, bif_t, bif_f] at e) <;> (conv => whnf))
      · obtain ⟨x, hx⟩ := get_lt (l := A) (i := i) (by omega)
        have hxm := hsA x (List.mem_of_getElem? hx)
        have hxb := setsBulk_get hx
        have hxl := x.loads_len
        refine ⟨[], [2, 5, 6, 7, 8], 3, fun n2 σ => ∃ j : Nat, j ≤ B.length ∧ n2 = B.length - j ∧ (∀ j' < j, ∀ t, B[j']? = some t → anyEarly ext x.loads t.to false = false) ∧ σ = (⟨[.junk, .junk, .one (.ptr 0 0), .junk, .junk, .one (.ptr 1 0), .one (.ptr 2 0), .di .i64 i, .di .i64 j, .junk, .junk, .junk, .junk, .junk, .junk, .junk, .junk, .junk, .junk, .junk, .junk, .junk, .junk, .junk, .junk, .junk, .junk, .junk, .junk, .junk, .junk, .junk, .junk, .junk, .junk, .junk, .junk, .junk, .junk, .junk, .junk, .junk, .junk, .junk, .junk, .junk, .junk, .junk], [.box ((Kern.mk ext sets).c.map .d), .box ((Kern.mk ext A).c.map .d), .box ((Kern.mk ext B).c.map .d)]⟩ : St), ?_, ?_⟩
        · refine ⟨B.length, ?_⟩
          conv => whnf
          exact ⟨0, by omega, by omega, by omega, rfl⟩
        · rintro n2 _ ⟨j, hj, rfl, hin, rfl⟩
          conv => whnf
          rw [map_len]
          ((with_reducible refine And.intro (fun (e : (_ : Bool) = true) => ?_) (fun (e : (_ : Bool) = false) => ?_)) <;> (try simp only [reduceCtorEq, ints_len, bools_len, Bool.not_false, Bool.not_true, List.length_map, decide_eq_true_eq, decide_eq_false_iff_not, Bool.not_eq_true', Bool.not_eq_false', Bool.and_eq_true, Bool.or_eq_true, Bool.and_eq_false_iff, Bool.or_eq_false_iff, beq_iff_eq, bne_iff_ne, beq_eq_false_iff_ne, bne_eq_false_iff_eq, Int.not_lt, Int.not_le, ge_iff_le, gt_iff_lt, not_or, not_and, Bool.cond_true_right, Bool.cond_true_left, Bool.cond_false_right, Bool.cond_false_left, bif_t, bif_f] at e) <;> (conv => whnf))
          · obtain ⟨y, hy⟩ := get_lt (l := B) (i := j) (by omega)
            have hym := hsB y (List.mem_of_getElem? hy)
            have hrx : ∀ r ∈ x.loads, refOk ext r = true := fun r hr => hk2.2.2.2 x hxm r (List.mem_append_left _ hr)
            have hry : refOk ext y.to = true := hk2.2.2.2 y hym _ (List.mem_append_right _ (List.mem_singleton.2 rfl))
            have hmt := meets_not (l := ext) hx hy
            (refine ⟨_, And.intro ⟨by omega, enc_get hx⟩ ?_⟩; (conv => whnf))
            generalize hX : x.loads = XL at *
            obtain ⟨⟨xa, xb, xs⟩, xm, ⟨xop, xk, xn, xr, xkids⟩⟩ := x
            conv => whnf
            (refine ⟨_, And.intro ⟨by omega, enc_get hy⟩ ?_⟩; (conv => whnf))
            obtain ⟨⟨ya, yb, ys⟩, ym, ⟨yop, yk, yn, yr, ykids⟩⟩ := y
            conv => whnf
            (refine ⟨[], false, false, ?_⟩; (conv => whnf); refine ⟨_, _, ⟨⟨⟨xa, xb, xs⟩, xm, ⟨xop, xk, xn, xr, xkids⟩⟩, rfl, rfl, by omega, rfl, rfl⟩, ?_⟩; (conv => whnf))
            rw [hX]
            (refine ⟨[], false, false, ?_⟩; (conv => whnf); refine ⟨_, _, ⟨ext, XL, ⟨ya, yb, ys⟩, false, rfl, rfl, by omega, hry, hrx, rfl, rfl⟩, ?_⟩; (conv => whnf))
            cases hE : anyEarly ext XL ⟨ya, yb, ys⟩ false with
            | true =>
              rw [hmt hE]
              ((first | refine And.intro (fun _ => ?_) (fun h => absurd h (by decide)) | refine And.intro (fun h => absurd h (by decide)) (fun _ => ?_)); (conv => whnf))
              (refine ⟨[], ?_⟩; (conv => whnf); refine ⟨[], .nil, .nil, ?_⟩; (conv => whnf))
              rfl
            | false =>
              ((first | refine And.intro (fun _ => ?_) (fun h => absurd h (by decide)) | refine And.intro (fun h => absurd h (by decide)) (fun _ => ?_)); (conv => whnf))
              (refine And.intro ?_ ?_; ((first | (with_reducible assumption) | (intro _; with_reducible assumption) | omega | (simp only [reduceCtorEq, ints_len, bools_len, Bool.not_false, Bool.not_true, List.length_map, decide_eq_true_eq, decide_eq_false_iff_not, Bool.not_eq_true', Bool.not_eq_false', Bool.and_eq_true, Bool.or_eq_true, Bool.and_eq_false_iff, Bool.or_eq_false_iff, beq_iff_eq, bne_iff_ne, beq_eq_false_iff_ne, bne_eq_false_iff_eq, Int.not_lt, Int.not_le, ge_iff_le, gt_iff_lt, not_or, not_and, Bool.cond_true_right, Bool.cond_true_left, Bool.cond_false_right, Bool.cond_false_left, bif_t, bif_f] at *; omega) | (intro hg; (try simp only [reduceCtorEq, ints_len, bools_len, Bool.not_false, Bool.not_true, List.length_map, decide_eq_true_eq, decide_eq_false_iff_not, Bool.not_eq_true', Bool.not_eq_false', Bool.and_eq_true, Bool.or_eq_true, Bool.and_eq_false_iff, Bool.or_eq_false_iff, beq_iff_eq, bne_iff_ne, beq_eq_false_iff_ne, bne_eq_false_iff_eq, Int.not_lt, Int.not_le, ge_iff_le, gt_iff_lt, not_or, not_and, Bool.cond_true_right, Bool.cond_true_left, Bool.cond_false_right, Bool.cond_false_left, bif_t, bif_f] at hg); first | (with_reducible assumption) | omega | (simp only [reduceCtorEq, ints_len, bools_len, Bool.not_false, Bool.not_true, List.length_map, decide_eq_true_eq, decide_eq_false_iff_not, Bool.not_eq_true', Bool.not_eq_false', Bool.and_eq_true, Bool.or_eq_true, Bool.and_eq_false_iff, Bool.or_eq_false_iff, beq_iff_eq, bne_iff_ne, beq_eq_false_iff_ne, bne_eq_false_iff_eq, Int.not_lt, Int.not_le, ge_iff_le, gt_iff_lt, not_or, not_and, Bool.cond_true_right, Bool.cond_true_left, Bool.cond_false_right, Bool.cond_false_left, bif_t, bif_f] at *; omega) | (refine ⟨?_, ?_⟩ <;> omega)) | (refine ⟨?_, ?_⟩ <;> omega) | (simp [*]; done) | grind)); (conv => whnf))
              refine ⟨B.length - (j + 1), by omega, [], ?_⟩
              conv => whnf
              refine ⟨j + 1, by omega, rfl, fun j' hj' t ht => ?_, rfl⟩
              by_cases ej : j' = j
              · subst ej; rw [hy] at ht; cases ht; exact hE
              · exact hin j' (by omega) t ht
          · (refine And.intro ?_ ?_; ((first | (with_reducible assumption) | (intro _; with_reducible assumption) | omega | (simp only [reduceCtorEq, ints_len, bools_len, Bool.not_false, Bool.not_true, List.length_map, decide_eq_true_eq, decide_eq_false_iff_not, Bool.not_eq_true', Bool.not_eq_false', Bool.and_eq_true, Bool.or_eq_true, Bool.and_eq_false_iff, Bool.or_eq_false_iff, beq_iff_eq, bne_iff_ne, beq_eq_false_iff_ne, bne_eq_false_iff_eq, Int.not_lt, Int.not_le, ge_iff_le, gt_iff_lt, not_or, not_and, Bool.cond_true_right, Bool.cond_true_left, Bool.cond_false_right, Bool.cond_false_left, bif_t, bif_f] at *; omega) | (intro hg; (try simp only [reduceCtorEq, ints_len, bools_len, Bool.not_false, Bool.not_true, List.length_map, decide_eq_true_eq, decide_eq_false_iff_not, Bool.not_eq_true', Bool.not_eq_false', Bool.and_eq_true, Bool.or_eq_true, Bool.and_eq_false_iff, Bool.or_eq_false_iff, beq_iff_eq, bne_iff_ne, beq_eq_false_iff_ne, bne_eq_false_iff_eq, Int.not_lt, Int.not_le, ge_iff_le, gt_iff_lt, not_or, not_and, Bool.cond_true_right, Bool.cond_true_left, Bool.cond_false_right, Bool.cond_false_left, bif_t, bif_f] at hg); first | (with_reducible assumption) | omega | (simp only [reduceCtorEq, ints_len, bools_len, Bool.not_false, Bool.not_true, List.length_map, decide_eq_true_eq, decide_eq_false_iff_not, Bool.not_eq_true', Bool.not_eq_false', Bool.and_eq_true, Bool.or_eq_true, Bool.and_eq_false_iff, Bool.or_eq_false_iff, beq_iff_eq, bne_iff_ne, beq_eq_false_iff_ne, bne_eq_false_iff_eq, Int.not_lt, Int.not_le, ge_iff_le, gt_iff_lt, not_or, not_and, Bool.cond_true_right, Bool.cond_true_left, Bool.cond_false_right, Bool.cond_false_left, bif_t, bif_f] at *; omega) | (refine ⟨?_, ?_⟩ <;> omega)) | (refine ⟨?_, ?_⟩ <;> omega) | (simp [*]; done) | grind)); (conv => whnf))
            refine ⟨A.length - (i + 1), by omega, [], ?_⟩
            conv => whnf
            refine ⟨i + 1, by omega, rfl, fun i' hi' s hs j' t ht => ?_, rfl⟩
            by_cases ei : i' = i
            · subst ei; rw [hx] at hs; cases hs
              exact hin j' (by have := (List.getElem?_eq_some_iff.1 ht).1; omega) t ht
            · exact hout i' (by omega) s hs j' t ht
      · have hmn : meets ext A B = false := meets_no fun i' s hs j t ht => hout i' (by have := (List.getElem?_eq_some_iff.1 hs).1; omega) s hs j t ht
        rw [hmn]
        (refine ⟨[], ?_⟩; (conv => whnf); refine ⟨[], .nil, .nil, ?_⟩; (conv => whnf))
        rfl
def R91 : Ct := fun ss hp r out => ∃ (k : Kern) (i : Nat), ss = [.v (.ag (k.c.map .d)), .di .i64 i] ∧ hp = [] ∧ k.bulk ≤ 4194304 ∧ isKern k = true ∧ 1 ≤ i ∧ i < k.sets.length ∧ r = .db (cutsB k i) ∧ out = []
set_option maxHeartbeats 4000000 in
theorem ok91 : VSound Try.prog (91, R91) := by
  refine vsound (T := ty) (F := [(83, R83), (96, R96), (97, R97 117 R117), (116, R116)]) (pl := [(1, [[], [0], [], [2], [], [2, 3, 4], [0, 1, 2, 3, 4, 5], [], [0, 1, 2, 3, 4, 5, 6, 7]], .look 0 (.look 1 (.look 2 (.look 3 (.look 4 (.look 5 (.look 6 (.act 7 [0, 1, 2, 3, 4, 5, 6] (.act 8 [] .done .stop) .stop)))))))), (2, [[], [0], [], [2], [], [2, 3, 4], [0, 1, 2, 3, 4, 5], [], [0, 1, 2, 3, 4, 5, 6, 7]], .look 0 (.look 1 (.look 2 (.look 3 (.look 4 (.look 5 (.look 6 (.act 7 [0, 1, 2, 3, 4, 5, 6] (.act 8 [] .done .stop) .stop))))))))]) (nw := true) (cuts := []) mix tyOk (.cons (ok83) (.cons (ok96) (.cons (ok97 117 R117 ok117) (.cons (ok116) .nil)))) Try.func91 (by kernel_rfl) (by kernel_rfl) ?_
  rintro _ _ _ _ ⟨⟨ext, sets⟩, c, rfl, rfl, hm, hk, hc1, hc2, rfl, rfl⟩
  simp only at hc2
  obtain ⟨kh, kt⟩ := part_kern hk hc1 hc2
  simp only [headK, tailK] at kh kt
  have hkl := setsBulk_len sets
  have hbt := setsBulk_take sets c
  have hk2 := (isKern_iff _).1 hk
  have hme := many_prod hk2.1
  simp only [Kern.bulk] at hm
  simp only at hk2 hme
  have e1 : ((sets.map ASet.c).take (c : Int).toNat).drop (0 : Int).toNat = (sets.take c).map ASet.c := by rw [Int.toNat_natCast, Int.toNat_zero, List.drop_zero, List.map_take]
  have e2 : ((sets.map ASet.c).take (((sets.map ASet.c).length : Nat) : Int).toNat).drop (c : Int).toNat = (sets.drop c).map ASet.c := by rw [Int.toNat_natCast, Int.toNat_natCast, List.take_length, List.map_drop]
  have hcut : cutsB ⟨ext, sets⟩ c = (fits ⟨ext, sets.take c⟩ ⟨ext, sets.drop c⟩ && !meets ext (sets.take c) (sets.drop c)) := rfl
  have hsA : ∀ s ∈ sets.take c, s ∈ sets := fun s hs => List.mem_of_mem_take hs
  have hsB : ∀ s ∈ sets.drop c, s ∈ sets := fun s hs => List.mem_of_mem_drop hs
  rw [hcut]
  conv => whnf
  refine ⟨by rw [map_len]; simp only; omega, ?_⟩
  conv => whnf
  refine ⟨by rw [map_len]; simp only; omega, ?_⟩
  conv => whnf
  simp only
  rw [e1, e2]
  clear e1 e2 hcut
  generalize sets.take c = A at *
  generalize sets.drop c = B at *
  have hlA := setsBulk_len A
  have hlB := setsBulk_len B
  (refine ⟨[], false, false, ?_⟩; (conv => whnf); refine ⟨_, _, ⟨⟨ext, A⟩, ⟨ext, B⟩, rfl, rfl, by simp only [Kern.bulk]; omega, by simp only [Kern.bulk]; omega, kh, kt, rfl, rfl⟩, ?_⟩; (conv => whnf))
  cases hfit : fits ⟨ext, A⟩ ⟨ext, B⟩ with
  | false =>
    have hfit2 : ((whyF ⟨ext, A⟩ ⟨ext, B⟩).toList == (ByteArray.mk #[]).toList) = false := hfit
    rw [hfit2, Bool.false_and]
    ((first | refine And.intro (fun _ => ?_) (fun h => absurd h (by decide)) | refine And.intro (fun h => absurd h (by decide)) (fun _ => ?_)); (conv => whnf))
    (refine ⟨[], ?_⟩; (conv => whnf); refine ⟨[], .nil, .nil, ?_⟩; (conv => whnf))
  | true =>
    have hfit2 : ((whyF ⟨ext, A⟩ ⟨ext, B⟩).toList == (ByteArray.mk #[]).toList) = true := hfit
    rw [hfit2, Bool.true_and]
    ((first | refine And.intro (fun _ => ?_) (fun h => absurd h (by decide)) | refine And.intro (fun h => absurd h (by decide)) (fun _ => ?_)); (conv => whnf))
    refine ⟨[], [2, 5, 6, 32, 33], 3, fun n1 σ => ∃ i : Nat, i ≤ A.length ∧ n1 = A.length - i ∧ (∀ i' < i, ∀ s, A[i']? = some s → ∀ (j : Nat) t, B[j]? = some t → anyEarly ext s.loads t.to false = false) ∧ σ = (⟨[.junk, .junk, .one (.ptr 0 0), .junk, .junk, .one (.ptr 1 0), .one (.ptr 2 0), .junk, .junk, .junk, .junk, .junk, .junk, .junk, .junk, .junk, .junk, .junk, .junk, .junk, .junk, .junk, .junk, .junk, .junk, .junk, .junk, .junk, .junk, .junk, .junk, .junk, .di .i64 A.length, .di .i64 i, .junk, .junk, .junk, .junk, .junk, .junk, .junk, .junk, .junk, .junk, .junk, .junk, .junk, .junk, .junk, .junk, .junk, .junk, .junk, .junk, .junk], [.box ((Kern.mk ext sets).c.map .d), .box ((Kern.mk ext A).c.map .d), .box ((Kern.mk ext B).c.map .d)]⟩ : St), ?_, ?_⟩
    · refine ⟨A.length, ?_⟩
      conv => whnf
      exact ⟨0, by omega, by omega, by omega, by rw [map_len]; rfl⟩
    · rintro n1 _ ⟨i, hi, rfl, hout, rfl⟩
      conv => whnf
      ((with_reducible refine And.intro (fun (e : (_ : Bool) = true) => ?_) (fun (e : (_ : Bool) = false) => ?_)) <;> (try simp only [reduceCtorEq, ints_len, bools_len, Bool.not_false, Bool.not_true, List.length_map, decide_eq_true_eq, decide_eq_false_iff_not, Bool.not_eq_true', Bool.not_eq_false', Bool.and_eq_true, Bool.or_eq_true, Bool.and_eq_false_iff, Bool.or_eq_false_iff, beq_iff_eq, bne_iff_ne, beq_eq_false_iff_ne, bne_eq_false_iff_eq, Int.not_lt, Int.not_le, ge_iff_le, gt_iff_lt, not_or, not_and, Bool.cond_true_right, Bool.cond_true_left, Bool.cond_false_right, Bool.cond_false_left, bif_t, bif_f] at e) <;> (conv => whnf))
      · obtain ⟨x, hx⟩ := get_lt (l := A) (i := i) (by omega)
        have hxm := hsA x (List.mem_of_getElem? hx)
        have hxb := setsBulk_get hx
        have hxl := x.loads_len
        obtain ⟨x1, x2, x3⟩ := kern_refs kh (List.mem_of_getElem? hx)
        have hL : loadsOf ⟨ext, [x]⟩ 0 = x.loads := by
          unfold loadsOf
          rw [if_pos ⟨x3, by decide, by simp⟩]; rfl
        (refine ⟨[], false, false, ?_⟩; (conv => whnf); refine ⟨_, _, ⟨⟨ext, A⟩, i, x, rfl, rfl, by simp only; omega, hx, rfl, rfl⟩, ?_⟩; (conv => whnf))
        (refine ⟨[], false, false, ?_⟩; (conv => whnf); refine ⟨_, _, ⟨⟨ext, [x]⟩, 0, rfl, rfl, by simp only [Kern.bulk, setsBulk]; omega, rfl, rfl⟩, ?_⟩; (conv => whnf))
        rw [hL]
        refine ⟨[], [2, 5, 6, 8, 32, 33, 44, 45, 46], 4, fun n2 σ => ∃ j : Nat, j ≤ B.length ∧ n2 = B.length - j ∧ (∀ j' < j, ∀ t, B[j']? = some t → anyEarly ext x.loads t.to false = false) ∧ σ = (⟨[.junk, .junk, .one (.ptr 0 0), .junk, .junk, .one (.ptr 1 0), .one (.ptr 2 0), .junk, .one (.own 3), .junk, .junk, .junk, .junk, .junk, .junk, .junk, .junk, .junk, .junk, .junk, .junk, .junk, .junk, .junk, .junk, .junk, .junk, .junk, .junk, .junk, .junk, .junk, .di .i64 A.length, .di .i64 i, .junk, .junk, .junk, .junk, .junk, .junk, .junk, .junk, .junk, .junk, .one (.d (.sl 11 (B.map ASet.c))), .di .i64 B.length, .di .i64 j, .junk, .junk, .junk, .junk, .junk, .junk, .junk, .junk], [.box ((Kern.mk ext sets).c.map .d), .box ((Kern.mk ext A).c.map .d), .box ((Kern.mk ext B).c.map .d), .row 3 (x.loads.map Ref.c)]⟩ : St), ?_, ?_⟩
        · refine ⟨B.length, ?_⟩
          conv => whnf
          exact ⟨0, by omega, by omega, by omega, by rw [map_len]; rfl⟩
        · rintro n2 _ ⟨j, hj, rfl, hin, rfl⟩
          conv => whnf
          ((with_reducible refine And.intro (fun (e : (_ : Bool) = true) => ?_) (fun (e : (_ : Bool) = false) => ?_)) <;> (try simp only [reduceCtorEq, ints_len, bools_len, Bool.not_false, Bool.not_true, List.length_map, decide_eq_true_eq, decide_eq_false_iff_not, Bool.not_eq_true', Bool.not_eq_false', Bool.and_eq_true, Bool.or_eq_true, Bool.and_eq_false_iff, Bool.or_eq_false_iff, beq_iff_eq, bne_iff_ne, beq_eq_false_iff_ne, bne_eq_false_iff_eq, Int.not_lt, Int.not_le, ge_iff_le, gt_iff_lt, not_or, not_and, Bool.cond_true_right, Bool.cond_true_left, Bool.cond_false_right, Bool.cond_false_left, bif_t, bif_f] at e) <;> (conv => whnf))
          · obtain ⟨y, hy⟩ := get_lt (l := B) (i := j) (by omega)
            have hym := hsB y (List.mem_of_getElem? hy)
            have hrx : ∀ r ∈ x.loads, refOk ext r = true := fun r hr => hk2.2.2.2 x hxm r (List.mem_append_left _ hr)
            have hry : refOk ext y.to = true := hk2.2.2.2 y hym _ (List.mem_append_right _ (List.mem_singleton.2 rfl))
            have hmt := meets_not (l := ext) hx hy
            have hyl := (ref_len hry).1
            (refine ⟨_, And.intro ⟨by omega, enc_get hy⟩ ?_⟩; (conv => whnf))
            obtain ⟨⟨ya, yb, ys⟩, ym, ⟨yop, yk, yn, yr, ykids⟩⟩ := y
            conv => whnf
            (refine ⟨[], false, false, ?_⟩; (conv => whnf); refine ⟨_, _, ⟨x.loads, [.pel (Kern.mk ext sets).c, .pel (ASet.mk ⟨ya, yb, ys⟩ ym ⟨yop, yk, yn, yr, ykids⟩).c], fun r => late ext ⟨ya, yb, ys⟩ r, rfl, rfl, by omega, rfl, fun r hr => ⟨⟨ext, sets⟩, ⟨⟨ya, yb, ys⟩, ym, ⟨yop, yk, yn, yr, ykids⟩⟩, r, rfl, rfl, by simp only; omega, by simp only at hyl ⊢; omega, by have := (ref_len (hrx r hr)).1; omega, rfl, rfl⟩, rfl, rfl⟩, ?_⟩; (conv => whnf))
            have hla : (x.loads.any fun r => late ext ⟨ya, yb, ys⟩ r) = anyEarly ext x.loads ⟨ya, yb, ys⟩ false := by
              unfold anyEarly
              congr 1
              funext r
              rw [late_early]; rfl
            rw [hla]
            cases hE : anyEarly ext x.loads ⟨ya, yb, ys⟩ false with
            | true =>
              rw [hmt hE]
              ((first | refine And.intro (fun _ => ?_) (fun h => absurd h (by decide)) | refine And.intro (fun h => absurd h (by decide)) (fun _ => ?_)); (conv => whnf))
              (refine ⟨[], ?_⟩; (conv => whnf); refine ⟨[], .nil, .nil, ?_⟩; (conv => whnf))
              rfl
            | false =>
              ((first | refine And.intro (fun _ => ?_) (fun h => absurd h (by decide)) | refine And.intro (fun h => absurd h (by decide)) (fun _ => ?_)); (conv => whnf))
              (refine And.intro ?_ ?_; ((first | (with_reducible assumption) | (intro _; with_reducible assumption) | omega | (simp only [reduceCtorEq, ints_len, bools_len, Bool.not_false, Bool.not_true, List.length_map, decide_eq_true_eq, decide_eq_false_iff_not, Bool.not_eq_true', Bool.not_eq_false', Bool.and_eq_true, Bool.or_eq_true, Bool.and_eq_false_iff, Bool.or_eq_false_iff, beq_iff_eq, bne_iff_ne, beq_eq_false_iff_ne, bne_eq_false_iff_eq, Int.not_lt, Int.not_le, ge_iff_le, gt_iff_lt, not_or, not_and, Bool.cond_true_right, Bool.cond_true_left, Bool.cond_false_right, Bool.cond_false_left, bif_t, bif_f] at *; omega) | (intro hg; (try simp only [reduceCtorEq, ints_len, bools_len, Bool.not_false, Bool.not_true, List.length_map, decide_eq_true_eq, decide_eq_false_iff_not, Bool.not_eq_true', Bool.not_eq_false', Bool.and_eq_true, Bool.or_eq_true, Bool.and_eq_false_iff, Bool.or_eq_false_iff, beq_iff_eq, bne_iff_ne, beq_eq_false_iff_ne, bne_eq_false_iff_eq, Int.not_lt, Int.not_le, ge_iff_le, gt_iff_lt, not_or, not_and, Bool.cond_true_right, Bool.cond_true_left, Bool.cond_false_right, Bool.cond_false_left, bif_t, bif_f] at hg); first | (with_reducible assumption) | omega | (simp only [reduceCtorEq, ints_len, bools_len, Bool.not_false, Bool.not_true, List.length_map, decide_eq_true_eq, decide_eq_false_iff_not, Bool.not_eq_true', Bool.not_eq_false', Bool.and_eq_true, Bool.or_eq_true, Bool.and_eq_false_iff, Bool.or_eq_false_iff, beq_iff_eq, bne_iff_ne, beq_eq_false_iff_ne, bne_eq_false_iff_eq, Int.not_lt, Int.not_le, ge_iff_le, gt_iff_lt, not_or, not_and, Bool.cond_true_right, Bool.cond_true_left, Bool.cond_false_right, Bool.cond_false_left, bif_t, bif_f] at *; omega) | (refine ⟨?_, ?_⟩ <;> omega)) | (refine ⟨?_, ?_⟩ <;> omega) | (simp [*]; done) | grind)); (conv => whnf))
              refine ⟨B.length - (j + 1), by omega, [], ?_⟩
              conv => whnf
              refine ⟨j + 1, by omega, rfl, fun j' hj' t ht => ?_, rfl⟩
              by_cases ej : j' = j
              · subst ej; rw [hy] at ht; cases ht; exact hE
              · exact hin j' (by omega) t ht
          · (refine And.intro ?_ ?_; ((first | (with_reducible assumption) | (intro _; with_reducible assumption) | omega | (simp only [reduceCtorEq, ints_len, bools_len, Bool.not_false, Bool.not_true, List.length_map, decide_eq_true_eq, decide_eq_false_iff_not, Bool.not_eq_true', Bool.not_eq_false', Bool.and_eq_true, Bool.or_eq_true, Bool.and_eq_false_iff, Bool.or_eq_false_iff, beq_iff_eq, bne_iff_ne, beq_eq_false_iff_ne, bne_eq_false_iff_eq, Int.not_lt, Int.not_le, ge_iff_le, gt_iff_lt, not_or, not_and, Bool.cond_true_right, Bool.cond_true_left, Bool.cond_false_right, Bool.cond_false_left, bif_t, bif_f] at *; omega) | (intro hg; (try simp only [reduceCtorEq, ints_len, bools_len, Bool.not_false, Bool.not_true, List.length_map, decide_eq_true_eq, decide_eq_false_iff_not, Bool.not_eq_true', Bool.not_eq_false', Bool.and_eq_true, Bool.or_eq_true, Bool.and_eq_false_iff, Bool.or_eq_false_iff, beq_iff_eq, bne_iff_ne, beq_eq_false_iff_ne, bne_eq_false_iff_eq, Int.not_lt, Int.not_le, ge_iff_le, gt_iff_lt, not_or, not_and, Bool.cond_true_right, Bool.cond_true_left, Bool.cond_false_right, Bool.cond_false_left, bif_t, bif_f] at hg); first | (with_reducible assumption) | omega | (simp only [reduceCtorEq, ints_len, bools_len, Bool.not_false, Bool.not_true, List.length_map, decide_eq_true_eq, decide_eq_false_iff_not, Bool.not_eq_true', Bool.not_eq_false', Bool.and_eq_true, Bool.or_eq_true, Bool.and_eq_false_iff, Bool.or_eq_false_iff, beq_iff_eq, bne_iff_ne, beq_eq_false_iff_ne, bne_eq_false_iff_eq, Int.not_lt, Int.not_le, ge_iff_le, gt_iff_lt, not_or, not_and, Bool.cond_true_right, Bool.cond_true_left, Bool.cond_false_right, Bool.cond_false_left, bif_t, bif_f] at *; omega) | (refine ⟨?_, ?_⟩ <;> omega)) | (refine ⟨?_, ?_⟩ <;> omega) | (simp [*]; done) | grind)); (conv => whnf))
            refine ⟨A.length - (i + 1), by omega, [], ?_⟩
            conv => whnf
            refine ⟨i + 1, by omega, rfl, fun i' hi' s hs j' t ht => ?_, rfl⟩
            by_cases ei : i' = i
            · subst ei; rw [hx] at hs; cases hs
              exact hin j' (by have := (List.getElem?_eq_some_iff.1 ht).1; omega) t ht
            · exact hout i' (by omega) s hs j' t ht
      · have hmn : meets ext A B = false := meets_no fun i' s hs j t ht => hout i' (by have := (List.getElem?_eq_some_iff.1 hs).1; omega) s hs j t ht
        rw [hmn]
        (refine ⟨[], ?_⟩; (conv => whnf); refine ⟨[], .nil, .nil, ?_⟩; (conv => whnf))
        rfl
end Go.Proofs.Ytahdihhhankhdaa.V
-- Vfq
namespace Go.Proofs.Ytahdihhhankhdaa.V
open Go.Proofs.YtahdihhhankhdaaVY Go.RowKit
def splitOk (k : Kern) (c : Int) : Bool := isKern k && decide (1 ≤ c ∧ c < k.sets.length)
theorem splitOk_iff {k : Kern} {c : Int} : splitOk k c = true ↔ isKern k = true ∧ 1 ≤ c ∧ c < k.sets.length := by
  unfold splitOk; simp only [Bool.and_eq_true, decide_eq_true_eq]
/-- the parts of a kernel, cut wherever that may be, from a place on -/
def splitW (k : Kern) (a : Nat) : List Kern :=
  if h : 1 ≤ a ∧ a < k.sets.length then
    if cutsB k a = true then headK k a :: splitW (tailK k a) 1 else splitW k (a + 1)
  else [k]
termination_by 10 * k.sets.length - a
decreasing_by
  · simp only [tailK, List.length_drop]; omega
  · omega
theorem splitW_cut {k : Kern} {a : Nat} (h1 : 1 ≤ a) (h2 : a < k.sets.length) (h : cutsB k a = true) : splitW k a = headK k a :: splitW (tailK k a) 1 := by
  rw [splitW, dif_pos ⟨h1, h2⟩, if_pos h]
theorem splitW_on {k : Kern} {a : Nat} (h1 : 1 ≤ a) (h2 : a < k.sets.length) (h : cutsB k a = false) : splitW k a = splitW k (a + 1) := by
  rw [splitW, dif_pos ⟨h1, h2⟩, if_neg (by rw [h]; decide)]
theorem splitW_end {k : Kern} {a : Nat} (h : k.sets.length ≤ a) : splitW k a = [k] := by
  rw [splitW, dif_neg (by omega)]
theorem splitW_bulk (n : Nat) : ∀ (k : Kern) (a : Nat), 10 * k.sets.length - a ≤ n → 1 ≤ k.sets.length → kernsBulk (splitW k a) ≤ (k.ext.length + 1) * k.sets.length + setsBulk k.sets ∧ (splitW k a).length ≤ k.sets.length := by
  induction n with
  | zero =>
    intro k a h h1
    rw [splitW_end (by omega)]
    refine ⟨?_, by simp; omega⟩
    simp only [kernsBulk, Kern.bulk]
    have := Nat.le_mul_of_pos_right (k.ext.length + 1) h1
    omega
  | succ n ih =>
    intro k a h h1
    by_cases ha : 1 ≤ a ∧ a < k.sets.length
    · obtain ⟨ha1, ha2⟩ := ha
      cases hc : cutsB k a with
      | true =>
        rw [splitW_cut ha1 ha2 hc]
        have hl : (tailK k a).sets.length = k.sets.length - a := by simp only [tailK, List.length_drop]
        have h2 := ih (tailK k a) 1 (by omega) (by omega)
        have h3 := setsBulk_app (k.sets.take a) (k.sets.drop a)
        rw [List.take_append_drop] at h3
        rw [hl] at h2
        have e1 : (tailK k a).ext = k.ext := rfl
        have e2 : (tailK k a).sets = k.sets.drop a := rfl
        have e3 : (headK k a).bulk = k.ext.length + setsBulk (k.sets.take a) := rfl
        rw [e1, e2] at h2
        refine ⟨?_, by rw [List.length_cons]; omega⟩
        rw [kernsBulk, e3]
        have h4 : (k.ext.length + 1) * k.sets.length = (k.ext.length + 1) * (k.sets.length - a) + (k.ext.length + 1) * a := by
          rw [← Nat.mul_add]; congr 1; omega
        have h5 := Nat.le_mul_of_pos_right (k.ext.length + 1) ha1
        omega
      | false =>
        rw [splitW_on ha1 ha2 hc]
        exact ih k (a + 1) (by omega) h1
    · rw [splitW, dif_neg ha]
      refine ⟨?_, by simp; omega⟩
      simp only [kernsBulk, Kern.bulk]
      have := Nat.le_mul_of_pos_right (k.ext.length + 1) h1
      omega
def splitOf (k : Kern) : List Kern := if isKern k = true then splitW k 1 else []
def splitErr (k : Kern) : Int := if isKern k = true then 0 else 2
def R53 : Ct := fun ss hp r out => ∃ (k : Kern) (c : Int), ss = [.v (.ag (k.c.map .d)), .di .i64 c] ∧ hp = [] ∧ k.bulk ≤ 4194304 ∧ r = .tup [.c (.d (.bool (splitOk k c && cutsB k c.toNat))), .c (.d (.int .i64 (if splitOk k c then 0 else 2)))] ∧ out = []
def R54 : Ct := R53
set_option maxHeartbeats 4000000 in
theorem ok53 : VSound Try.prog (53, R53) := by
  refine vsound (T := ty) (F := [(82, R82), (91, R91)]) (pl := []) (nw := true) (cuts := []) mix tyOk (.cons (ok82) (.cons (ok91) .nil)) Try.func53 (by kernel_rfl) (by kernel_rfl) ?_
  rintro _ _ _ _ ⟨⟨ext, sets⟩, c, rfl, rfl, hm, rfl, rfl⟩
  conv => whnf
  (refine ⟨[], false, false, ?_⟩; (conv => whnf); refine ⟨_, _, ⟨⟨ext, sets⟩, rfl, rfl, hm, rfl, rfl⟩, ?_⟩; (conv => whnf))
  have hI := @splitOk_iff ⟨ext, sets⟩ c
  generalize hK : isKern ⟨ext, sets⟩ = K at *
  simp only at hI
  (repeat' (first | ((with_reducible refine And.intro (fun (e : (_ : Bool) = true) => ?_) (fun (e : (_ : Bool) = false) => ?_)) <;> (try simp only [reduceCtorEq, ints_len, bools_len, Bool.not_false, Bool.not_true, List.length_map, decide_eq_true_eq, decide_eq_false_iff_not, Bool.not_eq_true', Bool.not_eq_false', Bool.and_eq_true, Bool.or_eq_true, Bool.and_eq_false_iff, Bool.or_eq_false_iff, beq_iff_eq, bne_iff_ne, beq_eq_false_iff_ne, bne_eq_false_iff_eq, Int.not_lt, Int.not_le, ge_iff_le, gt_iff_lt, not_or, not_and, Bool.cond_true_right, Bool.cond_true_left, Bool.cond_false_right, Bool.cond_false_left, bif_t, bif_f] at e) <;> (conv => whnf)) | ((with_reducible refine And.intro (fun (e : (_ : Bool) = false) => ?_) (fun (e : (_ : Bool) = true) => ?_)) <;> (try simp only [reduceCtorEq, ints_len, bools_len, Bool.not_false, Bool.not_true, List.length_map, decide_eq_true_eq, decide_eq_false_iff_not, Bool.not_eq_true', Bool.not_eq_false', Bool.and_eq_true, Bool.or_eq_true, Bool.and_eq_false_iff, Bool.or_eq_false_iff, beq_iff_eq, bne_iff_ne, beq_eq_false_iff_ne, bne_eq_false_iff_eq, Int.not_lt, Int.not_le, ge_iff_le, gt_iff_lt, not_or, not_and, Bool.cond_true_right, Bool.cond_true_left, Bool.cond_false_right, Bool.cond_false_left, bif_t, bif_f] at e) <;> (conv => whnf)) | (refine And.intro ?_ ?_; ((first | (with_reducible assumption) | (intro _; with_reducible assumption) | omega | (simp only [reduceCtorEq, ints_len, bools_len, Bool.not_false, Bool.not_true, List.length_map, decide_eq_true_eq, decide_eq_false_iff_not, Bool.not_eq_true', Bool.not_eq_false', Bool.and_eq_true, Bool.or_eq_true, Bool.and_eq_false_iff, Bool.or_eq_false_iff, beq_iff_eq, bne_iff_ne, beq_eq_false_iff_ne, bne_eq_false_iff_eq, Int.not_lt, Int.not_le, ge_iff_le, gt_iff_lt, not_or, not_and, Bool.cond_true_right, Bool.cond_true_left, Bool.cond_false_right, Bool.cond_false_left, bif_t, bif_f] at *; omega) | (intro hg; (try simp only [reduceCtorEq, ints_len, bools_len, Bool.not_false, Bool.not_true, List.length_map, decide_eq_true_eq, decide_eq_false_iff_not, Bool.not_eq_true', Bool.not_eq_false', Bool.and_eq_true, Bool.or_eq_true, Bool.and_eq_false_iff, Bool.or_eq_false_iff, beq_iff_eq, bne_iff_ne, beq_eq_false_iff_ne, bne_eq_false_iff_eq, Int.not_lt, Int.not_le, ge_iff_le, gt_iff_lt, not_or, not_and, Bool.cond_true_right, Bool.cond_true_left, Bool.cond_false_right, Bool.cond_false_left, bif_t, bif_f] at hg); first | (with_reducible assumption) | omega | (simp only [reduceCtorEq, ints_len, bools_len, Bool.not_false, Bool.not_true, List.length_map, decide_eq_true_eq, decide_eq_false_iff_not, Bool.not_eq_true', Bool.not_eq_false', Bool.and_eq_true, Bool.or_eq_true, Bool.and_eq_false_iff, Bool.or_eq_false_iff, beq_iff_eq, bne_iff_ne, beq_eq_false_iff_ne, bne_eq_false_iff_eq, Int.not_lt, Int.not_le, ge_iff_le, gt_iff_lt, not_or, not_and, Bool.cond_true_right, Bool.cond_true_left, Bool.cond_false_right, Bool.cond_false_left, bif_t, bif_f] at *; omega) | (refine ⟨?_, ?_⟩ <;> omega)) | (refine ⟨?_, ?_⟩ <;> omega) | (simp [*]; done) | grind)); (conv => whnf))))
  · have e1 := e
    have ho : splitOk ⟨ext, sets⟩ c = false := Bool.eq_false_iff.2 fun h => by
      obtain ⟨h1, h2, h3⟩ := hI.1 h
      rcases e1 with (e | e) | e
      · rw [h1] at e; cases e
      · omega
      · omega
    rw [ho]
    (refine ⟨[], ?_⟩; (conv => whnf); refine ⟨[], .nil, .nil, ?_⟩)
    exact .cons rfl (.cons rfl .nil)
  · have ho : splitOk ⟨ext, sets⟩ c = true := hI.2 ⟨e.1.1, e.1.2, e.2⟩
    obtain ⟨⟨h1, h2⟩, h3⟩ := e
    subst h1
    obtain ⟨a, rfl⟩ := Int.eq_ofNat_of_zero_le (a := c) (by omega)
    rw [ho]
    (refine ⟨[], false, false, ?_⟩; (conv => whnf); refine ⟨_, _, ⟨⟨ext, sets⟩, a, rfl, rfl, hm, hK, by omega, by simp only; omega, rfl, rfl⟩, ?_⟩; (conv => whnf))
    (refine ⟨[], ?_⟩; (conv => whnf); refine ⟨[], .nil, .nil, ?_⟩)
    exact .cons rfl (.cons rfl .nil)
set_option maxHeartbeats 4000000 in
theorem ok54 : VSound Try.prog (54, R54) := by
  refine vsound (T := ty) (F := [(61, R61), (92, R92)]) (pl := []) (nw := true) (cuts := []) mix tyOk (.cons (ok61) (.cons (ok92) .nil)) Try.func54 (by kernel_rfl) (by kernel_rfl) ?_
  rintro _ _ _ _ ⟨⟨ext, sets⟩, c, rfl, rfl, hm, rfl, rfl⟩
  conv => whnf
  (refine ⟨[], false, false, ?_⟩; (conv => whnf); refine ⟨_, _, ⟨⟨ext, sets⟩, rfl, rfl, hm, rfl, rfl⟩, ?_⟩; (conv => whnf))
  have hI := @splitOk_iff ⟨ext, sets⟩ c
  generalize hK : isKern ⟨ext, sets⟩ = K at *
  simp only at hI
  (repeat' (first | ((with_reducible refine And.intro (fun (e : (_ : Bool) = true) => ?_) (fun (e : (_ : Bool) = false) => ?_)) <;> (try simp only [reduceCtorEq, ints_len, bools_len, Bool.not_false, Bool.not_true, List.length_map, decide_eq_true_eq, decide_eq_false_iff_not, Bool.not_eq_true', Bool.not_eq_false', Bool.and_eq_true, Bool.or_eq_true, Bool.and_eq_false_iff, Bool.or_eq_false_iff, beq_iff_eq, bne_iff_ne, beq_eq_false_iff_ne, bne_eq_false_iff_eq, Int.not_lt, Int.not_le, ge_iff_le, gt_iff_lt, not_or, not_and, Bool.cond_true_right, Bool.cond_true_left, Bool.cond_false_right, Bool.cond_false_left, bif_t, bif_f] at e) <;> (conv => whnf)) | ((with_reducible refine And.intro (fun (e : (_ : Bool) = false) => ?_) (fun (e : (_ : Bool) = true) => ?_)) <;> (try simp only [reduceCtorEq, ints_len, bools_len, Bool.not_false, Bool.not_true, List.length_map, decide_eq_true_eq, decide_eq_false_iff_not, Bool.not_eq_true', Bool.not_eq_false', Bool.and_eq_true, Bool.or_eq_true, Bool.and_eq_false_iff, Bool.or_eq_false_iff, beq_iff_eq, bne_iff_ne, beq_eq_false_iff_ne, bne_eq_false_iff_eq, Int.not_lt, Int.not_le, ge_iff_le, gt_iff_lt, not_or, not_and, Bool.cond_true_right, Bool.cond_true_left, Bool.cond_false_right, Bool.cond_false_left, bif_t, bif_f] at e) <;> (conv => whnf)) | (refine And.intro ?_ ?_; ((first | (with_reducible assumption) | (intro _; with_reducible assumption) | omega | (simp only [reduceCtorEq, ints_len, bools_len, Bool.not_false, Bool.not_true, List.length_map, decide_eq_true_eq, decide_eq_false_iff_not, Bool.not_eq_true', Bool.not_eq_false', Bool.and_eq_true, Bool.or_eq_true, Bool.and_eq_false_iff, Bool.or_eq_false_iff, beq_iff_eq, bne_iff_ne, beq_eq_false_iff_ne, bne_eq_false_iff_eq, Int.not_lt, Int.not_le, ge_iff_le, gt_iff_lt, not_or, not_and, Bool.cond_true_right, Bool.cond_true_left, Bool.cond_false_right, Bool.cond_false_left, bif_t, bif_f] at *; omega) | (intro hg; (try simp only [reduceCtorEq, ints_len, bools_len, Bool.not_false, Bool.not_true, List.length_map, decide_eq_true_eq, decide_eq_false_iff_not, Bool.not_eq_true', Bool.not_eq_false', Bool.and_eq_true, Bool.or_eq_true, Bool.and_eq_false_iff, Bool.or_eq_false_iff, beq_iff_eq, bne_iff_ne, beq_eq_false_iff_ne, bne_eq_false_iff_eq, Int.not_lt, Int.not_le, ge_iff_le, gt_iff_lt, not_or, not_and, Bool.cond_true_right, Bool.cond_true_left, Bool.cond_false_right, Bool.cond_false_left, bif_t, bif_f] at hg); first | (with_reducible assumption) | omega | (simp only [reduceCtorEq, ints_len, bools_len, Bool.not_false, Bool.not_true, List.length_map, decide_eq_true_eq, decide_eq_false_iff_not, Bool.not_eq_true', Bool.not_eq_false', Bool.and_eq_true, Bool.or_eq_true, Bool.and_eq_false_iff, Bool.or_eq_false_iff, beq_iff_eq, bne_iff_ne, beq_eq_false_iff_ne, bne_eq_false_iff_eq, Int.not_lt, Int.not_le, ge_iff_le, gt_iff_lt, not_or, not_and, Bool.cond_true_right, Bool.cond_true_left, Bool.cond_false_right, Bool.cond_false_left, bif_t, bif_f] at *; omega) | (refine ⟨?_, ?_⟩ <;> omega)) | (refine ⟨?_, ?_⟩ <;> omega) | (simp [*]; done) | grind)); (conv => whnf))))
  · have e1 := e
    have ho : splitOk ⟨ext, sets⟩ c = false := Bool.eq_false_iff.2 fun h => by
      obtain ⟨h1, h2, h3⟩ := hI.1 h
      rcases e1 with (e | e) | e
      · rw [h1] at e; cases e
      · omega
      · omega
    rw [ho]
    (refine ⟨[], ?_⟩; (conv => whnf); refine ⟨[], .nil, .nil, ?_⟩)
    exact .cons rfl (.cons rfl .nil)
  · have ho : splitOk ⟨ext, sets⟩ c = true := hI.2 ⟨e.1.1, e.1.2, e.2⟩
    obtain ⟨⟨h1, h2⟩, h3⟩ := e
    subst h1
    obtain ⟨a, rfl⟩ := Int.eq_ofNat_of_zero_le (a := c) (by omega)
    rw [ho]
    (refine ⟨[], false, false, ?_⟩; (conv => whnf); refine ⟨_, _, ⟨⟨ext, sets⟩, a, rfl, rfl, hm, hK, by omega, by simp only; omega, rfl, rfl⟩, ?_⟩; (conv => whnf))
    (refine ⟨[], ?_⟩; (conv => whnf); refine ⟨[], .nil, .nil, ?_⟩)
    exact .cons rfl (.cons rfl .nil)
def R55 : Ct := fun ss hp r out => ∃ k : Kern, ss = [.v (.ag (k.c.map .d))] ∧ hp = [] ∧ k.bulk ≤ 4194304 ∧ r = .tup [.c (.own 0), .c (.d (.int .i64 (splitErr k)))] ∧ out = [.row 2 ((splitOf k).map Kern.c)]
def R56 : Ct := R55
set_option maxHeartbeats 4000000 in
theorem ok55 : VSound Try.prog (55, R55) := by
  refine vsound (T := ty) (F := [(82, R82), (90, R90), (91, R91)]) (pl := [(9, [[], [], [1], [], [3], [], [3, 4, 5], [1, 2, 3, 4, 5, 6], [1, 2, 3, 4, 5, 6, 7], [1, 2, 3, 4, 5, 6, 7, 8], [0, 1, 2, 3, 4, 5, 6, 7, 8, 9], [0, 1, 2, 3, 4, 5, 6, 7, 8, 9, 10]], .look 0 (.look 1 (.look 2 (.look 3 (.look 4 (.look 5 (.look 6 (.look 7 (.act 8 [0] (.act 9 [0] (.act 10 [] (.look 11 .done) .stop) .stop) .stop)))))))))]) (nw := true) (cuts := []) mix tyOk (.cons (ok82) (.cons (ok90) (.cons (ok91) .nil))) Try.func55 (by kernel_rfl) (by kernel_rfl) ?_
  rintro _ _ _ _ ⟨⟨ext, sets⟩, rfl, rfl, hm, rfl, rfl⟩
  have hl := setsBulk_len sets
  have hm2 := hm
  simp only [Kern.bulk] at hm2
  conv => whnf
  (refine ⟨[], false, false, ?_⟩; (conv => whnf); refine ⟨_, _, ⟨⟨ext, sets⟩, rfl, rfl, hm, rfl, rfl⟩, ?_⟩; (conv => whnf))
  cases hK : isKern ⟨ext, sets⟩ with
  | false =>
    rw [splitOf, splitErr, hK]
    ((first | refine And.intro (fun _ => ?_) (fun h => absurd h (by decide)) | refine And.intro (fun h => absurd h (by decide)) (fun _ => ?_)); (conv => whnf))
    refine ⟨[.slot 2 true], ?_⟩
    conv => whnf
    exact ⟨[1], by simp, .cons ⟨_, rfl, rfl, rfl⟩ .nil, .cons rfl (.cons rfl .nil)⟩
  | true =>
    rw [splitOf, splitErr, if_pos hK, if_pos hK]
    ((first | refine And.intro (fun _ => ?_) (fun h => absurd h (by decide)) | refine And.intro (fun h => absurd h (by decide)) (fun _ => ?_)); (conv => whnf))
    (refine ⟨[], false, false, ?_⟩; (conv => whnf); refine ⟨_, _, ⟨⟨ext, sets⟩, rfl, rfl, hm, rfl, rfl⟩, ?_⟩; (conv => whnf))
    refine ⟨[.slot 4 true], [4, 5, 6], 3, fun n1 σ => ∃ (acc : List Kern) (R : List ASet) (a : Nat), n1 = 10 * R.length - a ∧ 1 ≤ a ∧ a ≤ R.length ∧ acc.length + R.length ≤ 8 ∧ setsBulk R ≤ setsBulk sets ∧ isKern ⟨ext, R⟩ = true ∧ acc ++ splitW ⟨ext, R⟩ a = splitW ⟨ext, sets⟩ 1 ∧ σ = (⟨[.junk, .junk, .junk, .junk, .one (.own 2), .one (.ptr 1 0), .di .i64 a, .junk, .junk, .junk, .junk, .junk, .junk, .junk, .junk, .junk, .junk, .junk, .junk, .junk, .junk, .junk, .junk, .junk, .junk, .junk, .junk, .junk, .junk, .junk, .junk, .junk, .junk, .junk, .junk, .junk, .junk, .junk, .junk, .junk, .junk, .junk, .junk], [.box ((Kern.mk ext sets).c.map .d), .box ((Kern.mk ext R).c.map .d), .row 2 (acc.map Kern.c)]⟩ : St), ?_, ?_⟩
    · have hk := (isKern_iff _).1 hK
      simp only at hk
      refine ⟨10 * sets.length - 1, ?_⟩
      conv => whnf
      exact ⟨[], sets, 1, rfl, by omega, by omega, by simp only [List.length_nil]; omega, by omega, hK, rfl, rfl⟩
    · rintro n1 _ ⟨acc, R, a, rfl, ha1, ha2, hsz, hbk, hRk, hW, rfl⟩
      have hlR := setsBulk_len R
      conv => whnf
      rw [map_len]
      ((with_reducible refine And.intro (fun (e : (_ : Bool) = true) => ?_) (fun (e : (_ : Bool) = false) => ?_)) <;> (try simp only [reduceCtorEq, ints_len, bools_len, Bool.not_false, Bool.not_true, List.length_map, decide_eq_true_eq, decide_eq_false_iff_not, Bool.not_eq_true', Bool.not_eq_false', Bool.and_eq_true, Bool.or_eq_true, Bool.and_eq_false_iff, Bool.or_eq_false_iff, beq_iff_eq, bne_iff_ne, beq_eq_false_iff_ne, bne_eq_false_iff_eq, Int.not_lt, Int.not_le, ge_iff_le, gt_iff_lt, not_or, not_and, Bool.cond_true_right, Bool.cond_true_left, Bool.cond_false_right, Bool.cond_false_left, bif_t, bif_f] at e) <;> (conv => whnf))
      · have ha3 : a < R.length := by omega
        (refine ⟨[], false, false, ?_⟩; (conv => whnf); refine ⟨_, _, ⟨⟨ext, R⟩, a, rfl, rfl, by simp only [Kern.bulk]; omega, hRk, ha1, by simp only; omega, rfl, rfl⟩, ?_⟩; (conv => whnf))
        cases hc : cutsB ⟨ext, R⟩ a with
        | false =>
          ((first | refine And.intro (fun _ => ?_) (fun h => absurd h (by decide)) | refine And.intro (fun h => absurd h (by decide)) (fun _ => ?_)); (conv => whnf))
          (refine And.intro ?_ ?_; ((first | (with_reducible assumption) | (intro _; with_reducible assumption) | omega | (simp only [reduceCtorEq, ints_len, bools_len, Bool.not_false, Bool.not_true, List.length_map, decide_eq_true_eq, decide_eq_false_iff_not, Bool.not_eq_true', Bool.not_eq_false', Bool.and_eq_true, Bool.or_eq_true, Bool.and_eq_false_iff, Bool.or_eq_false_iff, beq_iff_eq, bne_iff_ne, beq_eq_false_iff_ne, bne_eq_false_iff_eq, Int.not_lt, Int.not_le, ge_iff_le, gt_iff_lt, not_or, not_and, Bool.cond_true_right, Bool.cond_true_left, Bool.cond_false_right, Bool.cond_false_left, bif_t, bif_f] at *; omega) | (intro hg; (try simp only [reduceCtorEq, ints_len, bools_len, Bool.not_false, Bool.not_true, List.length_map, decide_eq_true_eq, decide_eq_false_iff_not, Bool.not_eq_true', Bool.not_eq_false', Bool.and_eq_true, Bool.or_eq_true, Bool.and_eq_false_iff, Bool.or_eq_false_iff, beq_iff_eq, bne_iff_ne, beq_eq_false_iff_ne, bne_eq_false_iff_eq, Int.not_lt, Int.not_le, ge_iff_le, gt_iff_lt, not_or, not_and, Bool.cond_true_right, Bool.cond_true_left, Bool.cond_false_right, Bool.cond_false_left, bif_t, bif_f] at hg); first | (with_reducible assumption) | omega | (simp only [reduceCtorEq, ints_len, bools_len, Bool.not_false, Bool.not_true, List.length_map, decide_eq_true_eq, decide_eq_false_iff_not, Bool.not_eq_true', Bool.not_eq_false', Bool.and_eq_true, Bool.or_eq_true, Bool.and_eq_false_iff, Bool.or_eq_false_iff, beq_iff_eq, bne_iff_ne, beq_eq_false_iff_ne, bne_eq_false_iff_eq, Int.not_lt, Int.not_le, ge_iff_le, gt_iff_lt, not_or, not_and, Bool.cond_true_right, Bool.cond_true_left, Bool.cond_false_right, Bool.cond_false_left, bif_t, bif_f] at *; omega) | (refine ⟨?_, ?_⟩ <;> omega)) | (refine ⟨?_, ?_⟩ <;> omega) | (simp [*]; done) | grind)); (conv => whnf))
          refine ⟨10 * R.length - (a + 1), by omega, [], ?_⟩
          conv => whnf
          exact ⟨acc, R, a + 1, rfl, by omega, by omega, hsz, hbk, hRk, by rw [← splitW_on ha1 (by simp only; omega) hc]; exact hW, rfl⟩
        | true =>
          ((first | refine And.intro (fun _ => ?_) (fun h => absurd h (by decide)) | refine And.intro (fun h => absurd h (by decide)) (fun _ => ?_)); (conv => whnf))
          have e1 : ((R.map ASet.c).take (a : Int).toNat).drop (0 : Int).toNat = (R.take a).map ASet.c := by rw [Int.toNat_natCast, Int.toNat_zero, List.drop_zero, List.map_take]
          have e2 : ((R.map ASet.c).take (((R.map ASet.c).length : Nat) : Int).toNat).drop (a : Int).toNat = (R.drop a).map ASet.c := by rw [Int.toNat_natCast, Int.toNat_natCast, List.take_length, List.map_drop]
          have hbt := setsBulk_take R a
          obtain ⟨kh, kt⟩ := part_kern hRk ha1 (by simp only; omega)
          refine ⟨by rw [map_len]; simp only; omega, ?_⟩
          conv => whnf
          simp only
          rw [e1]
          (refine ⟨[], false, false, ?_⟩; (conv => whnf); refine ⟨_, _, ⟨⟨ext, R.take a⟩, rfl, rfl, by simp only [Kern.bulk]; omega, rfl, rfl⟩, ?_⟩; (conv => whnf))
          refine ⟨by rw [map_len]; simp only [List.length_cons, List.length_nil]; omega, ?_⟩
          conv => whnf
          refine ⟨by rw [map_len]; simp only; omega, ?_⟩
          conv => whnf
          simp only
          rw [e2]
          refine ⟨10 * (R.drop a).length - 1, by rw [List.length_drop]; omega, [], ?_⟩
          conv => whnf
          refine ⟨acc ++ [headK ⟨ext, R⟩ a], R.drop a, 1, rfl, by omega, by rw [List.length_drop]; omega, by rw [List.length_append, List.length_drop, List.length_singleton]; omega, by omega, kt, ?_, ?_⟩
          · rw [← hW, splitW_cut ha1 (by simp only; omega) hc, List.append_assoc]; rfl
          · rw [List.map_append]; rfl
      · have ha3 : a = R.length := by omega
        rw [← hW, splitW_end (by simp only; omega)]
        refine ⟨by rw [map_len]; simp only [List.length_cons, List.length_nil]; omega, ?_⟩
        conv => whnf
        refine ⟨[], ?_⟩
        conv => whnf
        refine ⟨[2], by simp, .cons ⟨_, rfl, rfl, ?_⟩ .nil, .cons rfl (.cons rfl .nil)⟩
        rw [List.map_append]; rfl
set_option maxHeartbeats 4000000 in
theorem ok56 : VSound Try.prog (56, R56) := by
  refine vsound (T := ty) (F := [(61, R61), (92, R92), (93, R93)]) (pl := [(9, [[], [], [1], [0, 1, 2], [], [0, 1, 2, 3], [0, 1, 2, 3, 4, 5], [0, 1, 2, 3, 4, 5, 6]], .look 0 (.look 1 (.look 4 (.act 2 [0, 4] (.act 3 [4] (.look 5 (.act 6 [] (.look 7 .done) .stop)) .stop) .stop))))]) (nw := true) (cuts := []) mix tyOk (.cons (ok61) (.cons (ok92) (.cons (ok93) .nil))) Try.func56 (by kernel_rfl) (by kernel_rfl) ?_
  rintro _ _ _ _ ⟨⟨ext, sets⟩, rfl, rfl, hm, rfl, rfl⟩
  have hl := setsBulk_len sets
  have hm2 := hm
  simp only [Kern.bulk] at hm2
  conv => whnf
  (refine ⟨[], false, false, ?_⟩; (conv => whnf); refine ⟨_, _, ⟨⟨ext, sets⟩, rfl, rfl, hm, rfl, rfl⟩, ?_⟩; (conv => whnf))
  cases hK : isKern ⟨ext, sets⟩ with
  | false =>
    rw [splitOf, splitErr, hK]
    ((first | refine And.intro (fun _ => ?_) (fun h => absurd h (by decide)) | refine And.intro (fun h => absurd h (by decide)) (fun _ => ?_)); (conv => whnf))
    refine ⟨[.slot 2 true], ?_⟩
    conv => whnf
    exact ⟨[1], by simp, .cons ⟨_, rfl, rfl, rfl⟩ .nil, .cons rfl (.cons rfl .nil)⟩
  | true =>
    rw [splitOf, splitErr, if_pos hK, if_pos hK]
    ((first | refine And.intro (fun _ => ?_) (fun h => absurd h (by decide)) | refine And.intro (fun h => absurd h (by decide)) (fun _ => ?_)); (conv => whnf))
    refine ⟨[.slot 4 true], [1, 4, 5], 2, fun n1 σ => ∃ (acc : List Kern) (R : List ASet) (a : Nat), n1 = 10 * R.length - a ∧ 1 ≤ a ∧ a ≤ R.length ∧ acc.length + R.length ≤ 8 ∧ setsBulk R ≤ setsBulk sets ∧ isKern ⟨ext, R⟩ = true ∧ acc ++ splitW ⟨ext, R⟩ a = splitW ⟨ext, sets⟩ 1 ∧ σ = (⟨[.junk, .one (.ptr 0 0), .junk, .junk, .one (.own 1), .di .i64 a, .junk, .junk, .junk, .junk, .junk, .junk, .junk, .junk, .junk, .junk, .junk, .junk, .junk, .junk, .junk, .junk, .junk, .junk, .junk, .junk, .junk, .junk, .junk, .junk, .junk, .junk, .junk, .junk, .junk, .junk, .junk], [.box ((Kern.mk ext R).c.map .d), .row 2 (acc.map Kern.c)]⟩ : St), ?_, ?_⟩
    · have hk := (isKern_iff _).1 hK
      simp only at hk
      refine ⟨10 * sets.length - 1, ?_⟩
      conv => whnf
      exact ⟨[], sets, 1, rfl, by omega, by omega, by simp only [List.length_nil]; omega, by omega, hK, rfl, rfl⟩
    · rintro n1 _ ⟨acc, R, a, rfl, ha1, ha2, hsz, hbk, hRk, hW, rfl⟩
      have hlR := setsBulk_len R
      conv => whnf
      rw [map_len]
      ((with_reducible refine And.intro (fun (e : (_ : Bool) = true) => ?_) (fun (e : (_ : Bool) = false) => ?_)) <;> (try simp only [reduceCtorEq, ints_len, bools_len, Bool.not_false, Bool.not_true, List.length_map, decide_eq_true_eq, decide_eq_false_iff_not, Bool.not_eq_true', Bool.not_eq_false', Bool.and_eq_true, Bool.or_eq_true, Bool.and_eq_false_iff, Bool.or_eq_false_iff, beq_iff_eq, bne_iff_ne, beq_eq_false_iff_ne, bne_eq_false_iff_eq, Int.not_lt, Int.not_le, ge_iff_le, gt_iff_lt, not_or, not_and, Bool.cond_true_right, Bool.cond_true_left, Bool.cond_false_right, Bool.cond_false_left, bif_t, bif_f] at e) <;> (conv => whnf))
      · have ha3 : a < R.length := by omega
        (refine ⟨[], false, false, ?_⟩; (conv => whnf); refine ⟨_, _, ⟨⟨ext, R⟩, a, rfl, rfl, by simp only [Kern.bulk]; omega, hRk, ha1, by simp only; omega, rfl, rfl⟩, ?_⟩; (conv => whnf))
        cases hc : cutsB ⟨ext, R⟩ a with
        | false =>
          ((first | refine And.intro (fun _ => ?_) (fun h => absurd h (by decide)) | refine And.intro (fun h => absurd h (by decide)) (fun _ => ?_)); (conv => whnf))
          (refine And.intro ?_ ?_; ((first | (with_reducible assumption) | (intro _; with_reducible assumption) | omega | (simp only [reduceCtorEq, ints_len, bools_len, Bool.not_false, Bool.not_true, List.length_map, decide_eq_true_eq, decide_eq_false_iff_not, Bool.not_eq_true', Bool.not_eq_false', Bool.and_eq_true, Bool.or_eq_true, Bool.and_eq_false_iff, Bool.or_eq_false_iff, beq_iff_eq, bne_iff_ne, beq_eq_false_iff_ne, bne_eq_false_iff_eq, Int.not_lt, Int.not_le, ge_iff_le, gt_iff_lt, not_or, not_and, Bool.cond_true_right, Bool.cond_true_left, Bool.cond_false_right, Bool.cond_false_left, bif_t, bif_f] at *; omega) | (intro hg; (try simp only [reduceCtorEq, ints_len, bools_len, Bool.not_false, Bool.not_true, List.length_map, decide_eq_true_eq, decide_eq_false_iff_not, Bool.not_eq_true', Bool.not_eq_false', Bool.and_eq_true, Bool.or_eq_true, Bool.and_eq_false_iff, Bool.or_eq_false_iff, beq_iff_eq, bne_iff_ne, beq_eq_false_iff_ne, bne_eq_false_iff_eq, Int.not_lt, Int.not_le, ge_iff_le, gt_iff_lt, not_or, not_and, Bool.cond_true_right, Bool.cond_true_left, Bool.cond_false_right, Bool.cond_false_left, bif_t, bif_f] at hg); first | (with_reducible assumption) | omega | (simp only [reduceCtorEq, ints_len, bools_len, Bool.not_false, Bool.not_true, List.length_map, decide_eq_true_eq, decide_eq_false_iff_not, Bool.not_eq_true', Bool.not_eq_false', Bool.and_eq_true, Bool.or_eq_true, Bool.and_eq_false_iff, Bool.or_eq_false_iff, beq_iff_eq, bne_iff_ne, beq_eq_false_iff_ne, bne_eq_false_iff_eq, Int.not_lt, Int.not_le, ge_iff_le, gt_iff_lt, not_or, not_and, Bool.cond_true_right, Bool.cond_true_left, Bool.cond_false_right, Bool.cond_false_left, bif_t, bif_f] at *; omega) | (refine ⟨?_, ?_⟩ <;> omega)) | (refine ⟨?_, ?_⟩ <;> omega) | (simp [*]; done) | grind)); (conv => whnf))
          refine ⟨10 * R.length - (a + 1), by omega, [], ?_⟩
          conv => whnf
          exact ⟨acc, R, a + 1, rfl, by omega, by omega, hsz, hbk, hRk, by rw [← splitW_on ha1 (by simp only; omega) hc]; exact hW, rfl⟩
        | true =>
          ((first | refine And.intro (fun _ => ?_) (fun h => absurd h (by decide)) | refine And.intro (fun h => absurd h (by decide)) (fun _ => ?_)); (conv => whnf))
          have hbt := setsBulk_take R a
          obtain ⟨kh, kt⟩ := part_kern hRk ha1 (by simp only; omega)
          (refine ⟨[], false, false, ?_⟩; (conv => whnf); refine ⟨_, _, ⟨⟨ext, R⟩, a, rfl, rfl, by simp only; omega, by simp only; omega, rfl, rfl⟩, ?_⟩; (conv => whnf))
          refine ⟨by rw [map_len]; simp only [List.length_cons, List.length_nil]; omega, ?_⟩
          conv => whnf
          refine ⟨10 * (R.drop a).length - 1, by rw [List.length_drop]; omega, [], ?_⟩
          conv => whnf
          refine ⟨acc ++ [headK ⟨ext, R⟩ a], R.drop a, 1, rfl, by omega, by rw [List.length_drop]; omega, by rw [List.length_append, List.length_drop, List.length_singleton]; omega, by omega, kt, ?_, ?_⟩
          · rw [← hW, splitW_cut ha1 (by simp only; omega) hc, List.append_assoc]; rfl
          · rw [List.map_append]; rfl
      · have ha3 : a = R.length := by omega
        rw [← hW, splitW_end (by simp only; omega)]
        refine ⟨by rw [map_len]; simp only [List.length_cons, List.length_nil]; omega, ?_⟩
        conv => whnf
        refine ⟨[], ?_⟩
        conv => whnf
        refine ⟨[1], by simp, .cons ⟨_, rfl, rfl, ?_⟩ .nil, .cons rfl (.cons rfl .nil)⟩
        rw [List.map_append]; rfl
end Go.Proofs.Ytahdihhhankhdaa.V
-- Vsr
namespace Go.Proofs.Ytahdihhhankhdaa.V
open Go.Proofs.YtahdihhhankhdaaVY Go.RowKit
def R69 : Ct := fun ss hp r out => ∃ x : Ref, ss = [.v (.ag (x.c.map .d)), .v (.ag (x.c.map .d))] ∧ hp = [] ∧ x.str.length < 4611686018427387904 ∧ r = .db true ∧ out = []
set_option maxHeartbeats 4000000 in
theorem ok69 : VSound Try.prog (69, R69) := by
  refine vsound (T := ty) (F := [(22, R22)]) (pl := []) (nw := true) (cuts := []) mix tyOk (.cons (ok22) .nil) Try.func69 (by kernel_rfl) (by kernel_rfl) ?_
  rintro _ _ _ _ ⟨⟨xa, xb, xs⟩, rfl, rfl, hx, rfl, rfl⟩
  conv => whnf
  (repeat' (first | ((with_reducible refine And.intro (fun (e : (_ : Bool) = true) => ?_) (fun (e : (_ : Bool) = false) => ?_)) <;> (try simp only [reduceCtorEq, ints_len, bools_len, Bool.not_false, Bool.not_true, List.length_map, decide_eq_true_eq, decide_eq_false_iff_not, Bool.not_eq_true', Bool.not_eq_false', Bool.and_eq_true, Bool.or_eq_true, Bool.and_eq_false_iff, Bool.or_eq_false_iff, beq_iff_eq, bne_iff_ne, beq_eq_false_iff_ne, bne_eq_false_iff_eq, Int.not_lt, Int.not_le, ge_iff_le, gt_iff_lt, not_or, not_and, Bool.cond_true_right, Bool.cond_true_left, Bool.cond_false_right, Bool.cond_false_left, bif_t, bif_f] at e) <;> (conv => whnf)) | ((with_reducible refine And.intro (fun (e : (_ : Bool) = false) => ?_) (fun (e : (_ : Bool) = true) => ?_)) <;> (try simp only [reduceCtorEq, ints_len, bools_len, Bool.not_false, Bool.not_true, List.length_map, decide_eq_true_eq, decide_eq_false_iff_not, Bool.not_eq_true', Bool.not_eq_false', Bool.and_eq_true, Bool.or_eq_true, Bool.and_eq_false_iff, Bool.or_eq_false_iff, beq_iff_eq, bne_iff_ne, beq_eq_false_iff_ne, bne_eq_false_iff_eq, Int.not_lt, Int.not_le, ge_iff_le, gt_iff_lt, not_or, not_and, Bool.cond_true_right, Bool.cond_true_left, Bool.cond_false_right, Bool.cond_false_left, bif_t, bif_f] at e) <;> (conv => whnf)) | (refine And.intro ?_ ?_; ((first | (with_reducible assumption) | (intro _; with_reducible assumption) | omega | (simp only [reduceCtorEq, ints_len, bools_len, Bool.not_false, Bool.not_true, List.length_map, decide_eq_true_eq, decide_eq_false_iff_not, Bool.not_eq_true', Bool.not_eq_false', Bool.and_eq_true, Bool.or_eq_true, Bool.and_eq_false_iff, Bool.or_eq_false_iff, beq_iff_eq, bne_iff_ne, beq_eq_false_iff_ne, bne_eq_false_iff_eq, Int.not_lt, Int.not_le, ge_iff_le, gt_iff_lt, not_or, not_and, Bool.cond_true_right, Bool.cond_true_left, Bool.cond_false_right, Bool.cond_false_left, bif_t, bif_f] at *; omega) | (intro hg; (try simp only [reduceCtorEq, ints_len, bools_len, Bool.not_false, Bool.not_true, List.length_map, decide_eq_true_eq, decide_eq_false_iff_not, Bool.not_eq_true', Bool.not_eq_false', Bool.and_eq_true, Bool.or_eq_true, Bool.and_eq_false_iff, Bool.or_eq_false_iff, beq_iff_eq, bne_iff_ne, beq_eq_false_iff_ne, bne_eq_false_iff_eq, Int.not_lt, Int.not_le, ge_iff_le, gt_iff_lt, not_or, not_and, Bool.cond_true_right, Bool.cond_true_left, Bool.cond_false_right, Bool.cond_false_left, bif_t, bif_f] at hg); first | (with_reducible assumption) | omega | (simp only [reduceCtorEq, ints_len, bools_len, Bool.not_false, Bool.not_true, List.length_map, decide_eq_true_eq, decide_eq_false_iff_not, Bool.not_eq_true', Bool.not_eq_false', Bool.and_eq_true, Bool.or_eq_true, Bool.and_eq_false_iff, Bool.or_eq_false_iff, beq_iff_eq, bne_iff_ne, beq_eq_false_iff_ne, bne_eq_false_iff_eq, Int.not_lt, Int.not_le, ge_iff_le, gt_iff_lt, not_or, not_and, Bool.cond_true_right, Bool.cond_true_left, Bool.cond_false_right, Bool.cond_false_left, bif_t, bif_f] at *; omega) | (refine ⟨?_, ?_⟩ <;> omega)) | (refine ⟨?_, ?_⟩ <;> omega) | (simp [*]; done) | grind)); (conv => whnf))))
  · (refine ⟨[], false, false, ?_⟩; (conv => whnf); refine ⟨_, _, ⟨xs, xs, rfl, rfl, hx, rfl, rfl⟩, ?_⟩; (conv => whnf))
    (repeat' (first | ((with_reducible refine And.intro (fun (e : (_ : Bool) = true) => ?_) (fun (e : (_ : Bool) = false) => ?_)) <;> (try simp only [reduceCtorEq, ints_len, bools_len, Bool.not_false, Bool.not_true, List.length_map, decide_eq_true_eq, decide_eq_false_iff_not, Bool.not_eq_true', Bool.not_eq_false', Bool.and_eq_true, Bool.or_eq_true, Bool.and_eq_false_iff, Bool.or_eq_false_iff, beq_iff_eq, bne_iff_ne, beq_eq_false_iff_ne, bne_eq_false_iff_eq, Int.not_lt, Int.not_le, ge_iff_le, gt_iff_lt, not_or, not_and, Bool.cond_true_right, Bool.cond_true_left, Bool.cond_false_right, Bool.cond_false_left, bif_t, bif_f] at e) <;> (conv => whnf)) | ((with_reducible refine And.intro (fun (e : (_ : Bool) = false) => ?_) (fun (e : (_ : Bool) = true) => ?_)) <;> (try simp only [reduceCtorEq, ints_len, bools_len, Bool.not_false, Bool.not_true, List.length_map, decide_eq_true_eq, decide_eq_false_iff_not, Bool.not_eq_true', Bool.not_eq_false', Bool.and_eq_true, Bool.or_eq_true, Bool.and_eq_false_iff, Bool.or_eq_false_iff, beq_iff_eq, bne_iff_ne, beq_eq_false_iff_ne, bne_eq_false_iff_eq, Int.not_lt, Int.not_le, ge_iff_le, gt_iff_lt, not_or, not_and, Bool.cond_true_right, Bool.cond_true_left, Bool.cond_false_right, Bool.cond_false_left, bif_t, bif_f] at e) <;> (conv => whnf)) | (refine And.intro ?_ ?_; ((first | (with_reducible assumption) | (intro _; with_reducible assumption) | omega | (simp only [reduceCtorEq, ints_len, bools_len, Bool.not_false, Bool.not_true, List.length_map, decide_eq_true_eq, decide_eq_false_iff_not, Bool.not_eq_true', Bool.not_eq_false', Bool.and_eq_true, Bool.or_eq_true, Bool.and_eq_false_iff, Bool.or_eq_false_iff, beq_iff_eq, bne_iff_ne, beq_eq_false_iff_ne, bne_eq_false_iff_eq, Int.not_lt, Int.not_le, ge_iff_le, gt_iff_lt, not_or, not_and, Bool.cond_true_right, Bool.cond_true_left, Bool.cond_false_right, Bool.cond_false_left, bif_t, bif_f] at *; omega) | (intro hg; (try simp only [reduceCtorEq, ints_len, bools_len, Bool.not_false, Bool.not_true, List.length_map, decide_eq_true_eq, decide_eq_false_iff_not, Bool.not_eq_true', Bool.not_eq_false', Bool.and_eq_true, Bool.or_eq_true, Bool.and_eq_false_iff, Bool.or_eq_false_iff, beq_iff_eq, bne_iff_ne, beq_eq_false_iff_ne, bne_eq_false_iff_eq, Int.not_lt, Int.not_le, ge_iff_le, gt_iff_lt, not_or, not_and, Bool.cond_true_right, Bool.cond_true_left, Bool.cond_false_right, Bool.cond_false_left, bif_t, bif_f] at hg); first | (with_reducible assumption) | omega | (simp only [reduceCtorEq, ints_len, bools_len, Bool.not_false, Bool.not_true, List.length_map, decide_eq_true_eq, decide_eq_false_iff_not, Bool.not_eq_true', Bool.not_eq_false', Bool.and_eq_true, Bool.or_eq_true, Bool.and_eq_false_iff, Bool.or_eq_false_iff, beq_iff_eq, bne_iff_ne, beq_eq_false_iff_ne, bne_eq_false_iff_eq, Int.not_lt, Int.not_le, ge_iff_le, gt_iff_lt, not_or, not_and, Bool.cond_true_right, Bool.cond_true_left, Bool.cond_false_right, Bool.cond_false_left, bif_t, bif_f] at *; omega) | (refine ⟨?_, ?_⟩ <;> omega)) | (refine ⟨?_, ?_⟩ <;> omega) | (simp [*]; done) | grind)); (conv => whnf))))
    (refine ⟨[], ?_⟩; (conv => whnf); refine ⟨[], .nil, .nil, ?_⟩; (conv => whnf))
    congr 1
    simp
  all_goals (exfalso; simp at e)
end Go.Proofs.Ytahdihhhankhdaa.V
-- Vff
namespace Go.Proofs.Ytahdihhhankhdaa.V
open Go.Proofs.YtahdihhhankhdaaVY Go.RowKit
def R87 (m : Nat) : Ct := fun ss hp r out => ∃ t : Tree, ss = [.v (.ag (t.c.map .d)), .v (.ag (t.c.map .d))] ∧ hp = [] ∧ t.bulk < m ∧ m ≤ 4194305 ∧ r = .db true ∧ out = []
theorem ok87_0 : VSound Try.prog (87, R87 0) := by
  refine .inl ⟨?_, enterB_ok (by kernel_rfl)⟩
  unfold Ok
  intros
  rename_i hR
  obtain ⟨t, _, _, h, _⟩ := hR
  omega
set_option maxHeartbeats 4000000 in
theorem ok87_s (m : Nat) (ih : VSound Try.prog (87, R87 m)) : VSound Try.prog (87, R87 (m + 1)) := by
  refine vsound (T := ty) (F := [(69, R69), (87, R87 m)]) (pl := [(6, [[], [0], [], [0, 1, 2], [0, 1, 2, 3], [], [5], [], [5, 6, 7], [5, 6, 7, 8], [0, 1, 2, 3, 4, 5, 6, 7, 8, 9], [0, 1, 2, 3, 4, 5, 6, 7, 8, 9, 10]], .look 0 (.look 1 (.look 2 (.look 3 (.look 4 (.look 5 (.look 6 (.look 7 (.look 8 (.look 9 (.act 10 [] (.look 11 .done) .stop)))))))))))]) (nw := true) (cuts := []) mix tyOk (.cons (ok69) (.cons (ih) .nil)) Try.func87 (by kernel_rfl) (by kernel_rfl) ?_
  rintro _ _ _ _ ⟨⟨op, kind, n, ⟨ra, rb, rs⟩, kids⟩, rfl, rfl, hm, hm2, rfl, rfl⟩
  rw [Tree.bulk] at hm
  simp only at hm
  have hkl := treesBulk_len kids
  conv => whnf
  (repeat' (first | ((with_reducible refine And.intro (fun (e : (_ : Bool) = true) => ?_) (fun (e : (_ : Bool) = false) => ?_)) <;> (try simp only [reduceCtorEq, ints_len, bools_len, Bool.not_false, Bool.not_true, List.length_map, decide_eq_true_eq, decide_eq_false_iff_not, Bool.not_eq_true', Bool.not_eq_false', Bool.and_eq_true, Bool.or_eq_true, Bool.and_eq_false_iff, Bool.or_eq_false_iff, beq_iff_eq, bne_iff_ne, beq_eq_false_iff_ne, bne_eq_false_iff_eq, Int.not_lt, Int.not_le, ge_iff_le, gt_iff_lt, not_or, not_and, Bool.cond_true_right, Bool.cond_true_left, Bool.cond_false_right, Bool.cond_false_left, bif_t, bif_f] at e) <;> (conv => whnf)) | ((with_reducible refine And.intro (fun (e : (_ : Bool) = false) => ?_) (fun (e : (_ : Bool) = true) => ?_)) <;> (try simp only [reduceCtorEq, ints_len, bools_len, Bool.not_false, Bool.not_true, List.length_map, decide_eq_true_eq, decide_eq_false_iff_not, Bool.not_eq_true', Bool.not_eq_false', Bool.and_eq_true, Bool.or_eq_true, Bool.and_eq_false_iff, Bool.or_eq_false_iff, beq_iff_eq, bne_iff_ne, beq_eq_false_iff_ne, bne_eq_false_iff_eq, Int.not_lt, Int.not_le, ge_iff_le, gt_iff_lt, not_or, not_and, Bool.cond_true_right, Bool.cond_true_left, Bool.cond_false_right, Bool.cond_false_left, bif_t, bif_f] at e) <;> (conv => whnf)) | (refine And.intro ?_ ?_; ((first | (with_reducible assumption) | (intro _; with_reducible assumption) | omega | (simp only [reduceCtorEq, ints_len, bools_len, Bool.not_false, Bool.not_true, List.length_map, decide_eq_true_eq, decide_eq_false_iff_not, Bool.not_eq_true', Bool.not_eq_false', Bool.and_eq_true, Bool.or_eq_true, Bool.and_eq_false_iff, Bool.or_eq_false_iff, beq_iff_eq, bne_iff_ne, beq_eq_false_iff_ne, bne_eq_false_iff_eq, Int.not_lt, Int.not_le, ge_iff_le, gt_iff_lt, not_or, not_and, Bool.cond_true_right, Bool.cond_true_left, Bool.cond_false_right, Bool.cond_false_left, bif_t, bif_f] at *; omega) | (intro hg; (try simp only [reduceCtorEq, ints_len, bools_len, Bool.not_false, Bool.not_true, List.length_map, decide_eq_true_eq, decide_eq_false_iff_not, Bool.not_eq_true', Bool.not_eq_false', Bool.and_eq_true, Bool.or_eq_true, Bool.and_eq_false_iff, Bool.or_eq_false_iff, beq_iff_eq, bne_iff_ne, beq_eq_false_iff_ne, bne_eq_false_iff_eq, Int.not_lt, Int.not_le, ge_iff_le, gt_iff_lt, not_or, not_and, Bool.cond_true_right, Bool.cond_true_left, Bool.cond_false_right, Bool.cond_false_left, bif_t, bif_f] at hg); first | (with_reducible assumption) | omega | (simp only [reduceCtorEq, ints_len, bools_len, Bool.not_false, Bool.not_true, List.length_map, decide_eq_true_eq, decide_eq_false_iff_not, Bool.not_eq_true', Bool.not_eq_false', Bool.and_eq_true, Bool.or_eq_true, Bool.and_eq_false_iff, Bool.or_eq_false_iff, beq_iff_eq, bne_iff_ne, beq_eq_false_iff_ne, bne_eq_false_iff_eq, Int.not_lt, Int.not_le, ge_iff_le, gt_iff_lt, not_or, not_and, Bool.cond_true_right, Bool.cond_true_left, Bool.cond_false_right, Bool.cond_false_left, bif_t, bif_f] at *; omega) | (refine ⟨?_, ?_⟩ <;> omega)) | (refine ⟨?_, ?_⟩ <;> omega) | (simp [*]; done) | grind)); (conv => whnf))))
  all_goals try (exfalso; simp at e; done)
  all_goals try (exfalso; rename_i e9; simp at e9; done)
  (refine ⟨[], false, false, ?_⟩; (conv => whnf); refine ⟨_, _, ⟨⟨ra, rb, rs⟩, rfl, rfl, by simp only; omega, rfl, rfl⟩, ?_⟩; (conv => whnf))
  (repeat' (first | ((with_reducible refine And.intro (fun (e : (_ : Bool) = true) => ?_) (fun (e : (_ : Bool) = false) => ?_)) <;> (try simp only [reduceCtorEq, ints_len, bools_len, Bool.not_false, Bool.not_true, List.length_map, decide_eq_true_eq, decide_eq_false_iff_not, Bool.not_eq_true', Bool.not_eq_false', Bool.and_eq_true, Bool.or_eq_true, Bool.and_eq_false_iff, Bool.or_eq_false_iff, beq_iff_eq, bne_iff_ne, beq_eq_false_iff_ne, bne_eq_false_iff_eq, Int.not_lt, Int.not_le, ge_iff_le, gt_iff_lt, not_or, not_and, Bool.cond_true_right, Bool.cond_true_left, Bool.cond_false_right, Bool.cond_false_left, bif_t, bif_f] at e) <;> (conv => whnf)) | ((with_reducible refine And.intro (fun (e : (_ : Bool) = false) => ?_) (fun (e : (_ : Bool) = true) => ?_)) <;> (try simp only [reduceCtorEq, ints_len, bools_len, Bool.not_false, Bool.not_true, List.length_map, decide_eq_true_eq, decide_eq_false_iff_not, Bool.not_eq_true', Bool.not_eq_false', Bool.and_eq_true, Bool.or_eq_true, Bool.and_eq_false_iff, Bool.or_eq_false_iff, beq_iff_eq, bne_iff_ne, beq_eq_false_iff_ne, bne_eq_false_iff_eq, Int.not_lt, Int.not_le, ge_iff_le, gt_iff_lt, not_or, not_and, Bool.cond_true_right, Bool.cond_true_left, Bool.cond_false_right, Bool.cond_false_left, bif_t, bif_f] at e) <;> (conv => whnf)) | (refine And.intro ?_ ?_; ((first | (with_reducible assumption) | (intro _; with_reducible assumption) | omega | (simp only [reduceCtorEq, ints_len, bools_len, Bool.not_false, Bool.not_true, List.length_map, decide_eq_true_eq, decide_eq_false_iff_not, Bool.not_eq_true', Bool.not_eq_false', Bool.and_eq_true, Bool.or_eq_true, Bool.and_eq_false_iff, Bool.or_eq_false_iff, beq_iff_eq, bne_iff_ne, beq_eq_false_iff_ne, bne_eq_false_iff_eq, Int.not_lt, Int.not_le, ge_iff_le, gt_iff_lt, not_or, not_and, Bool.cond_true_right, Bool.cond_true_left, Bool.cond_false_right, Bool.cond_false_left, bif_t, bif_f] at *; omega) | (intro hg; (try simp only [reduceCtorEq, ints_len, bools_len, Bool.not_false, Bool.not_true, List.length_map, decide_eq_true_eq, decide_eq_false_iff_not, Bool.not_eq_true', Bool.not_eq_false', Bool.and_eq_true, Bool.or_eq_true, Bool.and_eq_false_iff, Bool.or_eq_false_iff, beq_iff_eq, bne_iff_ne, beq_eq_false_iff_ne, bne_eq_false_iff_eq, Int.not_lt, Int.not_le, ge_iff_le, gt_iff_lt, not_or, not_and, Bool.cond_true_right, Bool.cond_true_left, Bool.cond_false_right, Bool.cond_false_left, bif_t, bif_f] at hg); first | (with_reducible assumption) | omega | (simp only [reduceCtorEq, ints_len, bools_len, Bool.not_false, Bool.not_true, List.length_map, decide_eq_true_eq, decide_eq_false_iff_not, Bool.not_eq_true', Bool.not_eq_false', Bool.and_eq_true, Bool.or_eq_true, Bool.and_eq_false_iff, Bool.or_eq_false_iff, beq_iff_eq, bne_iff_ne, beq_eq_false_iff_ne, bne_eq_false_iff_eq, Int.not_lt, Int.not_le, ge_iff_le, gt_iff_lt, not_or, not_and, Bool.cond_true_right, Bool.cond_true_left, Bool.cond_false_right, Bool.cond_false_left, bif_t, bif_f] at *; omega) | (refine ⟨?_, ?_⟩ <;> omega)) | (refine ⟨?_, ?_⟩ <;> omega) | (simp [*]; done) | grind)); (conv => whnf))))
  all_goals try (exfalso; simp at e; done)
  all_goals try (exfalso; rename_i e9; simp at e9; done)
  clear e
  refine ⟨[], [2, 3, 5], 2, fun n1 σ => ∃ i : Nat, i ≤ kids.length ∧ n1 = kids.length - i ∧ σ = (⟨[.junk, .junk, .one (.ptr 0 0), .one (.ptr 1 0), .junk, .di .i64 i, .junk, .junk, .junk, .junk, .junk, .junk, .junk, .junk, .junk, .junk, .junk, .junk, .junk, .junk, .junk, .junk, .junk, .junk, .junk, .junk, .junk, .junk, .junk, .junk, .junk, .junk, .junk, .junk, .junk, .junk, .junk, .junk, .junk, .junk, .junk, .junk, .junk, .junk, .junk, .junk, .junk, .junk, .junk, .junk, .junk, .junk, .junk, .junk, .junk, .junk, .junk, .junk, .junk, .junk, .junk], [.box (List.map .d (Tree.mk op kind n ⟨ra, rb, rs⟩ kids).c), .box (List.map .d (Tree.mk op kind n ⟨ra, rb, rs⟩ kids).c)]⟩ : St), ?_, ?_⟩
  · refine ⟨kids.length, ?_⟩
    conv => whnf
    exact ⟨0, by omega, by omega, rfl⟩
  · rintro n1 _ ⟨i, hi, rfl, rfl⟩
    conv => whnf
    rw [show ((treesC kids).length : Int) = kids.length by rw [treesC_map, map_len]]
    ((with_reducible refine And.intro (fun (e : (_ : Bool) = true) => ?_) (fun (e : (_ : Bool) = false) => ?_)) <;> (try simp only [reduceCtorEq, ints_len, bools_len, Bool.not_false, Bool.not_true, List.length_map, decide_eq_true_eq, decide_eq_false_iff_not, Bool.not_eq_true', Bool.not_eq_false', Bool.and_eq_true, Bool.or_eq_true, Bool.and_eq_false_iff, Bool.or_eq_false_iff, beq_iff_eq, bne_iff_ne, beq_eq_false_iff_ne, bne_eq_false_iff_eq, Int.not_lt, Int.not_le, ge_iff_le, gt_iff_lt, not_or, not_and, Bool.cond_true_right, Bool.cond_true_left, Bool.cond_false_right, Bool.cond_false_left, bif_t, bif_f] at e) <;> (conv => whnf))
    · have hlt : i < kids.length := by omega
      obtain ⟨x, hget⟩ := get_lt hlt
      have hb := treesBulk_get hget
      (refine ⟨_, And.intro ⟨by omega, (trees_get hget)⟩ ?_⟩; (conv => whnf))
      obtain ⟨xop, xkind, xn, ⟨xa, xb, xs⟩, xkids⟩ := x
      conv => whnf
      (refine ⟨_, And.intro ⟨by omega, (trees_get hget)⟩ ?_⟩; (conv => whnf))
      (refine ⟨[], false, false, ?_⟩; (conv => whnf); refine ⟨_, _, ⟨.mk xop xkind xn ⟨xa, xb, xs⟩ xkids, rfl, rfl, by omega, by omega, rfl, rfl⟩, ?_⟩; (conv => whnf))
      ((first | refine And.intro (fun _ => ?_) (fun h => absurd h (by decide)) | refine And.intro (fun h => absurd h (by decide)) (fun _ => ?_)); (conv => whnf))
      (refine And.intro ?_ ?_; ((first | (with_reducible assumption) | (intro _; with_reducible assumption) | omega | (simp only [reduceCtorEq, ints_len, bools_len, Bool.not_false, Bool.not_true, List.length_map, decide_eq_true_eq, decide_eq_false_iff_not, Bool.not_eq_true', Bool.not_eq_false', Bool.and_eq_true, Bool.or_eq_true, Bool.and_eq_false_iff, Bool.or_eq_false_iff, beq_iff_eq, bne_iff_ne, beq_eq_false_iff_ne, bne_eq_false_iff_eq, Int.not_lt, Int.not_le, ge_iff_le, gt_iff_lt, not_or, not_and, Bool.cond_true_right, Bool.cond_true_left, Bool.cond_false_right, Bool.cond_false_left, bif_t, bif_f] at *; omega) | (intro hg; (try simp only [reduceCtorEq, ints_len, bools_len, Bool.not_false, Bool.not_true, List.length_map, decide_eq_true_eq, decide_eq_false_iff_not, Bool.not_eq_true', Bool.not_eq_false', Bool.and_eq_true, Bool.or_eq_true, Bool.and_eq_false_iff, Bool.or_eq_false_iff, beq_iff_eq, bne_iff_ne, beq_eq_false_iff_ne, bne_eq_false_iff_eq, Int.not_lt, Int.not_le, ge_iff_le, gt_iff_lt, not_or, not_and, Bool.cond_true_right, Bool.cond_true_left, Bool.cond_false_right, Bool.cond_false_left, bif_t, bif_f] at hg); first | (with_reducible assumption) | omega | (simp only [reduceCtorEq, ints_len, bools_len, Bool.not_false, Bool.not_true, List.length_map, decide_eq_true_eq, decide_eq_false_iff_not, Bool.not_eq_true', Bool.not_eq_false', Bool.and_eq_true, Bool.or_eq_true, Bool.and_eq_false_iff, Bool.or_eq_false_iff, beq_iff_eq, bne_iff_ne, beq_eq_false_iff_ne, bne_eq_false_iff_eq, Int.not_lt, Int.not_le, ge_iff_le, gt_iff_lt, not_or, not_and, Bool.cond_true_right, Bool.cond_true_left, Bool.cond_false_right, Bool.cond_false_left, bif_t, bif_f] at *; omega) | (refine ⟨?_, ?_⟩ <;> omega)) | (refine ⟨?_, ?_⟩ <;> omega) | (simp [*]; done) | grind)); (conv => whnf))
      refine ⟨kids.length - (i + 1), by omega, [], ?_⟩
      conv => whnf
      exact ⟨i + 1, by omega, rfl, rfl⟩
    · (refine ⟨[], ?_⟩; (conv => whnf); refine ⟨[], .nil, .nil, ?_⟩; (conv => whnf))
theorem ok87 : ∀ m : Nat, VSound Try.prog (87, R87 m)
  | 0 => ok87_0
  | m + 1 => ok87_s m (ok87 m)
def R49 : Ct := fun ss hp r out => ∃ k : Kern, ss = [.v (.ag (k.c.map .d)), .v (.ag (k.c.map .d))] ∧ hp = [] ∧ k.bulk ≤ 4194304 ∧ r = .db true ∧ out = []
set_option maxHeartbeats 4000000 in
theorem ok49 : VSound Try.prog (49, R49) := by
  refine vsound (T := ty) (F := [(22, R22), (69, R69), (87, R87 4194305)]) (pl := [(6, [[], [0], [], [0, 1, 2], [0, 1, 2, 3], [], [5], [], [5, 6, 7], [5, 6, 7, 8], [], [], [0, 1, 2, 3, 4, 10, 11], [0, 1, 2, 3, 4, 5, 6, 7, 8, 9, 10, 11, 12]], .look 0 (.look 1 (.look 2 (.look 3 (.look 4 (.look 5 (.look 6 (.look 7 (.look 8 (.look 9 (.act 10 [0, 1, 2, 3, 4, 5, 6, 7, 8, 9] (.act 11 [0, 1, 2, 3, 4, 5, 6, 7, 8, 9] (.act 12 [5, 6, 7, 8, 9] (.act 13 [] .done .stop) .stop) .stop) (.act 11 [0, 1, 2, 3, 4, 5, 6, 7, 8, 9] (.act 10 [0, 1, 2, 3, 4, 5, 6, 7, 8, 9] (.act 12 [5, 6, 7, 8, 9] (.act 13 [] .done .stop) .stop) .stop) .stop)))))))))))), (12, [[], [0], [], [0, 1, 2], [0, 1, 2, 3], [], [5], [], [5, 6, 7], [5, 6, 7, 8], [0, 1, 2, 3, 4, 5, 6, 7, 8, 9], [0, 1, 2, 3, 4, 5, 6, 7, 8, 9, 10]], .look 0 (.look 1 (.look 2 (.look 3 (.look 4 (.look 5 (.look 6 (.look 7 (.look 8 (.look 9 (.act 10 [] (.look 11 .done) .stop)))))))))))]) (nw := true) (cuts := []) mix tyOk (.cons (ok22) (.cons (ok69) (.cons (ok87 4194305) .nil))) Try.func49 (by kernel_rfl) (by kernel_rfl) ?_
  rintro _ _ _ _ ⟨⟨ext, sets⟩, rfl, rfl, hm, rfl, rfl⟩
  simp only [Kern.bulk] at hm
  have hkl := setsBulk_len sets
  conv => whnf
  (refine ⟨[], false, false, ?_⟩; (conv => whnf); refine ⟨_, _, ⟨ext, ext, rfl, rfl, by omega, rfl, rfl⟩, ?_⟩; (conv => whnf))
  (repeat' (first | ((with_reducible refine And.intro (fun (e : (_ : Bool) = true) => ?_) (fun (e : (_ : Bool) = false) => ?_)) <;> (try simp only [reduceCtorEq, ints_len, bools_len, Bool.not_false, Bool.not_true, List.length_map, decide_eq_true_eq, decide_eq_false_iff_not, Bool.not_eq_true', Bool.not_eq_false', Bool.and_eq_true, Bool.or_eq_true, Bool.and_eq_false_iff, Bool.or_eq_false_iff, beq_iff_eq, bne_iff_ne, beq_eq_false_iff_ne, bne_eq_false_iff_eq, Int.not_lt, Int.not_le, ge_iff_le, gt_iff_lt, not_or, not_and, Bool.cond_true_right, Bool.cond_true_left, Bool.cond_false_right, Bool.cond_false_left, bif_t, bif_f] at e) <;> (conv => whnf)) | ((with_reducible refine And.intro (fun (e : (_ : Bool) = false) => ?_) (fun (e : (_ : Bool) = true) => ?_)) <;> (try simp only [reduceCtorEq, ints_len, bools_len, Bool.not_false, Bool.not_true, List.length_map, decide_eq_true_eq, decide_eq_false_iff_not, Bool.not_eq_true', Bool.not_eq_false', Bool.and_eq_true, Bool.or_eq_true, Bool.and_eq_false_iff, Bool.or_eq_false_iff, beq_iff_eq, bne_iff_ne, beq_eq_false_iff_ne, bne_eq_false_iff_eq, Int.not_lt, Int.not_le, ge_iff_le, gt_iff_lt, not_or, not_and, Bool.cond_true_right, Bool.cond_true_left, Bool.cond_false_right, Bool.cond_false_left, bif_t, bif_f] at e) <;> (conv => whnf)) | (refine And.intro ?_ ?_; ((first | (with_reducible assumption) | (intro _; with_reducible assumption) | omega | (simp only [reduceCtorEq, ints_len, bools_len, Bool.not_false, Bool.not_true, List.length_map, decide_eq_true_eq, decide_eq_false_iff_not, Bool.not_eq_true', Bool.not_eq_false', Bool.and_eq_true, Bool.or_eq_true, Bool.and_eq_false_iff, Bool.or_eq_false_iff, beq_iff_eq, bne_iff_ne, beq_eq_false_iff_ne, bne_eq_false_iff_eq, Int.not_lt, Int.not_le, ge_iff_le, gt_iff_lt, not_or, not_and, Bool.cond_true_right, Bool.cond_true_left, Bool.cond_false_right, Bool.cond_false_left, bif_t, bif_f] at *; omega) | (intro hg; (try simp only [reduceCtorEq, ints_len, bools_len, Bool.not_false, Bool.not_true, List.length_map, decide_eq_true_eq, decide_eq_false_iff_not, Bool.not_eq_true', Bool.not_eq_false', Bool.and_eq_true, Bool.or_eq_true, Bool.and_eq_false_iff, Bool.or_eq_false_iff, beq_iff_eq, bne_iff_ne, beq_eq_false_iff_ne, bne_eq_false_iff_eq, Int.not_lt, Int.not_le, ge_iff_le, gt_iff_lt, not_or, not_and, Bool.cond_true_right, Bool.cond_true_left, Bool.cond_false_right, Bool.cond_false_left, bif_t, bif_f] at hg); first | (with_reducible assumption) | omega | (simp only [reduceCtorEq, ints_len, bools_len, Bool.not_false, Bool.not_true, List.length_map, decide_eq_true_eq, decide_eq_false_iff_not, Bool.not_eq_true', Bool.not_eq_false', Bool.and_eq_true, Bool.or_eq_true, Bool.and_eq_false_iff, Bool.or_eq_false_iff, beq_iff_eq, bne_iff_ne, beq_eq_false_iff_ne, bne_eq_false_iff_eq, Int.not_lt, Int.not_le, ge_iff_le, gt_iff_lt, not_or, not_and, Bool.cond_true_right, Bool.cond_true_left, Bool.cond_false_right, Bool.cond_false_left, bif_t, bif_f] at *; omega) | (refine ⟨?_, ?_⟩ <;> omega)) | (refine ⟨?_, ?_⟩ <;> omega) | (simp [*]; done) | grind)); (conv => whnf))))
  all_goals try (exfalso; simp at e; done)
  all_goals try (exfalso; rename_i e9; simp at e9; done)
  clear e
  refine ⟨[], [2, 3, 5], 2, fun n1 σ => ∃ i : Nat, i ≤ sets.length ∧ n1 = sets.length - i ∧ σ = (⟨[.junk, .junk, .one (.ptr 0 0), .one (.ptr 1 0), .junk, .di .i64 i, .junk, .junk, .junk, .junk, .junk, .junk, .junk, .junk, .junk, .junk, .junk, .junk, .junk, .junk, .junk, .junk, .junk, .junk, .junk, .junk, .junk, .junk, .junk, .junk, .junk, .junk, .junk, .junk, .junk, .junk, .junk, .junk, .junk, .junk, .junk, .junk, .junk, .junk, .junk, .junk, .junk, .junk, .junk, .junk, .junk, .junk, .junk, .junk, .junk, .junk, .junk, .junk, .junk, .junk, .junk, .junk, .junk, .junk, .junk, .junk, .junk, .junk, .junk, .junk, .junk, .junk, .junk, .junk, .junk, .junk, .junk, .junk, .junk, .junk, .junk, .junk, .junk], [.box (List.map .d (Kern.mk ext sets).c), .box (List.map .d (Kern.mk ext sets).c)]⟩ : St), ?_, ?_⟩
  · refine ⟨sets.length, ?_⟩
    conv => whnf
    exact ⟨0, by omega, by omega, rfl⟩
  · rintro n1 _ ⟨i, hi, rfl, rfl⟩
    conv => whnf
    rw [map_len]
    ((with_reducible refine And.intro (fun (e : (_ : Bool) = true) => ?_) (fun (e : (_ : Bool) = false) => ?_)) <;> (try simp only [reduceCtorEq, ints_len, bools_len, Bool.not_false, Bool.not_true, List.length_map, decide_eq_true_eq, decide_eq_false_iff_not, Bool.not_eq_true', Bool.not_eq_false', Bool.and_eq_true, Bool.or_eq_true, Bool.and_eq_false_iff, Bool.or_eq_false_iff, beq_iff_eq, bne_iff_ne, beq_eq_false_iff_ne, bne_eq_false_iff_eq, Int.not_lt, Int.not_le, ge_iff_le, gt_iff_lt, not_or, not_and, Bool.cond_true_right, Bool.cond_true_left, Bool.cond_false_right, Bool.cond_false_left, bif_t, bif_f] at e) <;> (conv => whnf))
    · have hlt : i < sets.length := by omega
      obtain ⟨x, hget⟩ := get_lt hlt
      have hb := setsBulk_get hget
      (refine ⟨_, And.intro ⟨by omega, enc_get hget⟩ ?_⟩; (conv => whnf))
      obtain ⟨⟨xa, xb, xs⟩, mask, ⟨op, kind, n, ⟨ra, rb, rs⟩, kids⟩⟩ := x
      conv => whnf
      (refine ⟨_, And.intro ⟨by omega, enc_get hget⟩ ?_⟩; (conv => whnf))
      simp only [ASet.bulk] at hb
      have hkl := treesBulk_len mask
      repeat' ((with_reducible refine And.intro ?_ ?_) <;> (conv => whnf))
      · (refine ⟨[], false, false, ?_⟩; (conv => whnf); refine ⟨_, _, ⟨⟨xa, xb, xs⟩, rfl, rfl, by simp only; omega, rfl, rfl⟩, ?_⟩; (conv => whnf))
        (repeat' (first | ((with_reducible refine And.intro (fun (e : (_ : Bool) = true) => ?_) (fun (e : (_ : Bool) = false) => ?_)) <;> (try simp only [reduceCtorEq, ints_len, bools_len, Bool.not_false, Bool.not_true, List.length_map, decide_eq_true_eq, decide_eq_false_iff_not, Bool.not_eq_true', Bool.not_eq_false', Bool.and_eq_true, Bool.or_eq_true, Bool.and_eq_false_iff, Bool.or_eq_false_iff, beq_iff_eq, bne_iff_ne, beq_eq_false_iff_ne, bne_eq_false_iff_eq, Int.not_lt, Int.not_le, ge_iff_le, gt_iff_lt, not_or, not_and, Bool.cond_true_right, Bool.cond_true_left, Bool.cond_false_right, Bool.cond_false_left, bif_t, bif_f] at e) <;> (conv => whnf)) | ((with_reducible refine And.intro (fun (e : (_ : Bool) = false) => ?_) (fun (e : (_ : Bool) = true) => ?_)) <;> (try simp only [reduceCtorEq, ints_len, bools_len, Bool.not_false, Bool.not_true, List.length_map, decide_eq_true_eq, decide_eq_false_iff_not, Bool.not_eq_true', Bool.not_eq_false', Bool.and_eq_true, Bool.or_eq_true, Bool.and_eq_false_iff, Bool.or_eq_false_iff, beq_iff_eq, bne_iff_ne, beq_eq_false_iff_ne, bne_eq_false_iff_eq, Int.not_lt, Int.not_le, ge_iff_le, gt_iff_lt, not_or, not_and, Bool.cond_true_right, Bool.cond_true_left, Bool.cond_false_right, Bool.cond_false_left, bif_t, bif_f] at e) <;> (conv => whnf)) | (refine And.intro ?_ ?_; ((first | (with_reducible assumption) | (intro _; with_reducible assumption) | omega | (simp only [reduceCtorEq, ints_len, bools_len, Bool.not_false, Bool.not_true, List.length_map, decide_eq_true_eq, decide_eq_false_iff_not, Bool.not_eq_true', Bool.not_eq_false', Bool.and_eq_true, Bool.or_eq_true, Bool.and_eq_false_iff, Bool.or_eq_false_iff, beq_iff_eq, bne_iff_ne, beq_eq_false_iff_ne, bne_eq_false_iff_eq, Int.not_lt, Int.not_le, ge_iff_le, gt_iff_lt, not_or, not_and, Bool.cond_true_right, Bool.cond_true_left, Bool.cond_false_right, Bool.cond_false_left, bif_t, bif_f] at *; omega) | (intro hg; (try simp only [reduceCtorEq, ints_len, bools_len, Bool.not_false, Bool.not_true, List.length_map, decide_eq_true_eq, decide_eq_false_iff_not, Bool.not_eq_true', Bool.not_eq_false', Bool.and_eq_true, Bool.or_eq_true, Bool.and_eq_false_iff, Bool.or_eq_false_iff, beq_iff_eq, bne_iff_ne, beq_eq_false_iff_ne, bne_eq_false_iff_eq, Int.not_lt, Int.not_le, ge_iff_le, gt_iff_lt, not_or, not_and, Bool.cond_true_right, Bool.cond_true_left, Bool.cond_false_right, Bool.cond_false_left, bif_t, bif_f] at hg); first | (with_reducible assumption) | omega | (simp only [reduceCtorEq, ints_len, bools_len, Bool.not_false, Bool.not_true, List.length_map, decide_eq_true_eq, decide_eq_false_iff_not, Bool.not_eq_true', Bool.not_eq_false', Bool.and_eq_true, Bool.or_eq_true, Bool.and_eq_false_iff, Bool.or_eq_false_iff, beq_iff_eq, bne_iff_ne, beq_eq_false_iff_ne, bne_eq_false_iff_eq, Int.not_lt, Int.not_le, ge_iff_le, gt_iff_lt, not_or, not_and, Bool.cond_true_right, Bool.cond_true_left, Bool.cond_false_right, Bool.cond_false_left, bif_t, bif_f] at *; omega) | (refine ⟨?_, ?_⟩ <;> omega)) | (refine ⟨?_, ?_⟩ <;> omega) | (simp [*]; done) | grind)); (conv => whnf))))
        all_goals try (exfalso; simp at e; done)
        all_goals try (exfalso; rename_i e9; simp at e9; done)
        (refine ⟨[], false, false, ?_⟩; (conv => whnf); refine ⟨_, _, ⟨.mk op kind n ⟨ra, rb, rs⟩ kids, rfl, rfl, by omega, by omega, rfl, rfl⟩, ?_⟩; (conv => whnf))
        (repeat' (first | ((with_reducible refine And.intro (fun (e : (_ : Bool) = true) => ?_) (fun (e : (_ : Bool) = false) => ?_)) <;> (try simp only [reduceCtorEq, ints_len, bools_len, Bool.not_false, Bool.not_true, List.length_map, decide_eq_true_eq, decide_eq_false_iff_not, Bool.not_eq_true', Bool.not_eq_false', Bool.and_eq_true, Bool.or_eq_true, Bool.and_eq_false_iff, Bool.or_eq_false_iff, beq_iff_eq, bne_iff_ne, beq_eq_false_iff_ne, bne_eq_false_iff_eq, Int.not_lt, Int.not_le, ge_iff_le, gt_iff_lt, not_or, not_and, Bool.cond_true_right, Bool.cond_true_left, Bool.cond_false_right, Bool.cond_false_left, bif_t, bif_f] at e) <;> (conv => whnf)) | ((with_reducible refine And.intro (fun (e : (_ : Bool) = false) => ?_) (fun (e : (_ : Bool) = true) => ?_)) <;> (try simp only [reduceCtorEq, ints_len, bools_len, Bool.not_false, Bool.not_true, List.length_map, decide_eq_true_eq, decide_eq_false_iff_not, Bool.not_eq_true', Bool.not_eq_false', Bool.and_eq_true, Bool.or_eq_true, Bool.and_eq_false_iff, Bool.or_eq_false_iff, beq_iff_eq, bne_iff_ne, beq_eq_false_iff_ne, bne_eq_false_iff_eq, Int.not_lt, Int.not_le, ge_iff_le, gt_iff_lt, not_or, not_and, Bool.cond_true_right, Bool.cond_true_left, Bool.cond_false_right, Bool.cond_false_left, bif_t, bif_f] at e) <;> (conv => whnf)) | (refine And.intro ?_ ?_; ((first | (with_reducible assumption) | (intro _; with_reducible assumption) | omega | (simp only [reduceCtorEq, ints_len, bools_len, Bool.not_false, Bool.not_true, List.length_map, decide_eq_true_eq, decide_eq_false_iff_not, Bool.not_eq_true', Bool.not_eq_false', Bool.and_eq_true, Bool.or_eq_true, Bool.and_eq_false_iff, Bool.or_eq_false_iff, beq_iff_eq, bne_iff_ne, beq_eq_false_iff_ne, bne_eq_false_iff_eq, Int.not_lt, Int.not_le, ge_iff_le, gt_iff_lt, not_or, not_and, Bool.cond_true_right, Bool.cond_true_left, Bool.cond_false_right, Bool.cond_false_left, bif_t, bif_f] at *; omega) | (intro hg; (try simp only [reduceCtorEq, ints_len, bools_len, Bool.not_false, Bool.not_true, List.length_map, decide_eq_true_eq, decide_eq_false_iff_not, Bool.not_eq_true', Bool.not_eq_false', Bool.and_eq_true, Bool.or_eq_true, Bool.and_eq_false_iff, Bool.or_eq_false_iff, beq_iff_eq, bne_iff_ne, beq_eq_false_iff_ne, bne_eq_false_iff_eq, Int.not_lt, Int.not_le, ge_iff_le, gt_iff_lt, not_or, not_and, Bool.cond_true_right, Bool.cond_true_left, Bool.cond_false_right, Bool.cond_false_left, bif_t, bif_f] at hg); first | (with_reducible assumption) | omega | (simp only [reduceCtorEq, ints_len, bools_len, Bool.not_false, Bool.not_true, List.length_map, decide_eq_true_eq, decide_eq_false_iff_not, Bool.not_eq_true', Bool.not_eq_false', Bool.and_eq_true, Bool.or_eq_true, Bool.and_eq_false_iff, Bool.or_eq_false_iff, beq_iff_eq, bne_iff_ne, beq_eq_false_iff_ne, bne_eq_false_iff_eq, Int.not_lt, Int.not_le, ge_iff_le, gt_iff_lt, not_or, not_and, Bool.cond_true_right, Bool.cond_true_left, Bool.cond_false_right, Bool.cond_false_left, bif_t, bif_f] at *; omega) | (refine ⟨?_, ?_⟩ <;> omega)) | (refine ⟨?_, ?_⟩ <;> omega) | (simp [*]; done) | grind)); (conv => whnf))))
        all_goals try (exfalso; simp at e; done)
        all_goals try (exfalso; rename_i e9; simp at e9; done)
        refine ⟨[], [2, 3, 5, 6, 7, 8], 4, fun n2 σ => ∃ j : Nat, j ≤ mask.length ∧ n2 = mask.length - j ∧ σ = (⟨[.junk, .junk, .one (.ptr 0 0), .one (.ptr 1 0), .junk, .di .i64 i, .one (.ptr 2 0), .one (.ptr 3 0), .di .i64 j, .junk, .junk, .junk, .junk, .junk, .junk, .junk, .junk, .junk, .junk, .junk, .junk, .junk, .junk, .junk, .junk, .junk, .junk, .junk, .junk, .junk, .junk, .junk, .junk, .junk, .junk, .junk, .junk, .junk, .junk, .junk, .junk, .junk, .junk, .junk, .junk, .junk, .junk, .junk, .junk, .junk, .junk, .junk, .junk, .junk, .junk, .junk, .junk, .junk, .junk, .junk, .junk, .junk, .junk, .junk, .junk, .junk, .junk, .junk, .junk, .junk, .junk, .junk, .junk, .junk, .junk, .junk, .junk, .junk, .junk, .junk, .junk, .junk, .junk], [.box (List.map .d (Kern.mk ext sets).c), .box (List.map .d (Kern.mk ext sets).c), .box (List.map .d (ASet.mk ⟨xa, xb, xs⟩ mask (.mk op kind n ⟨ra, rb, rs⟩ kids)).c), .box (List.map .d (ASet.mk ⟨xa, xb, xs⟩ mask (.mk op kind n ⟨ra, rb, rs⟩ kids)).c)]⟩ : St), ?_, ?_⟩
        · refine ⟨mask.length, ?_⟩
          conv => whnf
          exact ⟨0, by omega, by omega, rfl⟩
        · rintro n2 _ ⟨j, hj, rfl, rfl⟩
          conv => whnf
          rw [map_len]
          ((with_reducible refine And.intro (fun (e : (_ : Bool) = true) => ?_) (fun (e : (_ : Bool) = false) => ?_)) <;> (try simp only [reduceCtorEq, ints_len, bools_len, Bool.not_false, Bool.not_true, List.length_map, decide_eq_true_eq, decide_eq_false_iff_not, Bool.not_eq_true', Bool.not_eq_false', Bool.and_eq_true, Bool.or_eq_true, Bool.and_eq_false_iff, Bool.or_eq_false_iff, beq_iff_eq, bne_iff_ne, beq_eq_false_iff_ne, bne_eq_false_iff_eq, Int.not_lt, Int.not_le, ge_iff_le, gt_iff_lt, not_or, not_and, Bool.cond_true_right, Bool.cond_true_left, Bool.cond_false_right, Bool.cond_false_left, bif_t, bif_f] at e) <;> (conv => whnf))
          · have hlt2 : j < mask.length := by omega
            obtain ⟨y, hgy⟩ := get_lt hlt2
            have hb2 := treesBulk_get hgy
            (refine ⟨_, And.intro ⟨by omega, enc_get hgy⟩ ?_⟩; (conv => whnf))
            obtain ⟨yop, ykind, yn, ⟨ya, yb, ys⟩, ykids⟩ := y
            conv => whnf
            (refine ⟨_, And.intro ⟨by omega, enc_get hgy⟩ ?_⟩; (conv => whnf))
            (refine ⟨[], false, false, ?_⟩; (conv => whnf); refine ⟨_, _, ⟨.mk yop ykind yn ⟨ya, yb, ys⟩ ykids, rfl, rfl, by omega, by omega, rfl, rfl⟩, ?_⟩; (conv => whnf))
            ((first | refine And.intro (fun _ => ?_) (fun h => absurd h (by decide)) | refine And.intro (fun h => absurd h (by decide)) (fun _ => ?_)); (conv => whnf))
            (refine And.intro ?_ ?_; ((first | (with_reducible assumption) | (intro _; with_reducible assumption) | omega | (simp only [reduceCtorEq, ints_len, bools_len, Bool.not_false, Bool.not_true, List.length_map, decide_eq_true_eq, decide_eq_false_iff_not, Bool.not_eq_true', Bool.not_eq_false', Bool.and_eq_true, Bool.or_eq_true, Bool.and_eq_false_iff, Bool.or_eq_false_iff, beq_iff_eq, bne_iff_ne, beq_eq_false_iff_ne, bne_eq_false_iff_eq, Int.not_lt, Int.not_le, ge_iff_le, gt_iff_lt, not_or, not_and, Bool.cond_true_right, Bool.cond_true_left, Bool.cond_false_right, Bool.cond_false_left, bif_t, bif_f] at *; omega) | (intro hg; (try simp only [reduceCtorEq, ints_len, bools_len, Bool.not_false, Bool.not_true, List.length_map, decide_eq_true_eq, decide_eq_false_iff_not, Bool.not_eq_true', Bool.not_eq_false', Bool.and_eq_true, Bool.or_eq_true, Bool.and_eq_false_iff, Bool.or_eq_false_iff, beq_iff_eq, bne_iff_ne, beq_eq_false_iff_ne, bne_eq_false_iff_eq, Int.not_lt, Int.not_le, ge_iff_le, gt_iff_lt, not_or, not_and, Bool.cond_true_right, Bool.cond_true_left, Bool.cond_false_right, Bool.cond_false_left, bif_t, bif_f] at hg); first | (with_reducible assumption) | omega | (simp only [reduceCtorEq, ints_len, bools_len, Bool.not_false, Bool.not_true, List.length_map, decide_eq_true_eq, decide_eq_false_iff_not, Bool.not_eq_true', Bool.not_eq_false', Bool.and_eq_true, Bool.or_eq_true, Bool.and_eq_false_iff, Bool.or_eq_false_iff, beq_iff_eq, bne_iff_ne, beq_eq_false_iff_ne, bne_eq_false_iff_eq, Int.not_lt, Int.not_le, ge_iff_le, gt_iff_lt, not_or, not_and, Bool.cond_true_right, Bool.cond_true_left, Bool.cond_false_right, Bool.cond_false_left, bif_t, bif_f] at *; omega) | (refine ⟨?_, ?_⟩ <;> omega)) | (refine ⟨?_, ?_⟩ <;> omega) | (simp [*]; done) | grind)); (conv => whnf))
            refine ⟨mask.length - (j + 1), by omega, [], ?_⟩
            conv => whnf
            exact ⟨j + 1, by omega, rfl, rfl⟩
          · (refine And.intro ?_ ?_; ((first | (with_reducible assumption) | (intro _; with_reducible assumption) | omega | (simp only [reduceCtorEq, ints_len, bools_len, Bool.not_false, Bool.not_true, List.length_map, decide_eq_true_eq, decide_eq_false_iff_not, Bool.not_eq_true', Bool.not_eq_false', Bool.and_eq_true, Bool.or_eq_true, Bool.and_eq_false_iff, Bool.or_eq_false_iff, beq_iff_eq, bne_iff_ne, beq_eq_false_iff_ne, bne_eq_false_iff_eq, Int.not_lt, Int.not_le, ge_iff_le, gt_iff_lt, not_or, not_and, Bool.cond_true_right, Bool.cond_true_left, Bool.cond_false_right, Bool.cond_false_left, bif_t, bif_f] at *; omega) | (intro hg; (try simp only [reduceCtorEq, ints_len, bools_len, Bool.not_false, Bool.not_true, List.length_map, decide_eq_true_eq, decide_eq_false_iff_not, Bool.not_eq_true', Bool.not_eq_false', Bool.and_eq_true, Bool.or_eq_true, Bool.and_eq_false_iff, Bool.or_eq_false_iff, beq_iff_eq, bne_iff_ne, beq_eq_false_iff_ne, bne_eq_false_iff_eq, Int.not_lt, Int.not_le, ge_iff_le, gt_iff_lt, not_or, not_and, Bool.cond_true_right, Bool.cond_true_left, Bool.cond_false_right, Bool.cond_false_left, bif_t, bif_f] at hg); first | (with_reducible assumption) | omega | (simp only [reduceCtorEq, ints_len, bools_len, Bool.not_false, Bool.not_true, List.length_map, decide_eq_true_eq, decide_eq_false_iff_not, Bool.not_eq_true', Bool.not_eq_false', Bool.and_eq_true, Bool.or_eq_true, Bool.and_eq_false_iff, Bool.or_eq_false_iff, beq_iff_eq, bne_iff_ne, beq_eq_false_iff_ne, bne_eq_false_iff_eq, Int.not_lt, Int.not_le, ge_iff_le, gt_iff_lt, not_or, not_and, Bool.cond_true_right, Bool.cond_true_left, Bool.cond_false_right, Bool.cond_false_left, bif_t, bif_f] at *; omega) | (refine ⟨?_, ?_⟩ <;> omega)) | (refine ⟨?_, ?_⟩ <;> omega) | (simp [*]; done) | grind)); (conv => whnf))
            refine ⟨sets.length - (i + 1), by omega, [], ?_⟩
            conv => whnf
            exact ⟨i + 1, by omega, rfl, rfl⟩
      · (refine ⟨[], false, false, ?_⟩; (conv => whnf); refine ⟨_, _, ⟨⟨xa, xb, xs⟩, rfl, rfl, by simp only; omega, rfl, rfl⟩, ?_⟩; (conv => whnf))
        (repeat' (first | ((with_reducible refine And.intro (fun (e : (_ : Bool) = true) => ?_) (fun (e : (_ : Bool) = false) => ?_)) <;> (try simp only [reduceCtorEq, ints_len, bools_len, Bool.not_false, Bool.not_true, List.length_map, decide_eq_true_eq, decide_eq_false_iff_not, Bool.not_eq_true', Bool.not_eq_false', Bool.and_eq_true, Bool.or_eq_true, Bool.and_eq_false_iff, Bool.or_eq_false_iff, beq_iff_eq, bne_iff_ne, beq_eq_false_iff_ne, bne_eq_false_iff_eq, Int.not_lt, Int.not_le, ge_iff_le, gt_iff_lt, not_or, not_and, Bool.cond_true_right, Bool.cond_true_left, Bool.cond_false_right, Bool.cond_false_left, bif_t, bif_f] at e) <;> (conv => whnf)) | ((with_reducible refine And.intro (fun (e : (_ : Bool) = false) => ?_) (fun (e : (_ : Bool) = true) => ?_)) <;> (try simp only [reduceCtorEq, ints_len, bools_len, Bool.not_false, Bool.not_true, List.length_map, decide_eq_true_eq, decide_eq_false_iff_not, Bool.not_eq_true', Bool.not_eq_false', Bool.and_eq_true, Bool.or_eq_true, Bool.and_eq_false_iff, Bool.or_eq_false_iff, beq_iff_eq, bne_iff_ne, beq_eq_false_iff_ne, bne_eq_false_iff_eq, Int.not_lt, Int.not_le, ge_iff_le, gt_iff_lt, not_or, not_and, Bool.cond_true_right, Bool.cond_true_left, Bool.cond_false_right, Bool.cond_false_left, bif_t, bif_f] at e) <;> (conv => whnf)) | (refine And.intro ?_ ?_; ((first | (with_reducible assumption) | (intro _; with_reducible assumption) | omega | (simp only [reduceCtorEq, ints_len, bools_len, Bool.not_false, Bool.not_true, List.length_map, decide_eq_true_eq, decide_eq_false_iff_not, Bool.not_eq_true', Bool.not_eq_false', Bool.and_eq_true, Bool.or_eq_true, Bool.and_eq_false_iff, Bool.or_eq_false_iff, beq_iff_eq, bne_iff_ne, beq_eq_false_iff_ne, bne_eq_false_iff_eq, Int.not_lt, Int.not_le, ge_iff_le, gt_iff_lt, not_or, not_and, Bool.cond_true_right, Bool.cond_true_left, Bool.cond_false_right, Bool.cond_false_left, bif_t, bif_f] at *; omega) | (intro hg; (try simp only [reduceCtorEq, ints_len, bools_len, Bool.not_false, Bool.not_true, List.length_map, decide_eq_true_eq, decide_eq_false_iff_not, Bool.not_eq_true', Bool.not_eq_false', Bool.and_eq_true, Bool.or_eq_true, Bool.and_eq_false_iff, Bool.or_eq_false_iff, beq_iff_eq, bne_iff_ne, beq_eq_false_iff_ne, bne_eq_false_iff_eq, Int.not_lt, Int.not_le, ge_iff_le, gt_iff_lt, not_or, not_and, Bool.cond_true_right, Bool.cond_true_left, Bool.cond_false_right, Bool.cond_false_left, bif_t, bif_f] at hg); first | (with_reducible assumption) | omega | (simp only [reduceCtorEq, ints_len, bools_len, Bool.not_false, Bool.not_true, List.length_map, decide_eq_true_eq, decide_eq_false_iff_not, Bool.not_eq_true', Bool.not_eq_false', Bool.and_eq_true, Bool.or_eq_true, Bool.and_eq_false_iff, Bool.or_eq_false_iff, beq_iff_eq, bne_iff_ne, beq_eq_false_iff_ne, bne_eq_false_iff_eq, Int.not_lt, Int.not_le, ge_iff_le, gt_iff_lt, not_or, not_and, Bool.cond_true_right, Bool.cond_true_left, Bool.cond_false_right, Bool.cond_false_left, bif_t, bif_f] at *; omega) | (refine ⟨?_, ?_⟩ <;> omega)) | (refine ⟨?_, ?_⟩ <;> omega) | (simp [*]; done) | grind)); (conv => whnf))))
        all_goals try (exfalso; simp at e; done)
        all_goals try (exfalso; rename_i e9; simp at e9; done)
        (refine ⟨[], false, false, ?_⟩; (conv => whnf); refine ⟨_, _, ⟨.mk op kind n ⟨ra, rb, rs⟩ kids, rfl, rfl, by omega, by omega, rfl, rfl⟩, ?_⟩; (conv => whnf))
        (repeat' (first | ((with_reducible refine And.intro (fun (e : (_ : Bool) = true) => ?_) (fun (e : (_ : Bool) = false) => ?_)) <;> (try simp only [reduceCtorEq, ints_len, bools_len, Bool.not_false, Bool.not_true, List.length_map, decide_eq_true_eq, decide_eq_false_iff_not, Bool.not_eq_true', Bool.not_eq_false', Bool.and_eq_true, Bool.or_eq_true, Bool.and_eq_false_iff, Bool.or_eq_false_iff, beq_iff_eq, bne_iff_ne, beq_eq_false_iff_ne, bne_eq_false_iff_eq, Int.not_lt, Int.not_le, ge_iff_le, gt_iff_lt, not_or, not_and, Bool.cond_true_right, Bool.cond_true_left, Bool.cond_false_right, Bool.cond_false_left, bif_t, bif_f] at e) <;> (conv => whnf)) | ((with_reducible refine And.intro (fun (e : (_ : Bool) = false) => ?_) (fun (e : (_ : Bool) = true) => ?_)) <;> (try simp only [reduceCtorEq, ints_len, bools_len, Bool.not_false, Bool.not_true, List.length_map, decide_eq_true_eq, decide_eq_false_iff_not, Bool.not_eq_true', Bool.not_eq_false', Bool.and_eq_true, Bool.or_eq_true, Bool.and_eq_false_iff, Bool.or_eq_false_iff, beq_iff_eq, bne_iff_ne, beq_eq_false_iff_ne, bne_eq_false_iff_eq, Int.not_lt, Int.not_le, ge_iff_le, gt_iff_lt, not_or, not_and, Bool.cond_true_right, Bool.cond_true_left, Bool.cond_false_right, Bool.cond_false_left, bif_t, bif_f] at e) <;> (conv => whnf)) | (refine And.intro ?_ ?_; ((first | (with_reducible assumption) | (intro _; with_reducible assumption) | omega | (simp only [reduceCtorEq, ints_len, bools_len, Bool.not_false, Bool.not_true, List.length_map, decide_eq_true_eq, decide_eq_false_iff_not, Bool.not_eq_true', Bool.not_eq_false', Bool.and_eq_true, Bool.or_eq_true, Bool.and_eq_false_iff, Bool.or_eq_false_iff, beq_iff_eq, bne_iff_ne, beq_eq_false_iff_ne, bne_eq_false_iff_eq, Int.not_lt, Int.not_le, ge_iff_le, gt_iff_lt, not_or, not_and, Bool.cond_true_right, Bool.cond_true_left, Bool.cond_false_right, Bool.cond_false_left, bif_t, bif_f] at *; omega) | (intro hg; (try simp only [reduceCtorEq, ints_len, bools_len, Bool.not_false, Bool.not_true, List.length_map, decide_eq_true_eq, decide_eq_false_iff_not, Bool.not_eq_true', Bool.not_eq_false', Bool.and_eq_true, Bool.or_eq_true, Bool.and_eq_false_iff, Bool.or_eq_false_iff, beq_iff_eq, bne_iff_ne, beq_eq_false_iff_ne, bne_eq_false_iff_eq, Int.not_lt, Int.not_le, ge_iff_le, gt_iff_lt, not_or, not_and, Bool.cond_true_right, Bool.cond_true_left, Bool.cond_false_right, Bool.cond_false_left, bif_t, bif_f] at hg); first | (with_reducible assumption) | omega | (simp only [reduceCtorEq, ints_len, bools_len, Bool.not_false, Bool.not_true, List.length_map, decide_eq_true_eq, decide_eq_false_iff_not, Bool.not_eq_true', Bool.not_eq_false', Bool.and_eq_true, Bool.or_eq_true, Bool.and_eq_false_iff, Bool.or_eq_false_iff, beq_iff_eq, bne_iff_ne, beq_eq_false_iff_ne, bne_eq_false_iff_eq, Int.not_lt, Int.not_le, ge_iff_le, gt_iff_lt, not_or, not_and, Bool.cond_true_right, Bool.cond_true_left, Bool.cond_false_right, Bool.cond_false_left, bif_t, bif_f] at *; omega) | (refine ⟨?_, ?_⟩ <;> omega)) | (refine ⟨?_, ?_⟩ <;> omega) | (simp [*]; done) | grind)); (conv => whnf))))
        all_goals try (exfalso; simp at e; done)
        all_goals try (exfalso; rename_i e9; simp at e9; done)
        refine ⟨[], [2, 3, 5, 6, 7, 8], 4, fun n2 σ => ∃ j : Nat, j ≤ mask.length ∧ n2 = mask.length - j ∧ σ = (⟨[.junk, .junk, .one (.ptr 0 0), .one (.ptr 1 0), .junk, .di .i64 i, .one (.ptr 3 0), .one (.ptr 2 0), .di .i64 j, .junk, .junk, .junk, .junk, .junk, .junk, .junk, .junk, .junk, .junk, .junk, .junk, .junk, .junk, .junk, .junk, .junk, .junk, .junk, .junk, .junk, .junk, .junk, .junk, .junk, .junk, .junk, .junk, .junk, .junk, .junk, .junk, .junk, .junk, .junk, .junk, .junk, .junk, .junk, .junk, .junk, .junk, .junk, .junk, .junk, .junk, .junk, .junk, .junk, .junk, .junk, .junk, .junk, .junk, .junk, .junk, .junk, .junk, .junk, .junk, .junk, .junk, .junk, .junk, .junk, .junk, .junk, .junk, .junk, .junk, .junk, .junk, .junk, .junk], [.box (List.map .d (Kern.mk ext sets).c), .box (List.map .d (Kern.mk ext sets).c), .box (List.map .d (ASet.mk ⟨xa, xb, xs⟩ mask (.mk op kind n ⟨ra, rb, rs⟩ kids)).c), .box (List.map .d (ASet.mk ⟨xa, xb, xs⟩ mask (.mk op kind n ⟨ra, rb, rs⟩ kids)).c)]⟩ : St), ?_, ?_⟩
        · refine ⟨mask.length, ?_⟩
          conv => whnf
          exact ⟨0, by omega, by omega, rfl⟩
        · rintro n2 _ ⟨j, hj, rfl, rfl⟩
          conv => whnf
          rw [map_len]
          ((with_reducible refine And.intro (fun (e : (_ : Bool) = true) => ?_) (fun (e : (_ : Bool) = false) => ?_)) <;> (try simp only [reduceCtorEq, ints_len, bools_len, Bool.not_false, Bool.not_true, List.length_map, decide_eq_true_eq, decide_eq_false_iff_not, Bool.not_eq_true', Bool.not_eq_false', Bool.and_eq_true, Bool.or_eq_true, Bool.and_eq_false_iff, Bool.or_eq_false_iff, beq_iff_eq, bne_iff_ne, beq_eq_false_iff_ne, bne_eq_false_iff_eq, Int.not_lt, Int.not_le, ge_iff_le, gt_iff_lt, not_or, not_and, Bool.cond_true_right, Bool.cond_true_left, Bool.cond_false_right, Bool.cond_false_left, bif_t, bif_f] at e) <;> (conv => whnf))
          · have hlt2 : j < mask.length := by omega
            obtain ⟨y, hgy⟩ := get_lt hlt2
            have hb2 := treesBulk_get hgy
            (refine ⟨_, And.intro ⟨by omega, enc_get hgy⟩ ?_⟩; (conv => whnf))
            obtain ⟨yop, ykind, yn, ⟨ya, yb, ys⟩, ykids⟩ := y
            conv => whnf
            (refine ⟨_, And.intro ⟨by omega, enc_get hgy⟩ ?_⟩; (conv => whnf))
            (refine ⟨[], false, false, ?_⟩; (conv => whnf); refine ⟨_, _, ⟨.mk yop ykind yn ⟨ya, yb, ys⟩ ykids, rfl, rfl, by omega, by omega, rfl, rfl⟩, ?_⟩; (conv => whnf))
            ((first | refine And.intro (fun _ => ?_) (fun h => absurd h (by decide)) | refine And.intro (fun h => absurd h (by decide)) (fun _ => ?_)); (conv => whnf))
            (refine And.intro ?_ ?_; ((first | (with_reducible assumption) | (intro _; with_reducible assumption) | omega | (simp only [reduceCtorEq, ints_len, bools_len, Bool.not_false, Bool.not_true, List.length_map, decide_eq_true_eq, decide_eq_false_iff_not, Bool.not_eq_true', Bool.not_eq_false', Bool.and_eq_true, Bool.or_eq_true, Bool.and_eq_false_iff, Bool.or_eq_false_iff, beq_iff_eq, bne_iff_ne, beq_eq_false_iff_ne, bne_eq_false_iff_eq, Int.not_lt, Int.not_le, ge_iff_le, gt_iff_lt, not_or, not_and, Bool.cond_true_right, Bool.cond_true_left, Bool.cond_false_right, Bool.cond_false_left, bif_t, bif_f] at *; omega) | (intro hg; (try simp only [reduceCtorEq, ints_len, bools_len, Bool.not_false, Bool.not_true, List.length_map, decide_eq_true_eq, decide_eq_false_iff_not, Bool.not_eq_true', Bool.not_eq_false', Bool.and_eq_true, Bool.or_eq_true, Bool.and_eq_false_iff, Bool.or_eq_false_iff, beq_iff_eq, bne_iff_ne, beq_eq_false_iff_ne, bne_eq_false_iff_eq, Int.not_lt, Int.not_le, ge_iff_le, gt_iff_lt, not_or, not_and, Bool.cond_true_right, Bool.cond_true_left, Bool.cond_false_right, Bool.cond_false_left, bif_t, bif_f] at hg); first | (with_reducible assumption) | omega | (simp only [reduceCtorEq, ints_len, bools_len, Bool.not_false, Bool.not_true, List.length_map, decide_eq_true_eq, decide_eq_false_iff_not, Bool.not_eq_true', Bool.not_eq_false', Bool.and_eq_true, Bool.or_eq_true, Bool.and_eq_false_iff, Bool.or_eq_false_iff, beq_iff_eq, bne_iff_ne, beq_eq_false_iff_ne, bne_eq_false_iff_eq, Int.not_lt, Int.not_le, ge_iff_le, gt_iff_lt, not_or, not_and, Bool.cond_true_right, Bool.cond_true_left, Bool.cond_false_right, Bool.cond_false_left, bif_t, bif_f] at *; omega) | (refine ⟨?_, ?_⟩ <;> omega)) | (refine ⟨?_, ?_⟩ <;> omega) | (simp [*]; done) | grind)); (conv => whnf))
            refine ⟨mask.length - (j + 1), by omega, [], ?_⟩
            conv => whnf
            exact ⟨j + 1, by omega, rfl, rfl⟩
          · (refine And.intro ?_ ?_; ((first | (with_reducible assumption) | (intro _; with_reducible assumption) | omega | (simp only [reduceCtorEq, ints_len, bools_len, Bool.not_false, Bool.not_true, List.length_map, decide_eq_true_eq, decide_eq_false_iff_not, Bool.not_eq_true', Bool.not_eq_false', Bool.and_eq_true, Bool.or_eq_true, Bool.and_eq_false_iff, Bool.or_eq_false_iff, beq_iff_eq, bne_iff_ne, beq_eq_false_iff_ne, bne_eq_false_iff_eq, Int.not_lt, Int.not_le, ge_iff_le, gt_iff_lt, not_or, not_and, Bool.cond_true_right, Bool.cond_true_left, Bool.cond_false_right, Bool.cond_false_left, bif_t, bif_f] at *; omega) | (intro hg; (try simp only [reduceCtorEq, ints_len, bools_len, Bool.not_false, Bool.not_true, List.length_map, decide_eq_true_eq, decide_eq_false_iff_not, Bool.not_eq_true', Bool.not_eq_false', Bool.and_eq_true, Bool.or_eq_true, Bool.and_eq_false_iff, Bool.or_eq_false_iff, beq_iff_eq, bne_iff_ne, beq_eq_false_iff_ne, bne_eq_false_iff_eq, Int.not_lt, Int.not_le, ge_iff_le, gt_iff_lt, not_or, not_and, Bool.cond_true_right, Bool.cond_true_left, Bool.cond_false_right, Bool.cond_false_left, bif_t, bif_f] at hg); first | (with_reducible assumption) | omega | (simp only [reduceCtorEq, ints_len, bools_len, Bool.not_false, Bool.not_true, List.length_map, decide_eq_true_eq, decide_eq_false_iff_not, Bool.not_eq_true', Bool.not_eq_false', Bool.and_eq_true, Bool.or_eq_true, Bool.and_eq_false_iff, Bool.or_eq_false_iff, beq_iff_eq, bne_iff_ne, beq_eq_false_iff_ne, bne_eq_false_iff_eq, Int.not_lt, Int.not_le, ge_iff_le, gt_iff_lt, not_or, not_and, Bool.cond_true_right, Bool.cond_true_left, Bool.cond_false_right, Bool.cond_false_left, bif_t, bif_f] at *; omega) | (refine ⟨?_, ?_⟩ <;> omega)) | (refine ⟨?_, ?_⟩ <;> omega) | (simp [*]; done) | grind)); (conv => whnf))
            refine ⟨sets.length - (i + 1), by omega, [], ?_⟩
            conv => whnf
            exact ⟨i + 1, by omega, rfl, rfl⟩
    · (refine ⟨[], ?_⟩; (conv => whnf); refine ⟨[], .nil, .nil, ?_⟩; (conv => whnf))
end Go.Proofs.Ytahdihhhankhdaa.V
-- Vfn
namespace Go.Proofs.Ytahdihhhankhdaa.V
open Go.Proofs.YtahdihhhankhdaaVY Go.RowKit
def R52 : Ct := fun ss hp r out => ∃ l : List Kern, ss = [.one (.d (.sl 2 (l.map Kern.c))), .one (.d (.sl 2 (l.map Kern.c)))] ∧ hp = [] ∧ kernsBulk l ≤ 4194304 ∧ r = .db true ∧ out = []
set_option maxHeartbeats 4000000 in
theorem ok52 : VSound Try.prog (52, R52) := by
  refine vsound (T := ty) (F := [(49, R49)]) (pl := [(6, [[], [], [0, 1], [0, 1, 2], [], [], [4, 5], [4, 5, 6], [0, 1, 2, 3, 4, 5, 6, 7], [0, 1, 2, 3, 4, 5, 6, 7, 8]], .look 0 (.look 1 (.look 2 (.look 3 (.look 4 (.look 5 (.look 6 (.look 7 (.act 8 [] (.look 9 .done) .stop)))))))))]) (nw := true) (cuts := []) mix tyOk (.cons (ok49) .nil) Try.func52 (by kernel_rfl) (by kernel_rfl) ?_
  rintro _ _ _ _ ⟨l, rfl, rfl, hm, rfl, rfl⟩
  have hl := kernsBulk_len l
  conv => whnf
  ((with_reducible refine And.intro (fun (e : (_ : Bool) = true) => ?_) (fun (e : (_ : Bool) = false) => ?_)) <;> (try simp only [reduceCtorEq, ints_len, bools_len, Bool.not_false, Bool.not_true, List.length_map, decide_eq_true_eq, decide_eq_false_iff_not, Bool.not_eq_true', Bool.not_eq_false', Bool.and_eq_true, Bool.or_eq_true, Bool.and_eq_false_iff, Bool.or_eq_false_iff, beq_iff_eq, bne_iff_ne, beq_eq_false_iff_ne, bne_eq_false_iff_eq, Int.not_lt, Int.not_le, ge_iff_le, gt_iff_lt, not_or, not_and, Bool.cond_true_right, Bool.cond_true_left, Bool.cond_false_right, Bool.cond_false_left, bif_t, bif_f] at e) <;> (conv => whnf))
  · exfalso; exact e rfl
  · refine ⟨[], [0, 1, 5], 0, fun n1 σ => ∃ i : Nat, i ≤ l.length ∧ n1 = l.length - i ∧ σ = (⟨[.one (.d (.sl 2 (l.map Kern.c))), .one (.d (.sl 2 (l.map Kern.c))), .junk, .junk, .junk, .di .i64 i, .junk, .junk, .junk, .junk, .junk, .junk, .junk, .junk, .junk, .junk, .junk, .junk, .junk, .junk, .junk, .junk, .junk, .junk, .junk, .junk, .junk], []⟩ : St), ?_, ?_⟩
    · refine ⟨l.length, ?_⟩
      conv => whnf
      exact ⟨0, by omega, by omega, rfl⟩
    · rintro n1 _ ⟨i, hi, rfl, rfl⟩
      conv => whnf
      ((with_reducible refine And.intro (fun (e : (_ : Bool) = true) => ?_) (fun (e : (_ : Bool) = false) => ?_)) <;> (try simp only [reduceCtorEq, ints_len, bools_len, Bool.not_false, Bool.not_true, List.length_map, decide_eq_true_eq, decide_eq_false_iff_not, Bool.not_eq_true', Bool.not_eq_false', Bool.and_eq_true, Bool.or_eq_true, Bool.and_eq_false_iff, Bool.or_eq_false_iff, beq_iff_eq, bne_iff_ne, beq_eq_false_iff_ne, bne_eq_false_iff_eq, Int.not_lt, Int.not_le, ge_iff_le, gt_iff_lt, not_or, not_and, Bool.cond_true_right, Bool.cond_true_left, Bool.cond_false_right, Bool.cond_false_left, bif_t, bif_f] at e) <;> (conv => whnf))
      · obtain ⟨x, hx⟩ := get_lt (l := l) (i := i) (by omega)
        have hb := kernsBulk_get hx
        (refine ⟨_, And.intro ⟨by omega, enc_get hx⟩ ?_⟩; (conv => whnf))
        obtain ⟨xe, xs⟩ := x
        conv => whnf
        (refine ⟨_, And.intro ⟨by omega, enc_get hx⟩ ?_⟩; (conv => whnf))
        (refine ⟨[], false, false, ?_⟩; (conv => whnf); refine ⟨_, _, ⟨⟨xe, xs⟩, rfl, rfl, by omega, rfl, rfl⟩, ?_⟩; (conv => whnf))
        ((first | refine And.intro (fun _ => ?_) (fun h => absurd h (by decide)) | refine And.intro (fun h => absurd h (by decide)) (fun _ => ?_)); (conv => whnf))
        (refine And.intro ?_ ?_; ((first | (with_reducible assumption) | (intro _; with_reducible assumption) | omega | (simp only [reduceCtorEq, ints_len, bools_len, Bool.not_false, Bool.not_true, List.length_map, decide_eq_true_eq, decide_eq_false_iff_not, Bool.not_eq_true', Bool.not_eq_false', Bool.and_eq_true, Bool.or_eq_true, Bool.and_eq_false_iff, Bool.or_eq_false_iff, beq_iff_eq, bne_iff_ne, beq_eq_false_iff_ne, bne_eq_false_iff_eq, Int.not_lt, Int.not_le, ge_iff_le, gt_iff_lt, not_or, not_and, Bool.cond_true_right, Bool.cond_true_left, Bool.cond_false_right, Bool.cond_false_left, bif_t, bif_f] at *; omega) | (intro hg; (try simp only [reduceCtorEq, ints_len, bools_len, Bool.not_false, Bool.not_true, List.length_map, decide_eq_true_eq, decide_eq_false_iff_not, Bool.not_eq_true', Bool.not_eq_false', Bool.and_eq_true, Bool.or_eq_true, Bool.and_eq_false_iff, Bool.or_eq_false_iff, beq_iff_eq, bne_iff_ne, beq_eq_false_iff_ne, bne_eq_false_iff_eq, Int.not_lt, Int.not_le, ge_iff_le, gt_iff_lt, not_or, not_and, Bool.cond_true_right, Bool.cond_true_left, Bool.cond_false_right, Bool.cond_false_left, bif_t, bif_f] at hg); first | (with_reducible assumption) | omega | (simp only [reduceCtorEq, ints_len, bools_len, Bool.not_false, Bool.not_true, List.length_map, decide_eq_true_eq, decide_eq_false_iff_not, Bool.not_eq_true', Bool.not_eq_false', Bool.and_eq_true, Bool.or_eq_true, Bool.and_eq_false_iff, Bool.or_eq_false_iff, beq_iff_eq, bne_iff_ne, beq_eq_false_iff_ne, bne_eq_false_iff_eq, Int.not_lt, Int.not_le, ge_iff_le, gt_iff_lt, not_or, not_and, Bool.cond_true_right, Bool.cond_true_left, Bool.cond_false_right, Bool.cond_false_left, bif_t, bif_f] at *; omega) | (refine ⟨?_, ?_⟩ <;> omega)) | (refine ⟨?_, ?_⟩ <;> omega) | (simp [*]; done) | grind)); (conv => whnf))
        refine ⟨l.length - (i + 1), by omega, [], ?_⟩
        conv => whnf
        exact ⟨i + 1, by omega, rfl, rfl⟩
      · (refine ⟨[], ?_⟩; (conv => whnf); refine ⟨[], .nil, .nil, ?_⟩; (conv => whnf))
end Go.Proofs.Ytahdihhhankhdaa.V
-- Vfg
namespace Go.Proofs.Ytahdihhhankhdaa.V
open Go.Proofs.YtahdihhhankhdaaVY Go.RowKit
def setS (to fr base : Int) : ASet := ⟨⟨to, 0, [1]⟩, [], .mk ⟨#[108, 111, 97, 100]⟩ 1 0 ⟨fr, base, [1]⟩ []⟩
def KA : Kern := ⟨[4], [setS 0 1 0]⟩
def KB : Kern := ⟨[4], [setS 2 0 1]⟩
def KC : Kern := ⟨[4], [setS 2 0 0]⟩
def R81 : Ct := fun ss hp r out => ∃ (a b c : Int), ss = [.di .i64 a, .di .i64 b, .di .i64 c] ∧ hp = [] ∧ r = .v (.ag ((setS a b c).c.map .d)) ∧ out = []
set_option maxHeartbeats 4000000 in
theorem ok81 : VSound Try.prog (81, R81) := by
  refine vsound (T := ty) (F := []) (pl := []) (nw := true) (cuts := []) mix tyOk .nil Try.func81 (by kernel_rfl) (by kernel_rfl) ?_
  rintro _ _ _ _ ⟨a, b, c, rfl, rfl, rfl, rfl⟩
  conv => whnf
  refine ⟨[], ?_⟩
  conv => whnf
  refine ⟨[], .nil, .nil, ?_⟩
  exact .cons rfl (.cons rfl (.cons (.inl ⟨rfl, by simp⟩) (.cons ⟨rfl, rfl⟩ (.cons rfl (.cons rfl (.cons rfl (.cons rfl (.cons rfl (.cons (.inl ⟨rfl, by simp⟩) (.cons ⟨rfl, rfl⟩ .nil))))))))))
theorem ab_why : whyR KA KB = flowB := by decide +kernel
theorem ab_err : askErr KA KB = 0 := by decide +kernel
theorem ac_may : mayB KA KC = true := by decide +kernel
theorem ac_err : askErr KA KC = 0 := by decide +kernel
def R42 : Ct := fun ss hp r out => ss = [] ∧ hp = [] ∧ r = .db true ∧ out = []
set_option maxHeartbeats 4000000 in
theorem ok42 : VSound Try.prog (42, R42) := by
  refine vsound (T := ty) (F := [(43, R43), (45, R45), (81, R81)]) (pl := []) (nw := true) (cuts := []) mix tyOk (.cons (ok43) (.cons (ok45) (.cons (ok81) .nil))) Try.func42 (by kernel_rfl) (by kernel_rfl) ?_
  rintro _ _ _ _ ⟨rfl, rfl, rfl, rfl⟩
  conv => whnf
  (refine ⟨[], false, false, ?_⟩; (conv => whnf); refine ⟨_, _, ⟨0, 1, 0, rfl, rfl, rfl, rfl⟩, ?_⟩; (conv => whnf))
  (refine ⟨[], false, false, ?_⟩; (conv => whnf); refine ⟨_, _, ⟨2, 0, 1, rfl, rfl, rfl, rfl⟩, ?_⟩; (conv => whnf))
  (refine ⟨[], false, false, ?_⟩; (conv => whnf); refine ⟨_, _, ⟨2, 0, 0, rfl, rfl, rfl, rfl⟩, ?_⟩; (conv => whnf))
  refine ⟨[], false, true, ?_⟩
  conv => whnf
  refine ⟨_, _, ⟨KA, KB, rfl, rfl, by decide +kernel, by decide +kernel, rfl, rfl⟩, ?_⟩
  rw [ab_why, ab_err]
  conv => whnf
  refine ⟨[], false, true, ?_⟩
  conv => whnf
  refine ⟨_, _, ⟨KA, KC, rfl, rfl, by decide +kernel, by decide +kernel, rfl, rfl⟩, ?_⟩
  rw [ac_may, ac_err]
  conv => whnf
  rw [show (flowB.toList == (ByteArray.mk #[102, 108, 111, 119]).toList) = true from by decide +kernel]
  repeat ((first | with_reducible refine And.intro (fun h => h) ?_ | refine And.intro (fun _ => rfl) ?_); conv => whnf)
  (refine ⟨[], ?_⟩; (conv => whnf); refine ⟨[], .nil, .nil, ?_⟩; (conv => whnf))
  rfl
end Go.Proofs.Ytahdihhhankhdaa.V
-- Vfr
namespace Go.Proofs.Ytahdihhhankhdaa.V
open Go.Proofs.YtahdihhhankhdaaVY Go.RowKit
theorem splitOf_bulk (k : Kern) : kernsBulk (splitOf k) ≤ 4 * 8 + k.bulk := by
  unfold splitOf
  split
  · rename_i h
    obtain ⟨h1, h2, h3, _⟩ := (isKern_iff k).1 h
    have h4 := many_prod h1
    have h5 := (splitW_bulk _ k 1 (Nat.le_refl _) h2).1
    have h6 : (k.ext.length + 1) * k.sets.length ≤ 4 * 8 := Nat.mul_le_mul (by omega) h3
    rw [Kern.bulk]; omega
  · simp [kernsBulk]
def R13 : Ct := fun ss hp r out => ∃ (k : Kern) (c : Int), ss = [.v (.ag (k.c.map .d)), .di .i64 c] ∧ hp = [] ∧ k.bulk ≤ 2097152 ∧ r = .db true ∧ out = []
set_option maxHeartbeats 4000000 in
theorem ok13 : VSound Try.prog (13, R13) := by
  refine vsound (T := ty) (F := [(15, R15), (42, R42), (52, R52), (53, R53), (54, R53), (55, R55), (56, R55)]) (pl := []) (nw := true) (cuts := []) mix tyOk (.cons (ok15) (.cons (ok42) (.cons (ok52) (.cons (ok53) (.cons (ok54) (.cons (ok55) (.cons (ok56) .nil))))))) Try.func13 (by kernel_rfl) (by kernel_rfl) ?_
  rintro _ _ _ _ ⟨⟨ext, sets⟩, c, rfl, rfl, hm, rfl, rfl⟩
  have hbk := splitOf_bulk ⟨ext, sets⟩
  conv => whnf
  (refine ⟨[], false, false, ?_⟩; (conv => whnf); refine ⟨_, _, ⟨⟨ext, sets⟩, rfl, rfl, by omega, rfl, rfl⟩, ?_⟩; (conv => whnf))
  ((with_reducible refine And.intro (fun (e : (_ : Bool) = true) => ?_) (fun (e : (_ : Bool) = false) => ?_)) <;> (try simp only [reduceCtorEq, ints_len, bools_len, Bool.not_false, Bool.not_true, List.length_map, decide_eq_true_eq, decide_eq_false_iff_not, Bool.not_eq_true', Bool.not_eq_false', Bool.and_eq_true, Bool.or_eq_true, Bool.and_eq_false_iff, Bool.or_eq_false_iff, beq_iff_eq, bne_iff_ne, beq_eq_false_iff_ne, bne_eq_false_iff_eq, Int.not_lt, Int.not_le, ge_iff_le, gt_iff_lt, not_or, not_and, Bool.cond_true_right, Bool.cond_true_left, Bool.cond_false_right, Bool.cond_false_left, bif_t, bif_f] at e) <;> (conv => whnf))
  · (refine ⟨[], false, false, ?_⟩; (conv => whnf); refine ⟨_, _, ⟨rfl, rfl, rfl, rfl⟩, ?_⟩; (conv => whnf))
    (refine ⟨[], ?_⟩; (conv => whnf); refine ⟨[], .nil, .nil, ?_⟩; (conv => whnf))
  · (refine ⟨[], false, false, ?_⟩; (conv => whnf); refine ⟨_, _, ⟨⟨ext, sets⟩, c, rfl, rfl, by omega, rfl, rfl⟩, ?_⟩; (conv => whnf))
    (refine ⟨[], false, false, ?_⟩; (conv => whnf); refine ⟨_, _, ⟨⟨ext, sets⟩, c, rfl, rfl, by omega, rfl, rfl⟩, ?_⟩; (conv => whnf))
    (refine ⟨[], false, false, ?_⟩; (conv => whnf); refine ⟨_, _, ⟨⟨ext, sets⟩, rfl, rfl, by omega, rfl, rfl⟩, ?_⟩; (conv => whnf))
    (refine ⟨[], false, false, ?_⟩; (conv => whnf); refine ⟨_, _, ⟨⟨ext, sets⟩, rfl, rfl, by omega, rfl, rfl⟩, ?_⟩; (conv => whnf))
    generalize splitOf ⟨ext, sets⟩ = KS at *
    generalize (splitOk ⟨ext, sets⟩ c && cutsB ⟨ext, sets⟩ c.toNat) = B1
    generalize (if splitOk ⟨ext, sets⟩ c = true then (0 : Int) else 2) = E1
    generalize splitErr ⟨ext, sets⟩ = E2
    (repeat' (first | ((with_reducible refine And.intro (fun (e : (_ : Bool) = true) => ?_) (fun (e : (_ : Bool) = false) => ?_)) <;> (try simp only [reduceCtorEq, ints_len, bools_len, Bool.not_false, Bool.not_true, List.length_map, decide_eq_true_eq, decide_eq_false_iff_not, Bool.not_eq_true', Bool.not_eq_false', Bool.and_eq_true, Bool.or_eq_true, Bool.and_eq_false_iff, Bool.or_eq_false_iff, beq_iff_eq, bne_iff_ne, beq_eq_false_iff_ne, bne_eq_false_iff_eq, Int.not_lt, Int.not_le, ge_iff_le, gt_iff_lt, not_or, not_and, Bool.cond_true_right, Bool.cond_true_left, Bool.cond_false_right, Bool.cond_false_left, bif_t, bif_f] at e) <;> (conv => whnf)) | ((with_reducible refine And.intro (fun (e : (_ : Bool) = false) => ?_) (fun (e : (_ : Bool) = true) => ?_)) <;> (try simp only [reduceCtorEq, ints_len, bools_len, Bool.not_false, Bool.not_true, List.length_map, decide_eq_true_eq, decide_eq_false_iff_not, Bool.not_eq_true', Bool.not_eq_false', Bool.and_eq_true, Bool.or_eq_true, Bool.and_eq_false_iff, Bool.or_eq_false_iff, beq_iff_eq, bne_iff_ne, beq_eq_false_iff_ne, bne_eq_false_iff_eq, Int.not_lt, Int.not_le, ge_iff_le, gt_iff_lt, not_or, not_and, Bool.cond_true_right, Bool.cond_true_left, Bool.cond_false_right, Bool.cond_false_left, bif_t, bif_f] at e) <;> (conv => whnf)) | (refine And.intro ?_ ?_; ((first | (with_reducible assumption) | (intro _; with_reducible assumption) | omega | (simp only [reduceCtorEq, ints_len, bools_len, Bool.not_false, Bool.not_true, List.length_map, decide_eq_true_eq, decide_eq_false_iff_not, Bool.not_eq_true', Bool.not_eq_false', Bool.and_eq_true, Bool.or_eq_true, Bool.and_eq_false_iff, Bool.or_eq_false_iff, beq_iff_eq, bne_iff_ne, beq_eq_false_iff_ne, bne_eq_false_iff_eq, Int.not_lt, Int.not_le, ge_iff_le, gt_iff_lt, not_or, not_and, Bool.cond_true_right, Bool.cond_true_left, Bool.cond_false_right, Bool.cond_false_left, bif_t, bif_f] at *; omega) | (intro hg; (try simp only [reduceCtorEq, ints_len, bools_len, Bool.not_false, Bool.not_true, List.length_map, decide_eq_true_eq, decide_eq_false_iff_not, Bool.not_eq_true', Bool.not_eq_false', Bool.and_eq_true, Bool.or_eq_true, Bool.and_eq_false_iff, Bool.or_eq_false_iff, beq_iff_eq, bne_iff_ne, beq_eq_false_iff_ne, bne_eq_false_iff_eq, Int.not_lt, Int.not_le, ge_iff_le, gt_iff_lt, not_or, not_and, Bool.cond_true_right, Bool.cond_true_left, Bool.cond_false_right, Bool.cond_false_left, bif_t, bif_f] at hg); first | (with_reducible assumption) | omega | (simp only [reduceCtorEq, ints_len, bools_len, Bool.not_false, Bool.not_true, List.length_map, decide_eq_true_eq, decide_eq_false_iff_not, Bool.not_eq_true', Bool.not_eq_false', Bool.and_eq_true, Bool.or_eq_true, Bool.and_eq_false_iff, Bool.or_eq_false_iff, beq_iff_eq, bne_iff_ne, beq_eq_false_iff_ne, bne_eq_false_iff_eq, Int.not_lt, Int.not_le, ge_iff_le, gt_iff_lt, not_or, not_and, Bool.cond_true_right, Bool.cond_true_left, Bool.cond_false_right, Bool.cond_false_left, bif_t, bif_f] at *; omega) | (refine ⟨?_, ?_⟩ <;> omega)) | (refine ⟨?_, ?_⟩ <;> omega) | (simp [*]; done) | grind)); (conv => whnf))))
    · (refine ⟨[], false, false, ?_⟩; (conv => whnf); refine ⟨_, _, ⟨KS, rfl, rfl, by omega, rfl, rfl⟩, ?_⟩; (conv => whnf))
      (repeat' (first | ((with_reducible refine And.intro (fun (e : (_ : Bool) = true) => ?_) (fun (e : (_ : Bool) = false) => ?_)) <;> (try simp only [reduceCtorEq, ints_len, bools_len, Bool.not_false, Bool.not_true, List.length_map, decide_eq_true_eq, decide_eq_false_iff_not, Bool.not_eq_true', Bool.not_eq_false', Bool.and_eq_true, Bool.or_eq_true, Bool.and_eq_false_iff, Bool.or_eq_false_iff, beq_iff_eq, bne_iff_ne, beq_eq_false_iff_ne, bne_eq_false_iff_eq, Int.not_lt, Int.not_le, ge_iff_le, gt_iff_lt, not_or, not_and, Bool.cond_true_right, Bool.cond_true_left, Bool.cond_false_right, Bool.cond_false_left, bif_t, bif_f] at e) <;> (conv => whnf)) | ((with_reducible refine And.intro (fun (e : (_ : Bool) = false) => ?_) (fun (e : (_ : Bool) = true) => ?_)) <;> (try simp only [reduceCtorEq, ints_len, bools_len, Bool.not_false, Bool.not_true, List.length_map, decide_eq_true_eq, decide_eq_false_iff_not, Bool.not_eq_true', Bool.not_eq_false', Bool.and_eq_true, Bool.or_eq_true, Bool.and_eq_false_iff, Bool.or_eq_false_iff, beq_iff_eq, bne_iff_ne, beq_eq_false_iff_ne, bne_eq_false_iff_eq, Int.not_lt, Int.not_le, ge_iff_le, gt_iff_lt, not_or, not_and, Bool.cond_true_right, Bool.cond_true_left, Bool.cond_false_right, Bool.cond_false_left, bif_t, bif_f] at e) <;> (conv => whnf)) | (refine And.intro ?_ ?_; ((first | (with_reducible assumption) | (intro _; with_reducible assumption) | omega | (simp only [reduceCtorEq, ints_len, bools_len, Bool.not_false, Bool.not_true, List.length_map, decide_eq_true_eq, decide_eq_false_iff_not, Bool.not_eq_true', Bool.not_eq_false', Bool.and_eq_true, Bool.or_eq_true, Bool.and_eq_false_iff, Bool.or_eq_false_iff, beq_iff_eq, bne_iff_ne, beq_eq_false_iff_ne, bne_eq_false_iff_eq, Int.not_lt, Int.not_le, ge_iff_le, gt_iff_lt, not_or, not_and, Bool.cond_true_right, Bool.cond_true_left, Bool.cond_false_right, Bool.cond_false_left, bif_t, bif_f] at *; omega) | (intro hg; (try simp only [reduceCtorEq, ints_len, bools_len, Bool.not_false, Bool.not_true, List.length_map, decide_eq_true_eq, decide_eq_false_iff_not, Bool.not_eq_true', Bool.not_eq_false', Bool.and_eq_true, Bool.or_eq_true, Bool.and_eq_false_iff, Bool.or_eq_false_iff, beq_iff_eq, bne_iff_ne, beq_eq_false_iff_ne, bne_eq_false_iff_eq, Int.not_lt, Int.not_le, ge_iff_le, gt_iff_lt, not_or, not_and, Bool.cond_true_right, Bool.cond_true_left, Bool.cond_false_right, Bool.cond_false_left, bif_t, bif_f] at hg); first | (with_reducible assumption) | omega | (simp only [reduceCtorEq, ints_len, bools_len, Bool.not_false, Bool.not_true, List.length_map, decide_eq_true_eq, decide_eq_false_iff_not, Bool.not_eq_true', Bool.not_eq_false', Bool.and_eq_true, Bool.or_eq_true, Bool.and_eq_false_iff, Bool.or_eq_false_iff, beq_iff_eq, bne_iff_ne, beq_eq_false_iff_ne, bne_eq_false_iff_eq, Int.not_lt, Int.not_le, ge_iff_le, gt_iff_lt, not_or, not_and, Bool.cond_true_right, Bool.cond_true_left, Bool.cond_false_right, Bool.cond_false_left, bif_t, bif_f] at *; omega) | (refine ⟨?_, ?_⟩ <;> omega)) | (refine ⟨?_, ?_⟩ <;> omega) | (simp [*]; done) | grind)); (conv => whnf))))
      · (refine ⟨[], false, false, ?_⟩; (conv => whnf); refine ⟨_, _, ⟨rfl, rfl, rfl, rfl⟩, ?_⟩; (conv => whnf))
        (repeat' (first | ((with_reducible refine And.intro (fun (e : (_ : Bool) = true) => ?_) (fun (e : (_ : Bool) = false) => ?_)) <;> (try simp only [reduceCtorEq, ints_len, bools_len, Bool.not_false, Bool.not_true, List.length_map, decide_eq_true_eq, decide_eq_false_iff_not, Bool.not_eq_true', Bool.not_eq_false', Bool.and_eq_true, Bool.or_eq_true, Bool.and_eq_false_iff, Bool.or_eq_false_iff, beq_iff_eq, bne_iff_ne, beq_eq_false_iff_ne, bne_eq_false_iff_eq, Int.not_lt, Int.not_le, ge_iff_le, gt_iff_lt, not_or, not_and, Bool.cond_true_right, Bool.cond_true_left, Bool.cond_false_right, Bool.cond_false_left, bif_t, bif_f] at e) <;> (conv => whnf)) | ((with_reducible refine And.intro (fun (e : (_ : Bool) = false) => ?_) (fun (e : (_ : Bool) = true) => ?_)) <;> (try simp only [reduceCtorEq, ints_len, bools_len, Bool.not_false, Bool.not_true, List.length_map, decide_eq_true_eq, decide_eq_false_iff_not, Bool.not_eq_true', Bool.not_eq_false', Bool.and_eq_true, Bool.or_eq_true, Bool.and_eq_false_iff, Bool.or_eq_false_iff, beq_iff_eq, bne_iff_ne, beq_eq_false_iff_ne, bne_eq_false_iff_eq, Int.not_lt, Int.not_le, ge_iff_le, gt_iff_lt, not_or, not_and, Bool.cond_true_right, Bool.cond_true_left, Bool.cond_false_right, Bool.cond_false_left, bif_t, bif_f] at e) <;> (conv => whnf)) | (refine And.intro ?_ ?_; ((first | (with_reducible assumption) | (intro _; with_reducible assumption) | omega | (simp only [reduceCtorEq, ints_len, bools_len, Bool.not_false, Bool.not_true, List.length_map, decide_eq_true_eq, decide_eq_false_iff_not, Bool.not_eq_true', Bool.not_eq_false', Bool.and_eq_true, Bool.or_eq_true, Bool.and_eq_false_iff, Bool.or_eq_false_iff, beq_iff_eq, bne_iff_ne, beq_eq_false_iff_ne, bne_eq_false_iff_eq, Int.not_lt, Int.not_le, ge_iff_le, gt_iff_lt, not_or, not_and, Bool.cond_true_right, Bool.cond_true_left, Bool.cond_false_right, Bool.cond_false_left, bif_t, bif_f] at *; omega) | (intro hg; (try simp only [reduceCtorEq, ints_len, bools_len, Bool.not_false, Bool.not_true, List.length_map, decide_eq_true_eq, decide_eq_false_iff_not, Bool.not_eq_true', Bool.not_eq_false', Bool.and_eq_true, Bool.or_eq_true, Bool.and_eq_false_iff, Bool.or_eq_false_iff, beq_iff_eq, bne_iff_ne, beq_eq_false_iff_ne, bne_eq_false_iff_eq, Int.not_lt, Int.not_le, ge_iff_le, gt_iff_lt, not_or, not_and, Bool.cond_true_right, Bool.cond_true_left, Bool.cond_false_right, Bool.cond_false_left, bif_t, bif_f] at hg); first | (with_reducible assumption) | omega | (simp only [reduceCtorEq, ints_len, bools_len, Bool.not_false, Bool.not_true, List.length_map, decide_eq_true_eq, decide_eq_false_iff_not, Bool.not_eq_true', Bool.not_eq_false', Bool.and_eq_true, Bool.or_eq_true, Bool.and_eq_false_iff, Bool.or_eq_false_iff, beq_iff_eq, bne_iff_ne, beq_eq_false_iff_ne, bne_eq_false_iff_eq, Int.not_lt, Int.not_le, ge_iff_le, gt_iff_lt, not_or, not_and, Bool.cond_true_right, Bool.cond_true_left, Bool.cond_false_right, Bool.cond_false_left, bif_t, bif_f] at *; omega) | (refine ⟨?_, ?_⟩ <;> omega)) | (refine ⟨?_, ?_⟩ <;> omega) | (simp [*]; done) | grind)); (conv => whnf))))
        all_goals ((refine ⟨[], ?_⟩; (conv => whnf); refine ⟨[], .nil, .nil, ?_⟩; (conv => whnf)); congr 1; simp)
      all_goals first
      | (exfalso; simp at e; done)
      | (exfalso; rename_i e9; simp at e9; done)
      | (exfalso; rename_i e9 _; simp at e9; done)
      | (exfalso; simp_all; done)
    all_goals first
    | (exfalso; simp at e; done)
    | (exfalso; rename_i e9; simp at e9; done)
    | (exfalso; rename_i e9 _; simp at e9; done)
    | (exfalso; simp_all; done)
end Go.Proofs.Ytahdihhhankhdaa.V
-- Vacc
namespace Go.Proofs.Ytahdihhhankhdaa.V
open Go.Proofs.YtahdihhhankhdaaVY Go.RowKit
theorem bulkAll_sum {H : Type} : ∀ l : List (DataW H), Rows.uptoBulkAll l = (l.map Rows.uptoBulk).sum
  | [] => by simp [Rows.uptoBulkAll]
  | d :: l => by rw [Rows.uptoBulkAll, bulkAll_sum l, List.map_cons, List.sum_cons]
theorem meas {H : Type} : Meas (H := H) Rows.uptoBulk where
  lit x := by cases x <;> simp [Rows.uptoBulk]
  str b := by simp [Rows.uptoBulk]
  nil := by simp [Rows.uptoBulk]
  slice es sp := by rw [Rows.uptoBulk, bulkAll_sum]; omega
  agg ps := by rw [Rows.uptoBulk, bulkAll_sum]; omega
theorem small_bd {H : Type} {ds : List (DataW H)} (h : Rows.uptoSmall H ds = true) : (ds.map Rows.uptoBulk).sum ≤ 1048576 := by
  rw [← bulkAll_sum]
  exact of_decide_eq_true h
theorem all2_map {α : Type} {enc : α → List D} {Q : List D → Prop} {B : α → Nat} {L : List (List D)} (h : ∀ e ∈ L, ∃ x, e = enc x ∧ B x ≤ dBs e) : ∃ l : List α, L = l.map enc ∧ (l.map B).sum ≤ dBL L := by
  induction L with
  | nil => exact ⟨[], rfl, Nat.zero_le _⟩
  | cons e L ih =>
    obtain ⟨b, rfl, hb⟩ := h e (List.mem_cons_self ..)
    obtain ⟨l, rfl, hl⟩ := ih fun x hx => h x (List.mem_cons_of_mem _ hx)
    exact ⟨b :: l, rfl, by rw [List.map_cons, List.sum_cons, dBL]; omega⟩
theorem sum_one {α : Type} : ∀ l : List α, (l.map fun _ => 1).sum = l.length
  | [] => rfl
  | x :: l => by rw [List.map_cons, List.sum_cons, sum_one l, List.length_cons, Nat.add_comm]
theorem sh_ints {m : Nat} {l : List D} (h : Sh Try.prog m 22 l) : ∃ x : List Int, l = [.sl 1 (x.map inC)] ∧ x.length + 1 ≤ dBs l := by
  obtain ⟨m', L, _, rfl, _, hL⟩ := sh_slice Try.underlying22 h
  obtain ⟨x, rfl, hx⟩ := all2_map (Q := fun _ => True) (enc := inC) (B := fun _ => 1) fun e he => by
    obtain ⟨n, hn, _⟩ := sh_int Try.underlying3 (hL e he)
    exact ⟨n, hn, by rw [hn]; simp [dBs, dB]⟩
  rw [sum_one] at hx
  exact ⟨x, by rw [show Try.prog.cellsOf 3 = 1 by kernel_rfl], by simp only [dBs, dB, Nat.add_zero]; omega⟩
end Go.Proofs.Ytahdihhhankhdaa.V
-- Vac
namespace Go.Proofs.Ytahdihhhankhdaa.V
open Go.Proofs.YtahdihhhankhdaaVY Go.RowKit
theorem sh_ref {m : Nat} {l : List D} (h : Sh Try.prog m 71 l) : ∃ x : Ref, l = x.c ∧ x.str.length + 3 ≤ dBs l := by
  obtain ⟨m', parts, _, rfl, hp⟩ := sh_struct Try.underlying71 h
  cases hp with
  | cons h1 hp =>
  cases hp with
  | cons h2 hp =>
  cases hp with
  | cons h3 hp =>
  cases hp
  obtain ⟨a, rfl, _⟩ := sh_int Try.underlying3 h1
  obtain ⟨b, rfl, _⟩ := sh_int Try.underlying3 h2
  obtain ⟨s, rfl, hs⟩ := sh_ints h3
  refine ⟨⟨a, b, s⟩, rfl, ?_⟩
  simp only [List.flatten_cons, List.flatten_nil, List.append_nil, dBs_app]
  have e1 : dBs [D.int .i64 a] = 1 := by simp [dBs, dB]
  have e2 : dBs [D.int .i64 b] = 1 := by simp [dBs, dB]
  simp only [e1, e2]
  omega
theorem treesBulk_sum : ∀ l : List Tree, treesBulk l = (l.map Tree.bulk).sum
  | [] => rfl
  | t :: l => by rw [treesBulk, treesBulk_sum l, List.map_cons, List.sum_cons]
theorem sh_tree : ∀ (m : Nat) {l : List D}, Sh Try.prog m 74 l → ∃ t : Tree, l = t.c ∧ t.bulk ≤ dBs l := by
  intro m
  induction m using Nat.strongRecOn with
  | _ m ih =>
  intro l h
  obtain ⟨m', parts, rfl, rfl, hp⟩ := sh_struct Try.underlying74 h
  cases hp with
  | cons h1 hp =>
  cases hp with
  | cons h2 hp =>
  cases hp with
  | cons h3 hp =>
  cases hp with
  | cons h4 hp =>
  cases hp with
  | cons h5 hp =>
  cases hp
  obtain ⟨op, rfl, _⟩ := sh_str Try.underlying9 h1
  obtain ⟨kind, rfl, _⟩ := sh_int Try.underlying3 h2
  obtain ⟨n, rfl, _⟩ := sh_int Try.underlying3 h3
  obtain ⟨r, rfl, hr⟩ := sh_ref h4
  obtain ⟨m2, L, rfl, rfl, _, hL⟩ := sh_slice Try.underlying72 h5
  obtain ⟨kids, rfl, hk⟩ := all2_map (Q := fun _ => True) (enc := Tree.c) (B := Tree.bulk) fun e he => ih m2 (by omega) (hL e he)
  refine ⟨.mk op kind n r kids, ?_, ?_⟩
  · rw [show Try.prog.cellsOf 74 = 7 by kernel_rfl, Tree.c, treesC_map]; rfl
  · rw [← treesBulk_sum] at hk
    simp only [List.flatten_cons, List.flatten_nil, List.append_nil, dBs_app]
    have e1 : dBs [D.int .i64 kind] = 1 := by simp [dBs, dB]
    have e2 : dBs [D.sl (Try.prog.cellsOf 74) (kids.map Tree.c)] = dBL (kids.map Tree.c) + 1 := by simp [dBs, dB]
    rw [Tree.bulk]
    simp only [e1, e2]
    omega
theorem sh_trees {m : Nat} {l : List D} (h : Sh Try.prog m 72 l) : ∃ x : List Tree, l = [.sl 7 (x.map Tree.c)] ∧ treesBulk x + 1 ≤ dBs l := by
  obtain ⟨m', L, _, rfl, _, hL⟩ := sh_slice Try.underlying72 h
  obtain ⟨x, rfl, hx⟩ := all2_map (Q := fun _ => True) (enc := Tree.c) (B := Tree.bulk) fun e he => sh_tree m' (hL e he)
  rw [← treesBulk_sum] at hx
  exact ⟨x, by rw [show Try.prog.cellsOf 74 = 7 by kernel_rfl], by simp only [dBs, dB, Nat.add_zero]; omega⟩
theorem sh_set {m : Nat} {l : List D} (h : Sh Try.prog m 76 l) : ∃ s : ASet, l = s.c ∧ s.bulk ≤ dBs l := by
  obtain ⟨m', parts, _, rfl, hp⟩ := sh_struct Try.underlying76 h
  cases hp with
  | cons h1 hp =>
  cases hp with
  | cons h2 hp =>
  cases hp with
  | cons h3 hp =>
  cases hp
  obtain ⟨to, rfl, ht⟩ := sh_ref h1
  obtain ⟨mask, rfl, hm⟩ := sh_trees h2
  obtain ⟨v, rfl, hv⟩ := sh_tree _ h3
  refine ⟨⟨to, mask, v⟩, ?_, ?_⟩
  · simp [ASet.c]
  · simp only [List.flatten_cons, List.flatten_nil, List.append_nil, dBs_app]
    rw [ASet.bulk]
    simp only
    omega
theorem setsBulk_sum : ∀ l : List ASet, setsBulk l = (l.map ASet.bulk).sum
  | [] => rfl
  | t :: l => by rw [setsBulk, setsBulk_sum l, List.map_cons, List.sum_cons]
theorem sh_kern {m : Nat} {l : List D} (h : Sh Try.prog m 25 l) : ∃ k : Kern, l = k.c ∧ k.bulk + 1 ≤ dBs l := by
  obtain ⟨m', parts, _, rfl, hp⟩ := sh_struct Try.underlying25 h
  cases hp with
  | cons h1 hp =>
  cases hp with
  | cons h2 hp =>
  cases hp
  obtain ⟨ext, rfl, he⟩ := sh_ints h1
  obtain ⟨m2, L, _, rfl, _, hL⟩ := sh_slice Try.underlying23 h2
  obtain ⟨sets, rfl, hs⟩ := all2_map (Q := fun _ => True) (enc := ASet.c) (B := ASet.bulk) fun e he => sh_set (hL e he)
  rw [← setsBulk_sum] at hs
  refine ⟨⟨ext, sets⟩, ?_, ?_⟩
  · rw [show Try.prog.cellsOf 76 = 11 by kernel_rfl]; rfl
  · simp only [List.flatten_cons, List.flatten_nil, List.append_nil, dBs_app]
    have e2 : dBs [D.sl (Try.prog.cellsOf 76) (sets.map ASet.c)] = dBL (sets.map ASet.c) + 1 := by simp [dBs, dB]
    rw [e2, Kern.bulk]
    simp only
    omega
end Go.Proofs.Ytahdihhhankhdaa.V
-- Vrow
namespace Go.Proofs.Ytahdihhhankhdaa.V
open Go.Proofs.YtahdihhhankhdaaVY Go.RowKit
theorem law_row {f : Nat} {R : Ct} (h : VSound Try.prog (f, R)) (he : enterB Try.prog f = true) {W : World} {args : Array Value} {ss : List S} (hG : GP (fun _ => False) W) (ha : All2 (SRel [] (fun _ => False) W) args.toList ss) (hR : R ss [] (.db true) []) :
    Calls Try.prog f args W fun e W' => e = .returned (.bool true) ∧ Below W.heap.size W W' := by
  have hn : ∀ b, ¬ Live [] [] b := by rintro b ⟨_, _, _, h, _⟩; simp at h
  have ha' : All2 (SRel [] (Av (fun _ => False) [] []) W) args.toList ss := ha.imp fun _ _ h => SRel.less (fun b hb => hb.elim id (hn b)) h
  have hp0 : HpRel (fun _ => False) [] [] W := ⟨rfl, fun _ _ _ h => by simp at h, fun _ _ _ _ _ _ _ h => by simp at h, fun b h => absurd h (hn b)⟩
  rcases h with ⟨ho, _⟩ | hx
  · refine (ho (fun _ => False) W args ss [] [] (.db true) [] hG (fun _ h => h.elim) hp0 (fun b h => absurd h (hn b)) ha' hR).mono ?_
    rintro e w' ⟨v, ρ, rfl, hs, hh, hg, hst, hsame, _⟩
    exact ⟨by rw [sdb_inv hs], hst.os, hst.tape, hst.output, hg, fun b hb => hsame b hb (hn b)⟩
  · obtain ⟨v, ρ, w', hrun, _⟩ := hx (fun _ => False) W args ss [] [] (.db true) [] hG (fun _ h => h.elim) hp0 ha' hR
    rw [run_enter (enterB_ok he) args] at hrun
    cases hrun
end Go.Proofs.Ytahdihhhankhdaa.V
