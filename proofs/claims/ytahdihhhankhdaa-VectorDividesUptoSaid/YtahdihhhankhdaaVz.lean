/-
  V: which lanes are right, by the reference; both sides agree. By the session's own hand.
-/
import Derived.Test.YtahdihhhankhdaaVx
set_option linter.unusedVariables false
set_option linter.unusedSimpArgs false
set_option maxRecDepth 100000
set_option linter.all false
set_option linter.unnecessarySimpa false
set_option linter.deprecated false
namespace Go.Proofs.Ytahdihhhankhdaa.V
open Go.Proofs.YtahdihhhankhdaaVY Go.RowKit
def rightRAt (k : Kern) (lanes : Int) (s t : Nat) : Bool := match k.sets[s]?, k.sets[t]? with
  | some S0, some T0 => !(T0.loads.any fun r => hits k.ext lanes S0.to r) && (decide (s = t) || (!hits k.ext lanes S0.to T0.to && !(S0.loads.any fun r => hits k.ext lanes r T0.to)))
  | _, _ => true
def rightR (k : Kern) (lanes : Int) : Bool := (List.range k.sets.length).all fun s => (List.range (s + 1)).all fun t => rightRAt k lanes s t
theorem rightR_iff {k : Kern} {lanes : Int} : rightR k lanes = true ↔ ∀ s < k.sets.length, ∀ t ≤ s, rightRAt k lanes s t = true := by
  unfold rightR
  simp only [List.all_eq_true, List.mem_range, Nat.lt_succ_iff]
theorem right_iff {k : Kern} {lanes : Int} : right k lanes = true ↔ ∀ s < k.sets.length, ∀ t < k.sets.length, rightAt k lanes s t = true := by
  unfold right
  simp only [List.all_eq_true, List.mem_range]
theorem rightR_not {k : Kern} {lanes : Int} {s t : Nat} (hs : s < k.sets.length) (ht : t ≤ s) (h : rightRAt k lanes s t = false) : rightR k lanes = false :=
  Bool.eq_false_iff.2 fun hr => by rw [rightR_iff.1 hr s hs t ht] at h; cases h
def R63 : Ct := fun ss hp r out => ∃ (k : Kern) (lanes : Int), ss = [.v (.ag (k.c.map .d)), .di .i64 lanes] ∧ hp = [] ∧ k.bulk ≤ 4194304 ∧ isKern k = true ∧ 1 ≤ lanes ∧ r = .db (rightR k lanes) ∧ out = []
set_option maxHeartbeats 4000000 in
theorem ok63 : VSound Try.prog (63, R63) := by
  refine vsound (T := ty) (F := [(99, R99), (101, R101)]) (pl := [(7, [[], [0], [], [0, 1, 2], [0, 1, 2, 3], [], [5], [], [5, 6, 7], [5, 6, 7, 8], [], [], [0, 1, 2, 3, 4, 10, 11], [0, 1, 2, 3, 4, 5, 6, 7, 8, 9, 10, 11, 12]], .look 0 (.look 1 (.look 2 (.look 3 (.look 4 (.look 5 (.look 6 (.look 7 (.look 8 (.look 9 (.act 10 [0, 1, 2, 3, 4, 5, 6, 7, 8, 9] (.act 11 [0, 1, 2, 3, 4, 5, 6, 7, 8, 9] (.act 12 [5, 6, 7, 8, 9] (.act 13 [] .done .stop) .stop) .stop) (.act 11 [0, 1, 2, 3, 4, 5, 6, 7, 8, 9] (.act 10 [0, 1, 2, 3, 4, 5, 6, 7, 8, 9] (.act 12 [5, 6, 7, 8, 9] (.act 13 [] .done .stop) .stop) .stop) .stop)))))))))))), (12, [[], [0], [], [], [3], [], [], [5, 6], [5, 6, 7], [0, 1, 2, 3, 4, 5, 6, 7, 8]], .look 0 (.look 1 (.look 2 (.look 3 (.look 4 (.look 5 (.look 6 (.look 7 (.look 8 (.act 9 [] .done .stop)))))))))), (21, [[], [0], [], [], [], [3, 4], [3, 4, 5], [], [7], [0, 1, 2, 3, 4, 5, 6, 7, 8]], .look 0 (.look 1 (.look 2 (.look 3 (.look 4 (.look 5 (.look 6 (.look 7 (.look 8 (.act 9 [] .done .stop))))))))))]) (nw := true) (cuts := []) mix tyOk (.cons (ok99) (.cons (ok101) .nil)) Try.func63 (by kernel_rfl) (by kernel_rfl) ?_
  rintro _ _ _ _ ⟨⟨ext, sets⟩, lanes, rfl, rfl, hm, hk, hln, rfl, rfl⟩
  obtain ⟨hK0, hK1, hK2, hK⟩ := (isKern_iff _).1 hk
  simp only [Kern.bulk] at hm
  simp only at hK0 hK1 hK2 hK
  conv => whnf
  refine ⟨[], [1, 2, 5], 1, fun n1 σ => ∃ s : Nat, s ≤ sets.length ∧ n1 = sets.length - s ∧ (∀ s' < s, ∀ t' ≤ s', rightRAt ⟨ext, sets⟩ lanes s' t' = true) ∧ σ = (⟨[.junk, .di .i64 lanes, .one (.ptr 0 0), .junk, .junk, .di .i64 s, .junk, .junk, .junk, .junk, .junk, .junk, .junk, .junk, .junk, .junk, .junk, .junk, .junk, .junk, .junk, .junk, .junk, .junk, .junk, .junk, .junk, .junk, .junk, .junk, .junk, .junk, .junk, .junk, .junk, .junk, .junk, .junk, .junk, .junk, .junk, .junk, .junk, .junk, .junk, .junk, .junk, .junk, .junk, .junk, .junk, .junk, .junk, .junk, .junk, .junk, .junk, .junk, .junk, .junk, .junk, .junk, .junk, .junk, .junk, .junk, .junk, .junk, .junk, .junk, .junk, .junk, .junk, .junk, .junk, .junk, .junk, .junk, .junk, .junk, .junk], [.box (List.map .d (Kern.mk ext sets).c)]⟩ : St), ?_, ?_⟩
  · refine ⟨sets.length, ?_⟩
    conv => whnf
    exact ⟨0, by omega, by omega, by omega, rfl⟩
  · rintro n1 _ ⟨s, hs, rfl, hall, rfl⟩
    conv => whnf
    ((with_reducible refine And.intro (fun (e : (_ : Bool) = true) => ?_) (fun (e : (_ : Bool) = false) => ?_)) <;> (try simp only [reduceCtorEq, ints_len, bools_len, Bool.not_false, Bool.not_true, List.length_map, decide_eq_true_eq, decide_eq_false_iff_not, Bool.not_eq_true', Bool.not_eq_false', Bool.and_eq_true, Bool.or_eq_true, Bool.and_eq_false_iff, Bool.or_eq_false_iff, beq_iff_eq, bne_iff_ne, beq_eq_false_iff_ne, bne_eq_false_iff_eq, Int.not_lt, Int.not_le, ge_iff_le, gt_iff_lt, not_or, not_and, Bool.cond_true_right, Bool.cond_true_left, Bool.cond_false_right, Bool.cond_false_left, bif_t, bif_f] at e) <;> (conv => whnf))
    · have hslt : s < sets.length := by omega
      obtain ⟨S0, hgs⟩ := get_lt hslt
      have hbs := setsBulk_get hgs
      have hSl : S0.loads.length ≤ 4194304 := by have := S0.loads_len; omega
      have hSr : ∀ r ∈ S0.loads, refOk ext r = true := fun r hr => hK S0 (List.mem_of_getElem? hgs) r (List.mem_append_left _ hr)
      have hSt : refOk ext S0.to = true := hK S0 (List.mem_of_getElem? hgs) _ (List.mem_append_right _ (List.mem_singleton.2 rfl))
      refine ⟨[], [1, 2, 5, 6], 1, fun n2 σ => ∃ t : Nat, t ≤ s + 1 ∧ n2 = s + 1 - t ∧ (∀ t' < t, rightRAt ⟨ext, sets⟩ lanes s t' = true) ∧ σ = (⟨[.junk, .di .i64 lanes, .one (.ptr 0 0), .junk, .junk, .di .i64 s, .di .i64 t, .junk, .junk, .junk, .junk, .junk, .junk, .junk, .junk, .junk, .junk, .junk, .junk, .junk, .junk, .junk, .junk, .junk, .junk, .junk, .junk, .junk, .junk, .junk, .junk, .junk, .junk, .junk, .junk, .junk, .junk, .junk, .junk, .junk, .junk, .junk, .junk, .junk, .junk, .junk, .junk, .junk, .junk, .junk, .junk, .junk, .junk, .junk, .junk, .junk, .junk, .junk, .junk, .junk, .junk, .junk, .junk, .junk, .junk, .junk, .junk, .junk, .junk, .junk, .junk, .junk, .junk, .junk, .junk, .junk, .junk, .junk, .junk, .junk, .junk], [.box (List.map .d (Kern.mk ext sets).c)]⟩ : St), ?_, ?_⟩
      · refine ⟨s + 1, ?_⟩
        conv => whnf
        exact ⟨0, by omega, by omega, by omega, rfl⟩
      · rintro n2 _ ⟨t, ht, rfl, hin, rfl⟩
        conv => whnf
        ((with_reducible refine And.intro (fun (e : (_ : Bool) = true) => ?_) (fun (e : (_ : Bool) = false) => ?_)) <;> (try simp only [reduceCtorEq, ints_len, bools_len, Bool.not_false, Bool.not_true, List.length_map, decide_eq_true_eq, decide_eq_false_iff_not, Bool.not_eq_true', Bool.not_eq_false', Bool.and_eq_true, Bool.or_eq_true, Bool.and_eq_false_iff, Bool.or_eq_false_iff, beq_iff_eq, bne_iff_ne, beq_eq_false_iff_ne, bne_eq_false_iff_eq, Int.not_lt, Int.not_le, ge_iff_le, gt_iff_lt, not_or, not_and, Bool.cond_true_right, Bool.cond_true_left, Bool.cond_false_right, Bool.cond_false_left, bif_t, bif_f] at e) <;> (conv => whnf))
        · have htle : t ≤ s := by omega
          have htlt : t < sets.length := by omega
          obtain ⟨T0, hgt⟩ := get_lt htlt
          have hbt := setsBulk_get hgt
          have hTl : T0.loads.length ≤ 4194304 := by have := T0.loads_len; omega
          have hTr : ∀ r ∈ T0.loads, refOk ext r = true := fun r hr => hK T0 (List.mem_of_getElem? hgt) r (List.mem_append_left _ hr)
          have hTt : refOk ext T0.to = true := hK T0 (List.mem_of_getElem? hgt) _ (List.mem_append_right _ (List.mem_singleton.2 rfl))
          have hR : rightRAt ⟨ext, sets⟩ lanes s t = (!(T0.loads.any fun r => hits ext lanes S0.to r) && (decide (s = t) || (!hits ext lanes S0.to T0.to && !(S0.loads.any fun r => hits ext lanes r T0.to)))) := by
            unfold rightRAt; simp only; rw [hgs, hgt]
          have hN := fun h => rightR_not (k := ⟨ext, sets⟩) (lanes := lanes) hslt htle h
          (refine ⟨_, And.intro ⟨by omega, enc_get hgs⟩ ?_⟩; (conv => whnf))
          obtain ⟨⟨sa, sb, ss⟩, smask, ⟨sop, skind, sn, sref, skids⟩⟩ := S0
          conv => whnf
          (refine ⟨_, And.intro ⟨by omega, enc_get hgt⟩ ?_⟩; (conv => whnf))
          obtain ⟨⟨ta, tb, ts⟩, tmask, ⟨top, tkind, tn, tref, tkids⟩⟩ := T0
          conv => whnf
          have hSL := ASet.mk ⟨sa, sb, ss⟩ smask ⟨sop, skind, sn, sref, skids⟩
          have hTL := ASet.mk ⟨ta, tb, ts⟩ tmask ⟨top, tkind, tn, tref, tkids⟩
          refine ⟨?_, ?_⟩
          · conv => whnf
            (refine ⟨[], false, false, ?_⟩; (conv => whnf); refine ⟨_, _, ⟨⟨⟨ta, tb, ts⟩, tmask, ⟨top, tkind, tn, tref, tkids⟩⟩, rfl, rfl, by omega, rfl, rfl⟩, ?_⟩; (conv => whnf))
            generalize hLT : (ASet.mk ⟨ta, tb, ts⟩ tmask ⟨top, tkind, tn, tref, tkids⟩).loads = LT at *
            refine ⟨[], [1, 2, 5, 6, 7, 8, 9, 10], 4, fun n3 σ => ∃ i : Nat, i ≤ LT.length ∧ n3 = LT.length - i ∧ (∀ j < i, ∀ r, LT[j]? = some r → hits ext lanes ⟨sa, sb, ss⟩ r = false) ∧ σ = (⟨[.junk, .di .i64 lanes, .one (.ptr 0 0), .junk, .junk, .di .i64 s, .di .i64 t, .one (.ptr 1 0), .one (.ptr 2 0), .one (.own 3), .di .i64 i, .junk, .junk, .junk, .junk, .junk, .junk, .junk, .junk, .junk, .junk, .junk, .junk, .junk, .junk, .junk, .junk, .junk, .junk, .junk, .junk, .junk, .junk, .junk, .junk, .junk, .junk, .junk, .junk, .junk, .junk, .junk, .junk, .junk, .junk, .junk, .junk, .junk, .junk, .junk, .junk, .junk, .junk, .junk, .junk, .junk, .junk, .junk, .junk, .junk, .junk, .junk, .junk, .junk, .junk, .junk, .junk, .junk, .junk, .junk, .junk, .junk, .junk, .junk, .junk, .junk, .junk, .junk, .junk, .junk, .junk], [.box (List.map .d (Kern.mk ext sets).c), .box (List.map .d (ASet.mk ⟨sa, sb, ss⟩ smask ⟨sop, skind, sn, sref, skids⟩).c), .box (List.map .d (ASet.mk ⟨ta, tb, ts⟩ tmask ⟨top, tkind, tn, tref, tkids⟩).c), .row 3 (LT.map Ref.c)]⟩ : St), ?_, ?_⟩
            · refine ⟨LT.length, ?_⟩
              conv => whnf
              exact ⟨0, by omega, by omega, by omega, rfl⟩
            · rintro n3 _ ⟨i, hi, rfl, hno, rfl⟩
              conv => whnf
              ((with_reducible refine And.intro (fun (e : (_ : Bool) = true) => ?_) (fun (e : (_ : Bool) = false) => ?_)) <;> (try simp only [reduceCtorEq, ints_len, bools_len, Bool.not_false, Bool.not_true, List.length_map, decide_eq_true_eq, decide_eq_false_iff_not, Bool.not_eq_true', Bool.not_eq_false', Bool.and_eq_true, Bool.or_eq_true, Bool.and_eq_false_iff, Bool.or_eq_false_iff, beq_iff_eq, bne_iff_ne, beq_eq_false_iff_ne, bne_eq_false_iff_eq, Int.not_lt, Int.not_le, ge_iff_le, gt_iff_lt, not_or, not_and, Bool.cond_true_right, Bool.cond_true_left, Bool.cond_false_right, Bool.cond_false_left, bif_t, bif_f] at e) <;> (conv => whnf))
              · obtain ⟨x, hx⟩ := get_lt (l := LT) (i := i) (by omega)
                have hxr := hTr x (List.mem_of_getElem? hx)
                (refine And.intro ⟨by omega, by rw [map_len]; omega⟩ ?_; (conv => whnf); refine ⟨_, And.intro (enc_get hx) ?_⟩; (conv => whnf))
                obtain ⟨xa, xb, xs⟩ := x
                conv => whnf
                (refine ⟨[], false, false, ?_⟩; (conv => whnf); refine ⟨_, _, ⟨ext, lanes, ⟨sa, sb, ss⟩, ⟨xa, xb, xs⟩, rfl, rfl, hSt, hxr, hln, rfl, rfl⟩, ?_⟩; (conv => whnf))
                ((with_reducible refine And.intro (fun (e : (_ : Bool) = true) => ?_) (fun (e : (_ : Bool) = false) => ?_)) <;> (try simp only [reduceCtorEq, ints_len, bools_len, Bool.not_false, Bool.not_true, List.length_map, decide_eq_true_eq, decide_eq_false_iff_not, Bool.not_eq_true', Bool.not_eq_false', Bool.and_eq_true, Bool.or_eq_true, Bool.and_eq_false_iff, Bool.or_eq_false_iff, beq_iff_eq, bne_iff_ne, beq_eq_false_iff_ne, bne_eq_false_iff_eq, Int.not_lt, Int.not_le, ge_iff_le, gt_iff_lt, not_or, not_and, Bool.cond_true_right, Bool.cond_true_left, Bool.cond_false_right, Bool.cond_false_left, bif_t, bif_f] at e) <;> (conv => whnf))
                · have e2 := e
                  (refine ⟨[], ?_⟩; (conv => whnf); refine ⟨[], .nil, .nil, ?_⟩; (conv => whnf))
                  congr 1
                  refine (hN ?_).symm
                  rw [hR, Bool.and_eq_false_iff]
                  left
                  rw [List.any_eq_true.2 ⟨_, List.mem_of_getElem? hx, e2⟩]; rfl
                · have e2 := e
                  (refine And.intro ?_ ?_; ((first | (with_reducible assumption) | (intro _; with_reducible assumption) | omega | (simp only [reduceCtorEq, ints_len, bools_len, Bool.not_false, Bool.not_true, List.length_map, decide_eq_true_eq, decide_eq_false_iff_not, Bool.not_eq_true', Bool.not_eq_false', Bool.and_eq_true, Bool.or_eq_true, Bool.and_eq_false_iff, Bool.or_eq_false_iff, beq_iff_eq, bne_iff_ne, beq_eq_false_iff_ne, bne_eq_false_iff_eq, Int.not_lt, Int.not_le, ge_iff_le, gt_iff_lt, not_or, not_and, Bool.cond_true_right, Bool.cond_true_left, Bool.cond_false_right, Bool.cond_false_left, bif_t, bif_f] at *; omega) | (intro hg; (try simp only [reduceCtorEq, ints_len, bools_len, Bool.not_false, Bool.not_true, List.length_map, decide_eq_true_eq, decide_eq_false_iff_not, Bool.not_eq_true', Bool.not_eq_false', Bool.and_eq_true, Bool.or_eq_true, Bool.and_eq_false_iff, Bool.or_eq_false_iff, beq_iff_eq, bne_iff_ne, beq_eq_false_iff_ne, bne_eq_false_iff_eq, Int.not_lt, Int.not_le, ge_iff_le, gt_iff_lt, not_or, not_and, Bool.cond_true_right, Bool.cond_true_left, Bool.cond_false_right, Bool.cond_false_left, bif_t, bif_f] at hg); first | (with_reducible assumption) | omega | (simp only [reduceCtorEq, ints_len, bools_len, Bool.not_false, Bool.not_true, List.length_map, decide_eq_true_eq, decide_eq_false_iff_not, Bool.not_eq_true', Bool.not_eq_false', Bool.and_eq_true, Bool.or_eq_true, Bool.and_eq_false_iff, Bool.or_eq_false_iff, beq_iff_eq, bne_iff_ne, beq_eq_false_iff_ne, bne_eq_false_iff_eq, Int.not_lt, Int.not_le, ge_iff_le, gt_iff_lt, not_or, not_and, Bool.cond_true_right, Bool.cond_true_left, Bool.cond_false_right, Bool.cond_false_left, bif_t, bif_f] at *; omega) | (refine ⟨?_, ?_⟩ <;> omega)) | (refine ⟨?_, ?_⟩ <;> omega) | (simp [*]; done) | grind)); (conv => whnf))
                  refine ⟨LT.length - (i + 1), by omega, [], ?_⟩
                  conv => whnf
                  refine ⟨i + 1, by omega, rfl, fun j hj r hr => ?_, rfl⟩
                  by_cases ej : j = i
                  · subst ej; rw [hx] at hr; cases hr; exact e2
                  · exact hno j (by omega) r hr
              · have hany : (LT.any fun r => hits ext lanes ⟨sa, sb, ss⟩ r) = false := by
                  rw [List.any_eq_false]
                  intro r hr
                  obtain ⟨j, hj⟩ := List.getElem?_of_mem hr
                  rw [hno j (by have := (List.getElem?_eq_some_iff.1 hj).1; omega) r hj]; decide
                simp only at hR
                rw [hany] at hR
                ((with_reducible refine And.intro (fun (e : (_ : Bool) = true) => ?_) (fun (e : (_ : Bool) = false) => ?_)) <;> (try simp only [reduceCtorEq, ints_len, bools_len, Bool.not_false, Bool.not_true, List.length_map, decide_eq_true_eq, decide_eq_false_iff_not, Bool.not_eq_true', Bool.not_eq_false', Bool.and_eq_true, Bool.or_eq_true, Bool.and_eq_false_iff, Bool.or_eq_false_iff, beq_iff_eq, bne_iff_ne, beq_eq_false_iff_ne, bne_eq_false_iff_eq, Int.not_lt, Int.not_le, ge_iff_le, gt_iff_lt, not_or, not_and, Bool.cond_true_right, Bool.cond_true_left, Bool.cond_false_right, Bool.cond_false_left, bif_t, bif_f] at e) <;> (conv => whnf))
                · have e2 := e
                  (refine And.intro ?_ ?_; ((first | (with_reducible assumption) | (intro _; with_reducible assumption) | omega | (simp only [reduceCtorEq, ints_len, bools_len, Bool.not_false, Bool.not_true, List.length_map, decide_eq_true_eq, decide_eq_false_iff_not, Bool.not_eq_true', Bool.not_eq_false', Bool.and_eq_true, Bool.or_eq_true, Bool.and_eq_false_iff, Bool.or_eq_false_iff, beq_iff_eq, bne_iff_ne, beq_eq_false_iff_ne, bne_eq_false_iff_eq, Int.not_lt, Int.not_le, ge_iff_le, gt_iff_lt, not_or, not_and, Bool.cond_true_right, Bool.cond_true_left, Bool.cond_false_right, Bool.cond_false_left, bif_t, bif_f] at *; omega) | (intro hg; (try simp only [reduceCtorEq, ints_len, bools_len, Bool.not_false, Bool.not_true, List.length_map, decide_eq_true_eq, decide_eq_false_iff_not, Bool.not_eq_true', Bool.not_eq_false', Bool.and_eq_true, Bool.or_eq_true, Bool.and_eq_false_iff, Bool.or_eq_false_iff, beq_iff_eq, bne_iff_ne, beq_eq_false_iff_ne, bne_eq_false_iff_eq, Int.not_lt, Int.not_le, ge_iff_le, gt_iff_lt, not_or, not_and, Bool.cond_true_right, Bool.cond_true_left, Bool.cond_false_right, Bool.cond_false_left, bif_t, bif_f] at hg); first | (with_reducible assumption) | omega | (simp only [reduceCtorEq, ints_len, bools_len, Bool.not_false, Bool.not_true, List.length_map, decide_eq_true_eq, decide_eq_false_iff_not, Bool.not_eq_true', Bool.not_eq_false', Bool.and_eq_true, Bool.or_eq_true, Bool.and_eq_false_iff, Bool.or_eq_false_iff, beq_iff_eq, bne_iff_ne, beq_eq_false_iff_ne, bne_eq_false_iff_eq, Int.not_lt, Int.not_le, ge_iff_le, gt_iff_lt, not_or, not_and, Bool.cond_true_right, Bool.cond_true_left, Bool.cond_false_right, Bool.cond_false_left, bif_t, bif_f] at *; omega) | (refine ⟨?_, ?_⟩ <;> omega)) | (refine ⟨?_, ?_⟩ <;> omega) | (simp [*]; done) | grind)); (conv => whnf))
                  refine ⟨s + 1 - (t + 1), by omega, [], ?_⟩
                  conv => whnf
                  refine ⟨t + 1, by omega, rfl, fun t' ht' => ?_, rfl⟩
                  by_cases et : t' = t
                  · subst et; rw [hR, show decide (s = t') = true from decide_eq_true (by omega)]; rfl
                  · exact hin t' (by omega)
                · have e2 := e
                  have hst : decide (s = t) = false := decide_eq_false (by omega)
                  rw [hst] at hR
                  (refine ⟨[], false, false, ?_⟩; (conv => whnf); refine ⟨_, _, ⟨ext, lanes, ⟨sa, sb, ss⟩, ⟨ta, tb, ts⟩, rfl, rfl, hSt, hTt, hln, rfl, rfl⟩, ?_⟩; (conv => whnf))
                  ((with_reducible refine And.intro (fun (e : (_ : Bool) = true) => ?_) (fun (e : (_ : Bool) = false) => ?_)) <;> (try simp only [reduceCtorEq, ints_len, bools_len, Bool.not_false, Bool.not_true, List.length_map, decide_eq_true_eq, decide_eq_false_iff_not, Bool.not_eq_true', Bool.not_eq_false', Bool.and_eq_true, Bool.or_eq_true, Bool.and_eq_false_iff, Bool.or_eq_false_iff, beq_iff_eq, bne_iff_ne, beq_eq_false_iff_ne, bne_eq_false_iff_eq, Int.not_lt, Int.not_le, ge_iff_le, gt_iff_lt, not_or, not_and, Bool.cond_true_right, Bool.cond_true_left, Bool.cond_false_right, Bool.cond_false_left, bif_t, bif_f] at e) <;> (conv => whnf))
                  · have e3 := e
                    (refine ⟨[], ?_⟩; (conv => whnf); refine ⟨[], .nil, .nil, ?_⟩; (conv => whnf))
                    congr 1
                    refine (hN ?_).symm
                    rw [hR, e3]; rfl
                  · have e3 := e
                    rw [e3] at hR
                    (refine ⟨[], false, false, ?_⟩; (conv => whnf); refine ⟨_, _, ⟨⟨⟨sa, sb, ss⟩, smask, ⟨sop, skind, sn, sref, skids⟩⟩, rfl, rfl, by omega, rfl, rfl⟩, ?_⟩; (conv => whnf))
                    generalize hLS : (ASet.mk ⟨sa, sb, ss⟩ smask ⟨sop, skind, sn, sref, skids⟩).loads = LS at *
                    refine ⟨[], [1, 2, 5, 6, 7, 8, 9, 11], 5, fun n4 σ => ∃ i : Nat, i ≤ LS.length ∧ n4 = LS.length - i ∧ (∀ j < i, ∀ r, LS[j]? = some r → hits ext lanes r ⟨ta, tb, ts⟩ = false) ∧ σ = (⟨[.junk, .di .i64 lanes, .one (.ptr 0 0), .junk, .junk, .di .i64 s, .di .i64 t, .one (.ptr 1 0), .one (.ptr 2 0), .one (.own 4), .junk, .di .i64 i, .junk, .junk, .junk, .junk, .junk, .junk, .junk, .junk, .junk, .junk, .junk, .junk, .junk, .junk, .junk, .junk, .junk, .junk, .junk, .junk, .junk, .junk, .junk, .junk, .junk, .junk, .junk, .junk, .junk, .junk, .junk, .junk, .junk, .junk, .junk, .junk, .junk, .junk, .junk, .junk, .junk, .junk, .junk, .junk, .junk, .junk, .junk, .junk, .junk, .junk, .junk, .junk, .junk, .junk, .junk, .junk, .junk, .junk, .junk, .junk, .junk, .junk, .junk, .junk, .junk, .junk, .junk, .junk, .junk], [.box (List.map .d (Kern.mk ext sets).c), .box (List.map .d (ASet.mk ⟨sa, sb, ss⟩ smask ⟨sop, skind, sn, sref, skids⟩).c), .box (List.map .d (ASet.mk ⟨ta, tb, ts⟩ tmask ⟨top, tkind, tn, tref, tkids⟩).c), .row 3 (LT.map Ref.c), .row 3 (LS.map Ref.c)]⟩ : St), ?_, ?_⟩
                    · refine ⟨LS.length, ?_⟩
                      conv => whnf
                      exact ⟨0, by omega, by omega, by omega, rfl⟩
                    · rintro n4 _ ⟨i, hi, rfl, hno2, rfl⟩
                      conv => whnf
                      ((with_reducible refine And.intro (fun (e : (_ : Bool) = true) => ?_) (fun (e : (_ : Bool) = false) => ?_)) <;> (try simp only [reduceCtorEq, ints_len, bools_len, Bool.not_false, Bool.not_true, List.length_map, decide_eq_true_eq, decide_eq_false_iff_not, Bool.not_eq_true', Bool.not_eq_false', Bool.and_eq_true, Bool.or_eq_true, Bool.and_eq_false_iff, Bool.or_eq_false_iff, beq_iff_eq, bne_iff_ne, beq_eq_false_iff_ne, bne_eq_false_iff_eq, Int.not_lt, Int.not_le, ge_iff_le, gt_iff_lt, not_or, not_and, Bool.cond_true_right, Bool.cond_true_left, Bool.cond_false_right, Bool.cond_false_left, bif_t, bif_f] at e) <;> (conv => whnf))
                      · obtain ⟨x, hx⟩ := get_lt (l := LS) (i := i) (by omega)
                        have hxr := hSr x (List.mem_of_getElem? hx)
                        (refine And.intro ⟨by omega, by rw [map_len]; omega⟩ ?_; (conv => whnf); refine ⟨_, And.intro (enc_get hx) ?_⟩; (conv => whnf))
                        obtain ⟨xa, xb, xs⟩ := x
                        conv => whnf
                        (refine ⟨[], false, false, ?_⟩; (conv => whnf); refine ⟨_, _, ⟨ext, lanes, ⟨xa, xb, xs⟩, ⟨ta, tb, ts⟩, rfl, rfl, hxr, hTt, hln, rfl, rfl⟩, ?_⟩; (conv => whnf))
                        ((with_reducible refine And.intro (fun (e : (_ : Bool) = true) => ?_) (fun (e : (_ : Bool) = false) => ?_)) <;> (try simp only [reduceCtorEq, ints_len, bools_len, Bool.not_false, Bool.not_true, List.length_map, decide_eq_true_eq, decide_eq_false_iff_not, Bool.not_eq_true', Bool.not_eq_false', Bool.and_eq_true, Bool.or_eq_true, Bool.and_eq_false_iff, Bool.or_eq_false_iff, beq_iff_eq, bne_iff_ne, beq_eq_false_iff_ne, bne_eq_false_iff_eq, Int.not_lt, Int.not_le, ge_iff_le, gt_iff_lt, not_or, not_and, Bool.cond_true_right, Bool.cond_true_left, Bool.cond_false_right, Bool.cond_false_left, bif_t, bif_f] at e) <;> (conv => whnf))
                        · have e4 := e
                          (refine ⟨[], ?_⟩; (conv => whnf); refine ⟨[], .nil, .nil, ?_⟩; (conv => whnf))
                          congr 1
                          refine (hN ?_).symm
                          rw [hR, List.any_eq_true.2 ⟨_, List.mem_of_getElem? hx, e4⟩]; rfl
                        · have e4 := e
                          (refine And.intro ?_ ?_; ((first | (with_reducible assumption) | (intro _; with_reducible assumption) | omega | (simp only [reduceCtorEq, ints_len, bools_len, Bool.not_false, Bool.not_true, List.length_map, decide_eq_true_eq, decide_eq_false_iff_not, Bool.not_eq_true', Bool.not_eq_false', Bool.and_eq_true, Bool.or_eq_true, Bool.and_eq_false_iff, Bool.or_eq_false_iff, beq_iff_eq, bne_iff_ne, beq_eq_false_iff_ne, bne_eq_false_iff_eq, Int.not_lt, Int.not_le, ge_iff_le, gt_iff_lt, not_or, not_and, Bool.cond_true_right, Bool.cond_true_left, Bool.cond_false_right, Bool.cond_false_left, bif_t, bif_f] at *; omega) | (intro hg; (try simp only [reduceCtorEq, ints_len, bools_len, Bool.not_false, Bool.not_true, List.length_map, decide_eq_true_eq, decide_eq_false_iff_not, Bool.not_eq_true', Bool.not_eq_false', Bool.and_eq_true, Bool.or_eq_true, Bool.and_eq_false_iff, Bool.or_eq_false_iff, beq_iff_eq, bne_iff_ne, beq_eq_false_iff_ne, bne_eq_false_iff_eq, Int.not_lt, Int.not_le, ge_iff_le, gt_iff_lt, not_or, not_and, Bool.cond_true_right, Bool.cond_true_left, Bool.cond_false_right, Bool.cond_false_left, bif_t, bif_f] at hg); first | (with_reducible assumption) | omega | (simp only [reduceCtorEq, ints_len, bools_len, Bool.not_false, Bool.not_true, List.length_map, decide_eq_true_eq, decide_eq_false_iff_not, Bool.not_eq_true', Bool.not_eq_false', Bool.and_eq_true, Bool.or_eq_true, Bool.and_eq_false_iff, Bool.or_eq_false_iff, beq_iff_eq, bne_iff_ne, beq_eq_false_iff_ne, bne_eq_false_iff_eq, Int.not_lt, Int.not_le, ge_iff_le, gt_iff_lt, not_or, not_and, Bool.cond_true_right, Bool.cond_true_left, Bool.cond_false_right, Bool.cond_false_left, bif_t, bif_f] at *; omega) | (refine ⟨?_, ?_⟩ <;> omega)) | (refine ⟨?_, ?_⟩ <;> omega) | (simp [*]; done) | grind)); (conv => whnf))
                          refine ⟨LS.length - (i + 1), by omega, [], ?_⟩
                          conv => whnf
                          refine ⟨i + 1, by omega, rfl, fun j hj r hr => ?_, rfl⟩
                          by_cases ej : j = i
                          · subst ej; rw [hx] at hr; cases hr; exact e4
                          · exact hno2 j (by omega) r hr
                      · have hany2 : (LS.any fun r => hits ext lanes r ⟨ta, tb, ts⟩) = false := by
                          rw [List.any_eq_false]
                          intro r hr
                          obtain ⟨j, hj⟩ := List.getElem?_of_mem hr
                          rw [hno2 j (by have := (List.getElem?_eq_some_iff.1 hj).1; omega) r hj]; decide
                        (refine And.intro ?_ ?_; ((first | (with_reducible assumption) | (intro _; with_reducible assumption) | omega | (simp only [reduceCtorEq, ints_len, bools_len, Bool.not_false, Bool.not_true, List.length_map, decide_eq_true_eq, decide_eq_false_iff_not, Bool.not_eq_true', Bool.not_eq_false', Bool.and_eq_true, Bool.or_eq_true, Bool.and_eq_false_iff, Bool.or_eq_false_iff, beq_iff_eq, bne_iff_ne, beq_eq_false_iff_ne, bne_eq_false_iff_eq, Int.not_lt, Int.not_le, ge_iff_le, gt_iff_lt, not_or, not_and, Bool.cond_true_right, Bool.cond_true_left, Bool.cond_false_right, Bool.cond_false_left, bif_t, bif_f] at *; omega) | (intro hg; (try simp only [reduceCtorEq, ints_len, bools_len, Bool.not_false, Bool.not_true, List.length_map, decide_eq_true_eq, decide_eq_false_iff_not, Bool.not_eq_true', Bool.not_eq_false', Bool.and_eq_true, Bool.or_eq_true, Bool.and_eq_false_iff, Bool.or_eq_false_iff, beq_iff_eq, bne_iff_ne, beq_eq_false_iff_ne, bne_eq_false_iff_eq, Int.not_lt, Int.not_le, ge_iff_le, gt_iff_lt, not_or, not_and, Bool.cond_true_right, Bool.cond_true_left, Bool.cond_false_right, Bool.cond_false_left, bif_t, bif_f] at hg); first | (with_reducible assumption) | omega | (simp only [reduceCtorEq, ints_len, bools_len, Bool.not_false, Bool.not_true, List.length_map, decide_eq_true_eq, decide_eq_false_iff_not, Bool.not_eq_true', Bool.not_eq_false', Bool.and_eq_true, Bool.or_eq_true, Bool.and_eq_false_iff, Bool.or_eq_false_iff, beq_iff_eq, bne_iff_ne, beq_eq_false_iff_ne, bne_eq_false_iff_eq, Int.not_lt, Int.not_le, ge_iff_le, gt_iff_lt, not_or, not_and, Bool.cond_true_right, Bool.cond_true_left, Bool.cond_false_right, Bool.cond_false_left, bif_t, bif_f] at *; omega) | (refine ⟨?_, ?_⟩ <;> omega)) | (refine ⟨?_, ?_⟩ <;> omega) | (simp [*]; done) | grind)); (conv => whnf))
                        refine ⟨s + 1 - (t + 1), by omega, [], ?_⟩
                        conv => whnf
                        refine ⟨t + 1, by omega, rfl, fun t' ht' => ?_, rfl⟩
                        by_cases et : t' = t
                        · subst et; rw [hR, hany2]; rfl
                        · exact hin t' (by omega)
          · conv => whnf
            (refine ⟨[], false, false, ?_⟩; (conv => whnf); refine ⟨_, _, ⟨⟨⟨ta, tb, ts⟩, tmask, ⟨top, tkind, tn, tref, tkids⟩⟩, rfl, rfl, by omega, rfl, rfl⟩, ?_⟩; (conv => whnf))
            generalize hLT : (ASet.mk ⟨ta, tb, ts⟩ tmask ⟨top, tkind, tn, tref, tkids⟩).loads = LT at *
            refine ⟨[], [1, 2, 5, 6, 7, 8, 9, 10], 4, fun n3 σ => ∃ i : Nat, i ≤ LT.length ∧ n3 = LT.length - i ∧ (∀ j < i, ∀ r, LT[j]? = some r → hits ext lanes ⟨sa, sb, ss⟩ r = false) ∧ σ = (⟨[.junk, .di .i64 lanes, .one (.ptr 0 0), .junk, .junk, .di .i64 s, .di .i64 t, .one (.ptr 2 0), .one (.ptr 1 0), .one (.own 3), .di .i64 i, .junk, .junk, .junk, .junk, .junk, .junk, .junk, .junk, .junk, .junk, .junk, .junk, .junk, .junk, .junk, .junk, .junk, .junk, .junk, .junk, .junk, .junk, .junk, .junk, .junk, .junk, .junk, .junk, .junk, .junk, .junk, .junk, .junk, .junk, .junk, .junk, .junk, .junk, .junk, .junk, .junk, .junk, .junk, .junk, .junk, .junk, .junk, .junk, .junk, .junk, .junk, .junk, .junk, .junk, .junk, .junk, .junk, .junk, .junk, .junk, .junk, .junk, .junk, .junk, .junk, .junk, .junk, .junk, .junk, .junk], [.box (List.map .d (Kern.mk ext sets).c), .box (List.map .d (ASet.mk ⟨ta, tb, ts⟩ tmask ⟨top, tkind, tn, tref, tkids⟩).c), .box (List.map .d (ASet.mk ⟨sa, sb, ss⟩ smask ⟨sop, skind, sn, sref, skids⟩).c), .row 3 (LT.map Ref.c)]⟩ : St), ?_, ?_⟩
            · refine ⟨LT.length, ?_⟩
              conv => whnf
              exact ⟨0, by omega, by omega, by omega, rfl⟩
            · rintro n3 _ ⟨i, hi, rfl, hno, rfl⟩
              conv => whnf
              ((with_reducible refine And.intro (fun (e : (_ : Bool) = true) => ?_) (fun (e : (_ : Bool) = false) => ?_)) <;> (try simp only [reduceCtorEq, ints_len, bools_len, Bool.not_false, Bool.not_true, List.length_map, decide_eq_true_eq, decide_eq_false_iff_not, Bool.not_eq_true', Bool.not_eq_false', Bool.and_eq_true, Bool.or_eq_true, Bool.and_eq_false_iff, Bool.or_eq_false_iff, beq_iff_eq, bne_iff_ne, beq_eq_false_iff_ne, bne_eq_false_iff_eq, Int.not_lt, Int.not_le, ge_iff_le, gt_iff_lt, not_or, not_and, Bool.cond_true_right, Bool.cond_true_left, Bool.cond_false_right, Bool.cond_false_left, bif_t, bif_f] at e) <;> (conv => whnf))
              · obtain ⟨x, hx⟩ := get_lt (l := LT) (i := i) (by omega)
                have hxr := hTr x (List.mem_of_getElem? hx)
                (refine And.intro ⟨by omega, by rw [map_len]; omega⟩ ?_; (conv => whnf); refine ⟨_, And.intro (enc_get hx) ?_⟩; (conv => whnf))
                obtain ⟨xa, xb, xs⟩ := x
                conv => whnf
                (refine ⟨[], false, false, ?_⟩; (conv => whnf); refine ⟨_, _, ⟨ext, lanes, ⟨sa, sb, ss⟩, ⟨xa, xb, xs⟩, rfl, rfl, hSt, hxr, hln, rfl, rfl⟩, ?_⟩; (conv => whnf))
                ((with_reducible refine And.intro (fun (e : (_ : Bool) = true) => ?_) (fun (e : (_ : Bool) = false) => ?_)) <;> (try simp only [reduceCtorEq, ints_len, bools_len, Bool.not_false, Bool.not_true, List.length_map, decide_eq_true_eq, decide_eq_false_iff_not, Bool.not_eq_true', Bool.not_eq_false', Bool.and_eq_true, Bool.or_eq_true, Bool.and_eq_false_iff, Bool.or_eq_false_iff, beq_iff_eq, bne_iff_ne, beq_eq_false_iff_ne, bne_eq_false_iff_eq, Int.not_lt, Int.not_le, ge_iff_le, gt_iff_lt, not_or, not_and, Bool.cond_true_right, Bool.cond_true_left, Bool.cond_false_right, Bool.cond_false_left, bif_t, bif_f] at e) <;> (conv => whnf))
                · have e2 := e
                  (refine ⟨[], ?_⟩; (conv => whnf); refine ⟨[], .nil, .nil, ?_⟩; (conv => whnf))
                  congr 1
                  refine (hN ?_).symm
                  rw [hR, Bool.and_eq_false_iff]
                  left
                  rw [List.any_eq_true.2 ⟨_, List.mem_of_getElem? hx, e2⟩]; rfl
                · have e2 := e
                  (refine And.intro ?_ ?_; ((first | (with_reducible assumption) | (intro _; with_reducible assumption) | omega | (simp only [reduceCtorEq, ints_len, bools_len, Bool.not_false, Bool.not_true, List.length_map, decide_eq_true_eq, decide_eq_false_iff_not, Bool.not_eq_true', Bool.not_eq_false', Bool.and_eq_true, Bool.or_eq_true, Bool.and_eq_false_iff, Bool.or_eq_false_iff, beq_iff_eq, bne_iff_ne, beq_eq_false_iff_ne, bne_eq_false_iff_eq, Int.not_lt, Int.not_le, ge_iff_le, gt_iff_lt, not_or, not_and, Bool.cond_true_right, Bool.cond_true_left, Bool.cond_false_right, Bool.cond_false_left, bif_t, bif_f] at *; omega) | (intro hg; (try simp only [reduceCtorEq, ints_len, bools_len, Bool.not_false, Bool.not_true, List.length_map, decide_eq_true_eq, decide_eq_false_iff_not, Bool.not_eq_true', Bool.not_eq_false', Bool.and_eq_true, Bool.or_eq_true, Bool.and_eq_false_iff, Bool.or_eq_false_iff, beq_iff_eq, bne_iff_ne, beq_eq_false_iff_ne, bne_eq_false_iff_eq, Int.not_lt, Int.not_le, ge_iff_le, gt_iff_lt, not_or, not_and, Bool.cond_true_right, Bool.cond_true_left, Bool.cond_false_right, Bool.cond_false_left, bif_t, bif_f] at hg); first | (with_reducible assumption) | omega | (simp only [reduceCtorEq, ints_len, bools_len, Bool.not_false, Bool.not_true, List.length_map, decide_eq_true_eq, decide_eq_false_iff_not, Bool.not_eq_true', Bool.not_eq_false', Bool.and_eq_true, Bool.or_eq_true, Bool.and_eq_false_iff, Bool.or_eq_false_iff, beq_iff_eq, bne_iff_ne, beq_eq_false_iff_ne, bne_eq_false_iff_eq, Int.not_lt, Int.not_le, ge_iff_le, gt_iff_lt, not_or, not_and, Bool.cond_true_right, Bool.cond_true_left, Bool.cond_false_right, Bool.cond_false_left, bif_t, bif_f] at *; omega) | (refine ⟨?_, ?_⟩ <;> omega)) | (refine ⟨?_, ?_⟩ <;> omega) | (simp [*]; done) | grind)); (conv => whnf))
                  refine ⟨LT.length - (i + 1), by omega, [], ?_⟩
                  conv => whnf
                  refine ⟨i + 1, by omega, rfl, fun j hj r hr => ?_, rfl⟩
                  by_cases ej : j = i
                  · subst ej; rw [hx] at hr; cases hr; exact e2
                  · exact hno j (by omega) r hr
              · have hany : (LT.any fun r => hits ext lanes ⟨sa, sb, ss⟩ r) = false := by
                  rw [List.any_eq_false]
                  intro r hr
                  obtain ⟨j, hj⟩ := List.getElem?_of_mem hr
                  rw [hno j (by have := (List.getElem?_eq_some_iff.1 hj).1; omega) r hj]; decide
                simp only at hR
                rw [hany] at hR
                ((with_reducible refine And.intro (fun (e : (_ : Bool) = true) => ?_) (fun (e : (_ : Bool) = false) => ?_)) <;> (try simp only [reduceCtorEq, ints_len, bools_len, Bool.not_false, Bool.not_true, List.length_map, decide_eq_true_eq, decide_eq_false_iff_not, Bool.not_eq_true', Bool.not_eq_false', Bool.and_eq_true, Bool.or_eq_true, Bool.and_eq_false_iff, Bool.or_eq_false_iff, beq_iff_eq, bne_iff_ne, beq_eq_false_iff_ne, bne_eq_false_iff_eq, Int.not_lt, Int.not_le, ge_iff_le, gt_iff_lt, not_or, not_and, Bool.cond_true_right, Bool.cond_true_left, Bool.cond_false_right, Bool.cond_false_left, bif_t, bif_f] at e) <;> (conv => whnf))
                · have e2 := e
                  (refine And.intro ?_ ?_; ((first | (with_reducible assumption) | (intro _; with_reducible assumption) | omega | (simp only [reduceCtorEq, ints_len, bools_len, Bool.not_false, Bool.not_true, List.length_map, decide_eq_true_eq, decide_eq_false_iff_not, Bool.not_eq_true', Bool.not_eq_false', Bool.and_eq_true, Bool.or_eq_true, Bool.and_eq_false_iff, Bool.or_eq_false_iff, beq_iff_eq, bne_iff_ne, beq_eq_false_iff_ne, bne_eq_false_iff_eq, Int.not_lt, Int.not_le, ge_iff_le, gt_iff_lt, not_or, not_and, Bool.cond_true_right, Bool.cond_true_left, Bool.cond_false_right, Bool.cond_false_left, bif_t, bif_f] at *; omega) | (intro hg; (try simp only [reduceCtorEq, ints_len, bools_len, Bool.not_false, Bool.not_true, List.length_map, decide_eq_true_eq, decide_eq_false_iff_not, Bool.not_eq_true', Bool.not_eq_false', Bool.and_eq_true, Bool.or_eq_true, Bool.and_eq_false_iff, Bool.or_eq_false_iff, beq_iff_eq, bne_iff_ne, beq_eq_false_iff_ne, bne_eq_false_iff_eq, Int.not_lt, Int.not_le, ge_iff_le, gt_iff_lt, not_or, not_and, Bool.cond_true_right, Bool.cond_true_left, Bool.cond_false_right, Bool.cond_false_left, bif_t, bif_f] at hg); first | (with_reducible assumption) | omega | (simp only [reduceCtorEq, ints_len, bools_len, Bool.not_false, Bool.not_true, List.length_map, decide_eq_true_eq, decide_eq_false_iff_not, Bool.not_eq_true', Bool.not_eq_false', Bool.and_eq_true, Bool.or_eq_true, Bool.and_eq_false_iff, Bool.or_eq_false_iff, beq_iff_eq, bne_iff_ne, beq_eq_false_iff_ne, bne_eq_false_iff_eq, Int.not_lt, Int.not_le, ge_iff_le, gt_iff_lt, not_or, not_and, Bool.cond_true_right, Bool.cond_true_left, Bool.cond_false_right, Bool.cond_false_left, bif_t, bif_f] at *; omega) | (refine ⟨?_, ?_⟩ <;> omega)) | (refine ⟨?_, ?_⟩ <;> omega) | (simp [*]; done) | grind)); (conv => whnf))
                  refine ⟨s + 1 - (t + 1), by omega, [], ?_⟩
                  conv => whnf
                  refine ⟨t + 1, by omega, rfl, fun t' ht' => ?_, rfl⟩
                  by_cases et : t' = t
                  · subst et; rw [hR, show decide (s = t') = true from decide_eq_true (by omega)]; rfl
                  · exact hin t' (by omega)
                · have e2 := e
                  have hst : decide (s = t) = false := decide_eq_false (by omega)
                  rw [hst] at hR
                  (refine ⟨[], false, false, ?_⟩; (conv => whnf); refine ⟨_, _, ⟨ext, lanes, ⟨sa, sb, ss⟩, ⟨ta, tb, ts⟩, rfl, rfl, hSt, hTt, hln, rfl, rfl⟩, ?_⟩; (conv => whnf))
                  ((with_reducible refine And.intro (fun (e : (_ : Bool) = true) => ?_) (fun (e : (_ : Bool) = false) => ?_)) <;> (try simp only [reduceCtorEq, ints_len, bools_len, Bool.not_false, Bool.not_true, List.length_map, decide_eq_true_eq, decide_eq_false_iff_not, Bool.not_eq_true', Bool.not_eq_false', Bool.and_eq_true, Bool.or_eq_true, Bool.and_eq_false_iff, Bool.or_eq_false_iff, beq_iff_eq, bne_iff_ne, beq_eq_false_iff_ne, bne_eq_false_iff_eq, Int.not_lt, Int.not_le, ge_iff_le, gt_iff_lt, not_or, not_and, Bool.cond_true_right, Bool.cond_true_left, Bool.cond_false_right, Bool.cond_false_left, bif_t, bif_f] at e) <;> (conv => whnf))
                  · have e3 := e
                    (refine ⟨[], ?_⟩; (conv => whnf); refine ⟨[], .nil, .nil, ?_⟩; (conv => whnf))
                    congr 1
                    refine (hN ?_).symm
                    rw [hR, e3]; rfl
                  · have e3 := e
                    rw [e3] at hR
                    (refine ⟨[], false, false, ?_⟩; (conv => whnf); refine ⟨_, _, ⟨⟨⟨sa, sb, ss⟩, smask, ⟨sop, skind, sn, sref, skids⟩⟩, rfl, rfl, by omega, rfl, rfl⟩, ?_⟩; (conv => whnf))
                    generalize hLS : (ASet.mk ⟨sa, sb, ss⟩ smask ⟨sop, skind, sn, sref, skids⟩).loads = LS at *
                    refine ⟨[], [1, 2, 5, 6, 7, 8, 9, 11], 5, fun n4 σ => ∃ i : Nat, i ≤ LS.length ∧ n4 = LS.length - i ∧ (∀ j < i, ∀ r, LS[j]? = some r → hits ext lanes r ⟨ta, tb, ts⟩ = false) ∧ σ = (⟨[.junk, .di .i64 lanes, .one (.ptr 0 0), .junk, .junk, .di .i64 s, .di .i64 t, .one (.ptr 2 0), .one (.ptr 1 0), .one (.own 4), .junk, .di .i64 i, .junk, .junk, .junk, .junk, .junk, .junk, .junk, .junk, .junk, .junk, .junk, .junk, .junk, .junk, .junk, .junk, .junk, .junk, .junk, .junk, .junk, .junk, .junk, .junk, .junk, .junk, .junk, .junk, .junk, .junk, .junk, .junk, .junk, .junk, .junk, .junk, .junk, .junk, .junk, .junk, .junk, .junk, .junk, .junk, .junk, .junk, .junk, .junk, .junk, .junk, .junk, .junk, .junk, .junk, .junk, .junk, .junk, .junk, .junk, .junk, .junk, .junk, .junk, .junk, .junk, .junk, .junk, .junk, .junk], [.box (List.map .d (Kern.mk ext sets).c), .box (List.map .d (ASet.mk ⟨ta, tb, ts⟩ tmask ⟨top, tkind, tn, tref, tkids⟩).c), .box (List.map .d (ASet.mk ⟨sa, sb, ss⟩ smask ⟨sop, skind, sn, sref, skids⟩).c), .row 3 (LT.map Ref.c), .row 3 (LS.map Ref.c)]⟩ : St), ?_, ?_⟩
                    · refine ⟨LS.length, ?_⟩
                      conv => whnf
                      exact ⟨0, by omega, by omega, by omega, rfl⟩
                    · rintro n4 _ ⟨i, hi, rfl, hno2, rfl⟩
                      conv => whnf
                      ((with_reducible refine And.intro (fun (e : (_ : Bool) = true) => ?_) (fun (e : (_ : Bool) = false) => ?_)) <;> (try simp only [reduceCtorEq, ints_len, bools_len, Bool.not_false, Bool.not_true, List.length_map, decide_eq_true_eq, decide_eq_false_iff_not, Bool.not_eq_true', Bool.not_eq_false', Bool.and_eq_true, Bool.or_eq_true, Bool.and_eq_false_iff, Bool.or_eq_false_iff, beq_iff_eq, bne_iff_ne, beq_eq_false_iff_ne, bne_eq_false_iff_eq, Int.not_lt, Int.not_le, ge_iff_le, gt_iff_lt, not_or, not_and, Bool.cond_true_right, Bool.cond_true_left, Bool.cond_false_right, Bool.cond_false_left, bif_t, bif_f] at e) <;> (conv => whnf))
                      · obtain ⟨x, hx⟩ := get_lt (l := LS) (i := i) (by omega)
                        have hxr := hSr x (List.mem_of_getElem? hx)
                        (refine And.intro ⟨by omega, by rw [map_len]; omega⟩ ?_; (conv => whnf); refine ⟨_, And.intro (enc_get hx) ?_⟩; (conv => whnf))
                        obtain ⟨xa, xb, xs⟩ := x
                        conv => whnf
                        (refine ⟨[], false, false, ?_⟩; (conv => whnf); refine ⟨_, _, ⟨ext, lanes, ⟨xa, xb, xs⟩, ⟨ta, tb, ts⟩, rfl, rfl, hxr, hTt, hln, rfl, rfl⟩, ?_⟩; (conv => whnf))
                        ((with_reducible refine And.intro (fun (e : (_ : Bool) = true) => ?_) (fun (e : (_ : Bool) = false) => ?_)) <;> (try simp only [reduceCtorEq, ints_len, bools_len, Bool.not_false, Bool.not_true, List.length_map, decide_eq_true_eq, decide_eq_false_iff_not, Bool.not_eq_true', Bool.not_eq_false', Bool.and_eq_true, Bool.or_eq_true, Bool.and_eq_false_iff, Bool.or_eq_false_iff, beq_iff_eq, bne_iff_ne, beq_eq_false_iff_ne, bne_eq_false_iff_eq, Int.not_lt, Int.not_le, ge_iff_le, gt_iff_lt, not_or, not_and, Bool.cond_true_right, Bool.cond_true_left, Bool.cond_false_right, Bool.cond_false_left, bif_t, bif_f] at e) <;> (conv => whnf))
                        · have e4 := e
                          (refine ⟨[], ?_⟩; (conv => whnf); refine ⟨[], .nil, .nil, ?_⟩; (conv => whnf))
                          congr 1
                          refine (hN ?_).symm
                          rw [hR, List.any_eq_true.2 ⟨_, List.mem_of_getElem? hx, e4⟩]; rfl
                        · have e4 := e
                          (refine And.intro ?_ ?_; ((first | (with_reducible assumption) | (intro _; with_reducible assumption) | omega | (simp only [reduceCtorEq, ints_len, bools_len, Bool.not_false, Bool.not_true, List.length_map, decide_eq_true_eq, decide_eq_false_iff_not, Bool.not_eq_true', Bool.not_eq_false', Bool.and_eq_true, Bool.or_eq_true, Bool.and_eq_false_iff, Bool.or_eq_false_iff, beq_iff_eq, bne_iff_ne, beq_eq_false_iff_ne, bne_eq_false_iff_eq, Int.not_lt, Int.not_le, ge_iff_le, gt_iff_lt, not_or, not_and, Bool.cond_true_right, Bool.cond_true_left, Bool.cond_false_right, Bool.cond_false_left, bif_t, bif_f] at *; omega) | (intro hg; (try simp only [reduceCtorEq, ints_len, bools_len, Bool.not_false, Bool.not_true, List.length_map, decide_eq_true_eq, decide_eq_false_iff_not, Bool.not_eq_true', Bool.not_eq_false', Bool.and_eq_true, Bool.or_eq_true, Bool.and_eq_false_iff, Bool.or_eq_false_iff, beq_iff_eq, bne_iff_ne, beq_eq_false_iff_ne, bne_eq_false_iff_eq, Int.not_lt, Int.not_le, ge_iff_le, gt_iff_lt, not_or, not_and, Bool.cond_true_right, Bool.cond_true_left, Bool.cond_false_right, Bool.cond_false_left, bif_t, bif_f] at hg); first | (with_reducible assumption) | omega | (simp only [reduceCtorEq, ints_len, bools_len, Bool.not_false, Bool.not_true, List.length_map, decide_eq_true_eq, decide_eq_false_iff_not, Bool.not_eq_true', Bool.not_eq_false', Bool.and_eq_true, Bool.or_eq_true, Bool.and_eq_false_iff, Bool.or_eq_false_iff, beq_iff_eq, bne_iff_ne, beq_eq_false_iff_ne, bne_eq_false_iff_eq, Int.not_lt, Int.not_le, ge_iff_le, gt_iff_lt, not_or, not_and, Bool.cond_true_right, Bool.cond_true_left, Bool.cond_false_right, Bool.cond_false_left, bif_t, bif_f] at *; omega) | (refine ⟨?_, ?_⟩ <;> omega)) | (refine ⟨?_, ?_⟩ <;> omega) | (simp [*]; done) | grind)); (conv => whnf))
                          refine ⟨LS.length - (i + 1), by omega, [], ?_⟩
                          conv => whnf
                          refine ⟨i + 1, by omega, rfl, fun j hj r hr => ?_, rfl⟩
                          by_cases ej : j = i
                          · subst ej; rw [hx] at hr; cases hr; exact e4
                          · exact hno2 j (by omega) r hr
                      · have hany2 : (LS.any fun r => hits ext lanes r ⟨ta, tb, ts⟩) = false := by
                          rw [List.any_eq_false]
                          intro r hr
                          obtain ⟨j, hj⟩ := List.getElem?_of_mem hr
                          rw [hno2 j (by have := (List.getElem?_eq_some_iff.1 hj).1; omega) r hj]; decide
                        (refine And.intro ?_ ?_; ((first | (with_reducible assumption) | (intro _; with_reducible assumption) | omega | (simp only [reduceCtorEq, ints_len, bools_len, Bool.not_false, Bool.not_true, List.length_map, decide_eq_true_eq, decide_eq_false_iff_not, Bool.not_eq_true', Bool.not_eq_false', Bool.and_eq_true, Bool.or_eq_true, Bool.and_eq_false_iff, Bool.or_eq_false_iff, beq_iff_eq, bne_iff_ne, beq_eq_false_iff_ne, bne_eq_false_iff_eq, Int.not_lt, Int.not_le, ge_iff_le, gt_iff_lt, not_or, not_and, Bool.cond_true_right, Bool.cond_true_left, Bool.cond_false_right, Bool.cond_false_left, bif_t, bif_f] at *; omega) | (intro hg; (try simp only [reduceCtorEq, ints_len, bools_len, Bool.not_false, Bool.not_true, List.length_map, decide_eq_true_eq, decide_eq_false_iff_not, Bool.not_eq_true', Bool.not_eq_false', Bool.and_eq_true, Bool.or_eq_true, Bool.and_eq_false_iff, Bool.or_eq_false_iff, beq_iff_eq, bne_iff_ne, beq_eq_false_iff_ne, bne_eq_false_iff_eq, Int.not_lt, Int.not_le, ge_iff_le, gt_iff_lt, not_or, not_and, Bool.cond_true_right, Bool.cond_true_left, Bool.cond_false_right, Bool.cond_false_left, bif_t, bif_f] at hg); first | (with_reducible assumption) | omega | (simp only [reduceCtorEq, ints_len, bools_len, Bool.not_false, Bool.not_true, List.length_map, decide_eq_true_eq, decide_eq_false_iff_not, Bool.not_eq_true', Bool.not_eq_false', Bool.and_eq_true, Bool.or_eq_true, Bool.and_eq_false_iff, Bool.or_eq_false_iff, beq_iff_eq, bne_iff_ne, beq_eq_false_iff_ne, bne_eq_false_iff_eq, Int.not_lt, Int.not_le, ge_iff_le, gt_iff_lt, not_or, not_and, Bool.cond_true_right, Bool.cond_true_left, Bool.cond_false_right, Bool.cond_false_left, bif_t, bif_f] at *; omega) | (refine ⟨?_, ?_⟩ <;> omega)) | (refine ⟨?_, ?_⟩ <;> omega) | (simp [*]; done) | grind)); (conv => whnf))
                        refine ⟨s + 1 - (t + 1), by omega, [], ?_⟩
                        conv => whnf
                        refine ⟨t + 1, by omega, rfl, fun t' ht' => ?_, rfl⟩
                        by_cases et : t' = t
                        · subst et; rw [hR, hany2]; rfl
                        · exact hin t' (by omega)
        · (refine And.intro ?_ ?_; ((first | (with_reducible assumption) | (intro _; with_reducible assumption) | omega | (simp only [reduceCtorEq, ints_len, bools_len, Bool.not_false, Bool.not_true, List.length_map, decide_eq_true_eq, decide_eq_false_iff_not, Bool.not_eq_true', Bool.not_eq_false', Bool.and_eq_true, Bool.or_eq_true, Bool.and_eq_false_iff, Bool.or_eq_false_iff, beq_iff_eq, bne_iff_ne, beq_eq_false_iff_ne, bne_eq_false_iff_eq, Int.not_lt, Int.not_le, ge_iff_le, gt_iff_lt, not_or, not_and, Bool.cond_true_right, Bool.cond_true_left, Bool.cond_false_right, Bool.cond_false_left, bif_t, bif_f] at *; omega) | (intro hg; (try simp only [reduceCtorEq, ints_len, bools_len, Bool.not_false, Bool.not_true, List.length_map, decide_eq_true_eq, decide_eq_false_iff_not, Bool.not_eq_true', Bool.not_eq_false', Bool.and_eq_true, Bool.or_eq_true, Bool.and_eq_false_iff, Bool.or_eq_false_iff, beq_iff_eq, bne_iff_ne, beq_eq_false_iff_ne, bne_eq_false_iff_eq, Int.not_lt, Int.not_le, ge_iff_le, gt_iff_lt, not_or, not_and, Bool.cond_true_right, Bool.cond_true_left, Bool.cond_false_right, Bool.cond_false_left, bif_t, bif_f] at hg); first | (with_reducible assumption) | omega | (simp only [reduceCtorEq, ints_len, bools_len, Bool.not_false, Bool.not_true, List.length_map, decide_eq_true_eq, decide_eq_false_iff_not, Bool.not_eq_true', Bool.not_eq_false', Bool.and_eq_true, Bool.or_eq_true, Bool.and_eq_false_iff, Bool.or_eq_false_iff, beq_iff_eq, bne_iff_ne, beq_eq_false_iff_ne, bne_eq_false_iff_eq, Int.not_lt, Int.not_le, ge_iff_le, gt_iff_lt, not_or, not_and, Bool.cond_true_right, Bool.cond_true_left, Bool.cond_false_right, Bool.cond_false_left, bif_t, bif_f] at *; omega) | (refine ⟨?_, ?_⟩ <;> omega)) | (refine ⟨?_, ?_⟩ <;> omega) | (simp [*]; done) | grind)); (conv => whnf))
          refine ⟨sets.length - (s + 1), by omega, [], ?_⟩
          conv => whnf
          refine ⟨s + 1, by omega, rfl, fun s' hs' t' ht' => ?_, rfl⟩
          by_cases es : s' = s
          · subst es; exact hin t' (by omega)
          · exact hall s' (by omega) t' ht'
    · (refine ⟨[], ?_⟩; (conv => whnf); refine ⟨[], .nil, .nil, ?_⟩; (conv => whnf))
      congr 1
      exact (rightR_iff.2 fun s' hs' t' ht' => hall s' (by simp only at hs'; omega) t' ht').symm
end Go.Proofs.Ytahdihhhankhdaa.V

