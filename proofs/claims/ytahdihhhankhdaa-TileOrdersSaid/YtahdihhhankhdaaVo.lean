/-
  V: right. By the session's own hand.
-/
import Derived.Test.YtahdihhhankhdaaVn
set_option linter.unusedVariables false
set_option linter.unusedSimpArgs false
set_option maxRecDepth 100000
set_option linter.all false
set_option linter.unnecessarySimpa false
set_option linter.deprecated false
namespace Go.Proofs.Ytahdihhhankhdaa.V
open Go.Proofs.YtahdihhhankhdaaVY Go.RowKit
def rightAt (k : Kern) (lanes : Int) (s t : Nat) : Bool := match k.sets[s]?, k.sets[t]? with
  | some S0, some T0 => !wrong k lanes s t S0.to T0.to false && !(T0.loads.any fun r => wrong k lanes s t S0.to r true)
  | _, _ => true
def right (k : Kern) (lanes : Int) : Bool := (List.range k.sets.length).all fun s => (List.range k.sets.length).all fun t => rightAt k lanes s t
theorem right_not {k : Kern} {lanes : Int} {s t : Nat} (hs : s < k.sets.length) (ht : t < k.sets.length) (h : rightAt k lanes s t = false) : right k lanes = false := by
  unfold right
  rw [List.all_eq_false]
  refine ⟨s, List.mem_range.2 hs, ?_⟩
  have : ((List.range k.sets.length).all fun t => rightAt k lanes s t) = false := List.all_eq_false.2 ⟨t, List.mem_range.2 ht, by rw [h]; decide⟩
  rw [this]; decide
def R58 : Ct := fun ss hp r out => ∃ (k : Kern) (lanes : Int), ss = [.v (.ag (k.c.map .d)), .di .i64 lanes] ∧ hp = [] ∧ k.bulk ≤ 4194304 ∧ formed k = true ∧ 1 ≤ lanes ∧ r = .db (right k lanes) ∧ out = []
set_option maxHeartbeats 4000000 in
theorem ok58 : VSound Try.prog (58, R58) := by
  refine vsound (T := ty) (F := [(95, R95), (96, R96), (97, R97 98 R98)]) (pl := [(7, [[], [], [], [], [], [4], [], [4, 5, 6], [4, 5, 6, 7], [4, 5, 6, 7, 8], [], [10], [], [10, 11, 12], [10, 11, 12, 13], [10, 11, 12, 13, 14], [0, 1, 2, 3, 4, 5, 6, 7, 8, 9, 10, 11, 12, 13, 14, 15]], .look 0 (.look 1 (.look 2 (.look 3 (.look 4 (.look 5 (.look 6 (.look 7 (.look 8 (.look 9 (.look 10 (.look 11 (.look 12 (.look 13 (.look 14 (.look 15 (.act 16 [] .done .stop)))))))))))))))))]) (nw := true) (cuts := []) mix tyOk (.cons (ok95) (.cons (ok96) (.cons (ok97 98 R98 ok98) .nil))) Try.func58 (by kernel_rfl) (by kernel_rfl) ?_
  rintro _ _ _ _ ⟨⟨ext, sets⟩, lanes, rfl, rfl, hm, hf, hln, rfl, rfl⟩
  simp only [Kern.bulk] at hm
  have hkl := setsBulk_len sets
  conv => whnf
  refine ⟨[], [2, 3, 11, 12], 2, fun n1 σ => ∃ s : Nat, s ≤ sets.length ∧ n1 = sets.length - s ∧ (∀ s' < s, ∀ t' < sets.length, rightAt ⟨ext, sets⟩ lanes s' t' = true) ∧ σ = (⟨[.junk, .junk, .one (.ptr 0 0), .one (.ptr 1 0), .junk, .junk, .junk, .junk, .junk, .junk, .junk, .di .i64 sets.length, .di .i64 s, .junk, .junk, .junk, .junk, .junk, .junk, .junk, .junk, .junk, .junk, .junk, .junk, .junk, .junk, .junk, .junk, .junk, .junk, .junk, .junk, .junk, .junk, .junk, .junk, .junk, .junk, .junk, .junk, .junk, .junk, .junk, .junk, .junk, .junk, .junk, .junk], [.box (List.map .d (Kern.mk ext sets).c), .box [.d (.int .i64 lanes)]]⟩ : St), ?_, ?_⟩
  · refine ⟨sets.length, ?_⟩
    conv => whnf
    refine ⟨0, by omega, by omega, by omega, ?_⟩
    rw [map_len]; rfl
  · rintro n1 _ ⟨s, hs, rfl, hall, rfl⟩
    conv => whnf
    ((with_reducible refine And.intro (fun (e : (_ : Bool) = true) => ?_) (fun (e : (_ : Bool) = false) => ?_)) <;> (try simp only [reduceCtorEq, ints_len, bools_len, Bool.not_false, Bool.not_true, List.length_map, decide_eq_true_eq, decide_eq_false_iff_not, Bool.not_eq_true', Bool.not_eq_false', Bool.and_eq_true, Bool.or_eq_true, Bool.and_eq_false_iff, Bool.or_eq_false_iff, beq_iff_eq, bne_iff_ne, beq_eq_false_iff_ne, bne_eq_false_iff_eq, Int.not_lt, Int.not_le, ge_iff_le, gt_iff_lt, not_or, not_and, Bool.cond_true_right, Bool.cond_true_left, Bool.cond_false_right, Bool.cond_false_left, bif_t, bif_f] at e) <;> (conv => whnf))
    · have hslt : s < sets.length := by omega
      obtain ⟨S0, hgs⟩ := get_lt hslt
      have hbs := setsBulk_get hgs
      have hto : S0.to.str.length ≤ S0.bulk := by rw [ASet.bulk]; omega
      refine ⟨[], [2, 3, 5, 11, 12, 17, 18], 3, fun n2 σ => ∃ t : Nat, t ≤ sets.length ∧ n2 = sets.length - t ∧ (∀ t' < t, rightAt ⟨ext, sets⟩ lanes s t' = true) ∧ σ = (⟨[.junk, .junk, .one (.ptr 0 0), .one (.ptr 1 0), .junk, .one (.ptr 2 0), .junk, .junk, .junk, .junk, .junk, .di .i64 sets.length, .di .i64 s, .junk, .junk, .junk, .junk, .di .i64 sets.length, .di .i64 t, .junk, .junk, .junk, .junk, .junk, .junk, .junk, .junk, .junk, .junk, .junk, .junk, .junk, .junk, .junk, .junk, .junk, .junk, .junk, .junk, .junk, .junk, .junk, .junk, .junk, .junk, .junk, .junk, .junk, .junk], [.box (List.map .d (Kern.mk ext sets).c), .box [.d (.int .i64 lanes)], .box [.d (.int .i64 s)]]⟩ : St), ?_, ?_⟩
      · refine ⟨sets.length, ?_⟩
        conv => whnf
        refine ⟨0, by omega, by omega, by omega, ?_⟩
        rw [map_len]; rfl
      · rintro n2 _ ⟨t, ht, rfl, hin, rfl⟩
        conv => whnf
        ((with_reducible refine And.intro (fun (e : (_ : Bool) = true) => ?_) (fun (e : (_ : Bool) = false) => ?_)) <;> (try simp only [reduceCtorEq, ints_len, bools_len, Bool.not_false, Bool.not_true, List.length_map, decide_eq_true_eq, decide_eq_false_iff_not, Bool.not_eq_true', Bool.not_eq_false', Bool.and_eq_true, Bool.or_eq_true, Bool.and_eq_false_iff, Bool.or_eq_false_iff, beq_iff_eq, bne_iff_ne, beq_eq_false_iff_ne, bne_eq_false_iff_eq, Int.not_lt, Int.not_le, ge_iff_le, gt_iff_lt, not_or, not_and, Bool.cond_true_right, Bool.cond_true_left, Bool.cond_false_right, Bool.cond_false_left, bif_t, bif_f] at e) <;> (conv => whnf))
        · have htlt : t < sets.length := by omega
          obtain ⟨T0, hgt⟩ := get_lt htlt
          have hbt := setsBulk_get hgt
          have htto : T0.to.str.length ≤ T0.bulk := by rw [ASet.bulk]; omega
          have hll := T0.loads_len
          have hstr : ∀ r ∈ T0.loads, r.str.length ≤ T0.bulk := fun r hr => ASet.loads_str hr
          have hR : rightAt ⟨ext, sets⟩ lanes s t = (!wrong ⟨ext, sets⟩ lanes s t S0.to T0.to false && !(T0.loads.any fun r => wrong ⟨ext, sets⟩ lanes s t S0.to r true)) := by
            unfold rightAt; rw [hgs, hgt]
          have hL : loadsOf ⟨ext, sets⟩ t = T0.loads := by
            unfold loadsOf
            rw [if_pos ⟨hf, by omega, by simp only; omega⟩, Int.toNat_natCast]; simp only; rw [hgt]; rfl
          refine ⟨_, And.intro ⟨?_, enc_get hgs⟩ ?_⟩
          · omega
          obtain ⟨⟨sa, sb, ss⟩, smask, ⟨sop, skind, sn, sref, skids⟩⟩ := S0
          conv => whnf
          refine ⟨_, And.intro ⟨?_, enc_get hgt⟩ ?_⟩
          · omega
          obtain ⟨⟨ta, tb, ts⟩, tmask, ⟨top, tkind, tn, tref, tkids⟩⟩ := T0
          conv => whnf
          refine ⟨[], false, false, ?_⟩
          conv => whnf
          refine ⟨_, _, ⟨⟨ext, sets⟩, lanes, s, t, ⟨sa, sb, ss⟩, ⟨ta, tb, ts⟩, false, rfl, rfl, by simp only; omega, by simp only at hto ⊢; omega, by simp only at htto ⊢; omega, hln, rfl, rfl⟩, ?_⟩
          conv => whnf
          ((with_reducible refine And.intro (fun (e : (_ : Bool) = true) => ?_) (fun (e : (_ : Bool) = false) => ?_)) <;> (try simp only [reduceCtorEq, ints_len, bools_len, Bool.not_false, Bool.not_true, List.length_map, decide_eq_true_eq, decide_eq_false_iff_not, Bool.not_eq_true', Bool.not_eq_false', Bool.and_eq_true, Bool.or_eq_true, Bool.and_eq_false_iff, Bool.or_eq_false_iff, beq_iff_eq, bne_iff_ne, beq_eq_false_iff_ne, bne_eq_false_iff_eq, Int.not_lt, Int.not_le, ge_iff_le, gt_iff_lt, not_or, not_and, Bool.cond_true_right, Bool.cond_true_left, Bool.cond_false_right, Bool.cond_false_left, bif_t, bif_f] at e) <;> (conv => whnf))
          · have hw := e
            (refine ⟨[], ?_⟩; (conv => whnf); refine ⟨[], .nil, .nil, ?_⟩; (conv => whnf))
            congr 1
            exact (right_not (k := ⟨ext, sets⟩) hslt htlt (by rw [hR]; simp only; rw [hw]; rfl)).symm
          · have hw := e
            refine ⟨[], false, false, ?_⟩
            conv => whnf
            refine ⟨_, _, ⟨⟨ext, sets⟩, t, rfl, rfl, by simp only [Kern.bulk]; omega, rfl, rfl⟩, ?_⟩
            conv => whnf
            refine ⟨[], false, false, ?_⟩
            conv => whnf
            have hll2 : (loadsOf ⟨ext, sets⟩ t).length ≤ 4194304 := by rw [hL]; omega
            have hstr2 : ∀ r ∈ loadsOf ⟨ext, sets⟩ t, r.str.length ≤ 4194304 := by
              intro r hr
              rw [hL] at hr
              have := hstr r hr
              omega
            refine ⟨_, _, ⟨loadsOf ⟨ext, sets⟩ t, _, fun r => wrong ⟨ext, sets⟩ lanes s t ⟨sa, sb, ss⟩ r true, rfl, rfl, by omega, rfl, fun r hr => ⟨⟨ext, sets⟩, lanes, s, t, r, _, rfl, rfl, by simp only; omega, by simp only at hto ⊢; omega, by have := hstr2 r hr; omega, hln, hgs, rfl, rfl⟩, rfl, rfl⟩, ?_⟩
            conv => whnf
            rw [hL]
            ((with_reducible refine And.intro (fun (e : (_ : Bool) = true) => ?_) (fun (e : (_ : Bool) = false) => ?_)) <;> (try simp only [reduceCtorEq, ints_len, bools_len, Bool.not_false, Bool.not_true, List.length_map, decide_eq_true_eq, decide_eq_false_iff_not, Bool.not_eq_true', Bool.not_eq_false', Bool.and_eq_true, Bool.or_eq_true, Bool.and_eq_false_iff, Bool.or_eq_false_iff, beq_iff_eq, bne_iff_ne, beq_eq_false_iff_ne, bne_eq_false_iff_eq, Int.not_lt, Int.not_le, ge_iff_le, gt_iff_lt, not_or, not_and, Bool.cond_true_right, Bool.cond_true_left, Bool.cond_false_right, Bool.cond_false_left, bif_t, bif_f] at e) <;> (conv => whnf))
            · have hw2 := e
              (refine ⟨[], ?_⟩; (conv => whnf); refine ⟨[], .nil, .nil, ?_⟩; (conv => whnf))
              congr 1
              exact (right_not (k := ⟨ext, sets⟩) hslt htlt (by rw [hR]; simp only; rw [hw2, Bool.not_true, Bool.and_false])).symm
            · have hw2 := e
              (refine And.intro ?_ ?_; ((first | (with_reducible assumption) | (intro _; with_reducible assumption) | omega | (simp only [reduceCtorEq, ints_len, bools_len, Bool.not_false, Bool.not_true, List.length_map, decide_eq_true_eq, decide_eq_false_iff_not, Bool.not_eq_true', Bool.not_eq_false', Bool.and_eq_true, Bool.or_eq_true, Bool.and_eq_false_iff, Bool.or_eq_false_iff, beq_iff_eq, bne_iff_ne, beq_eq_false_iff_ne, bne_eq_false_iff_eq, Int.not_lt, Int.not_le, ge_iff_le, gt_iff_lt, not_or, not_and, Bool.cond_true_right, Bool.cond_true_left, Bool.cond_false_right, Bool.cond_false_left, bif_t, bif_f] at *; omega) | (intro hg; (try simp only [reduceCtorEq, ints_len, bools_len, Bool.not_false, Bool.not_true, List.length_map, decide_eq_true_eq, decide_eq_false_iff_not, Bool.not_eq_true', Bool.not_eq_false', Bool.and_eq_true, Bool.or_eq_true, Bool.and_eq_false_iff, Bool.or_eq_false_iff, beq_iff_eq, bne_iff_ne, beq_eq_false_iff_ne, bne_eq_false_iff_eq, Int.not_lt, Int.not_le, ge_iff_le, gt_iff_lt, not_or, not_and, Bool.cond_true_right, Bool.cond_true_left, Bool.cond_false_right, Bool.cond_false_left, bif_t, bif_f] at hg); first | (with_reducible assumption) | omega | (simp only [reduceCtorEq, ints_len, bools_len, Bool.not_false, Bool.not_true, List.length_map, decide_eq_true_eq, decide_eq_false_iff_not, Bool.not_eq_true', Bool.not_eq_false', Bool.and_eq_true, Bool.or_eq_true, Bool.and_eq_false_iff, Bool.or_eq_false_iff, beq_iff_eq, bne_iff_ne, beq_eq_false_iff_ne, bne_eq_false_iff_eq, Int.not_lt, Int.not_le, ge_iff_le, gt_iff_lt, not_or, not_and, Bool.cond_true_right, Bool.cond_true_left, Bool.cond_false_right, Bool.cond_false_left, bif_t, bif_f] at *; omega) | (refine ⟨?_, ?_⟩ <;> omega)) | (refine ⟨?_, ?_⟩ <;> omega) | (simp [*]; done) | grind)); (conv => whnf))
              refine ⟨sets.length - (t + 1), by omega, [], ?_⟩
              conv => whnf
              refine ⟨t + 1, by omega, rfl, fun t' ht' => ?_, rfl⟩
              by_cases et : t' = t
              · subst et; rw [hR]; simp only; rw [hw, hw2]; rfl
              · exact hin t' (by omega)
        · (refine And.intro ?_ ?_; ((first | (with_reducible assumption) | (intro _; with_reducible assumption) | omega | (simp only [reduceCtorEq, ints_len, bools_len, Bool.not_false, Bool.not_true, List.length_map, decide_eq_true_eq, decide_eq_false_iff_not, Bool.not_eq_true', Bool.not_eq_false', Bool.and_eq_true, Bool.or_eq_true, Bool.and_eq_false_iff, Bool.or_eq_false_iff, beq_iff_eq, bne_iff_ne, beq_eq_false_iff_ne, bne_eq_false_iff_eq, Int.not_lt, Int.not_le, ge_iff_le, gt_iff_lt, not_or, not_and, Bool.cond_true_right, Bool.cond_true_left, Bool.cond_false_right, Bool.cond_false_left, bif_t, bif_f] at *; omega) | (intro hg; (try simp only [reduceCtorEq, ints_len, bools_len, Bool.not_false, Bool.not_true, List.length_map, decide_eq_true_eq, decide_eq_false_iff_not, Bool.not_eq_true', Bool.not_eq_false', Bool.and_eq_true, Bool.or_eq_true, Bool.and_eq_false_iff, Bool.or_eq_false_iff, beq_iff_eq, bne_iff_ne, beq_eq_false_iff_ne, bne_eq_false_iff_eq, Int.not_lt, Int.not_le, ge_iff_le, gt_iff_lt, not_or, not_and, Bool.cond_true_right, Bool.cond_true_left, Bool.cond_false_right, Bool.cond_false_left, bif_t, bif_f] at hg); first | (with_reducible assumption) | omega | (simp only [reduceCtorEq, ints_len, bools_len, Bool.not_false, Bool.not_true, List.length_map, decide_eq_true_eq, decide_eq_false_iff_not, Bool.not_eq_true', Bool.not_eq_false', Bool.and_eq_true, Bool.or_eq_true, Bool.and_eq_false_iff, Bool.or_eq_false_iff, beq_iff_eq, bne_iff_ne, beq_eq_false_iff_ne, bne_eq_false_iff_eq, Int.not_lt, Int.not_le, ge_iff_le, gt_iff_lt, not_or, not_and, Bool.cond_true_right, Bool.cond_true_left, Bool.cond_false_right, Bool.cond_false_left, bif_t, bif_f] at *; omega) | (refine ⟨?_, ?_⟩ <;> omega)) | (refine ⟨?_, ?_⟩ <;> omega) | (simp [*]; done) | grind)); (conv => whnf))
          refine ⟨sets.length - (s + 1), by omega, [], ?_⟩
          conv => whnf
          refine ⟨s + 1, by omega, rfl, fun s' hs' t' ht' => ?_, rfl⟩
          by_cases es : s' = s
          · subst es; exact hin t' (by omega)
          · exact hall s' (by omega) t' ht'
    · (refine ⟨[], ?_⟩; (conv => whnf); refine ⟨[], .nil, .nil, ?_⟩; (conv => whnf))
      congr 1
      unfold right
      refine (List.all_eq_true.2 fun s' hs' => List.all_eq_true.2 fun t' ht' => ?_).symm
      have h1 := List.mem_range.1 hs'
      have h2 := List.mem_range.1 ht'
      simp only at h1 h2
      exact hall s' (by omega) t' h2
end Go.Proofs.Ytahdihhhankhdaa.V

