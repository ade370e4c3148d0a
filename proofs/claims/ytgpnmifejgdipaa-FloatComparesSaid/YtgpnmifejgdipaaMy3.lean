-- PRINTED by print.py (a twelfth state) out of the translation. Not trusted: Lean checks it.
import Derived.Test.YtgpnmifejgdipaaMy0
namespace Go.Proofs.Ytgpnmifejgdipaa.My
open Go.RowKit Go.Proofs.YtgpnmifejgdipaaW.PrintWords Go.Proofs.YtgpnmifejgdipaaW.PrintLast Go.Proofs.YtgpnmifejgdipaaW.PrintMore
attribute [local go_sem] max2_int min2_int max_two min_two max_three min_three max_four min_four   -- for this text's walks alone
set_option linter.unusedVariables false
set_option linter.unusedSimpArgs false

/-! ### float_of: function 53 -/
def float_of.f (a0 : Int) : Option (Int × Int × Bool) := if a0 = 2 then (some (11, 5, true)) else (if a0 = 4 then (some (24, 8, true)) else (if a0 = 8 then (some (53, 11, true)) else (some (0, 0, false))))
set_option maxHeartbeats 8000000 in
set_option maxRecDepth 100000 in
theorem float_of.calls (a0 : Int) (r1 : Int) (r2 : Int) (r3 : Bool) (w : World) (h : float_of.f a0 = some (r1, r2, r3)) :
    Calls Try.prog 53 #[.int .i64 a0] w fun e w' => e = .returned (.tuple #[.agg #[.int .i64 r1, .int .i64 r2], .bool r3]) ∧ Below w.heap.size w w' := by
  have hu42 := Try.underlying42
  have HB := Aside0.mk (Below.refl w.heap.size w)
  have H : (if a0 = 2 then (some (11, 5, true)) else (if a0 = 4 then (some (24, 8, true)) else (if a0 = 8 then (some (53, 11, true)) else (some (0, 0, false))))) = some (r1, r2, r3) := h
  clear h
  by_cases c2 : a0 = 2
  · rw [if_pos c2] at H
    have c2b0 : (a0 == 2) = true := beq_iff_eq.mpr c2
    have c2b1 : (a0 != 2) = false := bne_eq_false_iff_eq.mpr c2
    clear c2
    simp only [Option.some.injEq, Prod.mk.injEq] at H
    obtain ⟨rfl, rfl, rfl⟩ := H
    go_enter Try.func53, Try.ntmps53
    go_wp2_with (first | ((with_reducible refine gate_dst (N := 2) rfl ?_); refine box_event ?hg (N := 2) ?hd (cs := #[.int .i64 0, .int .i64 0]) (t := 42) ?hr ?_; (case hd => rfl); (case hg => rfl); (case hr => first | (go_simp; done) | (go_simp; rfl)); intro gb101 hg w3 hbox hb; have n0_ := Aside0.mk (below_step (by repeat (first | (with_reducible first | exact HB.out | apply below_alloc | apply pw_below_drewN | apply below_drew1) | exact HB.out)) hb); have n1_ := Aside0.mk (hbox); have n2_ := Aside0.mk ((by rw [hg]; exact (below_size (by repeat (first | (with_reducible first | exact HB.out | apply below_alloc | apply pw_below_drewN | apply below_drew1) | exact HB.out))) : w.heap.size ≤ gb101)); have n3_ := Aside0.mk ((by rw [hg]; exact (below_size (by repeat (first | (with_reducible first | exact HB.out | apply below_alloc | apply pw_below_drewN | apply below_drew1) | exact HB.out))) : w.heap.size ≤ gb101)); clear HB; have HB := n0_; have BK101 := n1_; have GW101 := n2_; have GE101 := n3_; clear n0_ n1_ n2_ n3_; clear hb hbox hg; have hcz4_0 : w3.cell? ⟨gb101, 0, none⟩ = some (.int .i64 0) := (blk_cell BK101.out 0).trans rfl; have hcz4_1 : w3.cell? ⟨gb101, 1, none⟩ = some (.int .i64 0) := (blk_cell BK101.out 1).trans rfl; have hfz4_0 := blk_frozen BK101.out 0; have hfz4_1 := blk_frozen BK101.out 1))
    refine bodyPost_ret (results_ct rfl _ _ gb101 42 #[.int .i64 11, .int .i64 5] (0, 0) _ rfl (by (with_reducible repeat (first | refine blk_drewN ?_ _ | refine blk_drew ?_ | refine blk_alloc ?_ _)); refine blk_put (cs := #[.int .i64 11, .int .i64 0]) ?_ 1 _ rfl; (with_reducible repeat (first | refine blk_drewN ?_ _ | refine blk_drew ?_ | refine blk_alloc ?_ _)); refine blk_put (cs := #[.int .i64 0, .int .i64 0]) ?_ 0 _ rfl; (with_reducible repeat (first | refine blk_drewN ?_ _ | refine blk_drew ?_ | refine blk_alloc ?_ _)); exact BK101.out) Try.underlying42 rfl (by kernel_rfl)) rfl ?_
    exact ⟨by first | rfl | (simp [errW_none, errW_some] <;> rfl) | (simp [*, errW_none, errW_some] <;> rfl), by repeat (first | (with_reducible first | exact HB.out | apply below_alloc | apply pw_below_drewN | apply below_drew1 | refine below_set ?_ GE101.out) | exact HB.out)⟩
  · rw [if_neg c2] at H
    have c2b0 : (a0 == 2) = false := beq_eq_false_iff_ne.mpr c2
    have c2b1 : (a0 != 2) = true := bne_iff_ne.mpr c2
    by_cases c5 : a0 = 4
    · rw [if_pos c5] at H
      have c5b0 : (a0 == 4) = true := beq_iff_eq.mpr c5
      have c5b1 : (a0 != 4) = false := bne_eq_false_iff_eq.mpr c5
      clear c5
      simp only [Option.some.injEq, Prod.mk.injEq] at H
      obtain ⟨rfl, rfl, rfl⟩ := H
      go_enter Try.func53, Try.ntmps53
      go_wp2_with (first | ((with_reducible refine gate_dst (N := 2) rfl ?_); refine box_event ?hg (N := 2) ?hd (cs := #[.int .i64 0, .int .i64 0]) (t := 42) ?hr ?_; (case hd => rfl); (case hg => rfl); (case hr => first | (go_simp; done) | (go_simp; rfl)); intro gb101 hg w6 hbox hb; have n0_ := Aside0.mk (below_step (by repeat (first | (with_reducible first | exact HB.out | apply below_alloc | apply pw_below_drewN | apply below_drew1) | exact HB.out)) hb); have n1_ := Aside0.mk (hbox); have n2_ := Aside0.mk ((by rw [hg]; exact (below_size (by repeat (first | (with_reducible first | exact HB.out | apply below_alloc | apply pw_below_drewN | apply below_drew1) | exact HB.out))) : w.heap.size ≤ gb101)); have n3_ := Aside0.mk ((by rw [hg]; exact (below_size (by repeat (first | (with_reducible first | exact HB.out | apply below_alloc | apply pw_below_drewN | apply below_drew1) | exact HB.out))) : w.heap.size ≤ gb101)); clear HB; have HB := n0_; have BK101 := n1_; have GW101 := n2_; have GE101 := n3_; clear n0_ n1_ n2_ n3_; clear hb hbox hg; have hcz7_0 : w6.cell? ⟨gb101, 0, none⟩ = some (.int .i64 0) := (blk_cell BK101.out 0).trans rfl; have hcz7_1 : w6.cell? ⟨gb101, 1, none⟩ = some (.int .i64 0) := (blk_cell BK101.out 1).trans rfl; have hfz7_0 := blk_frozen BK101.out 0; have hfz7_1 := blk_frozen BK101.out 1))
      refine bodyPost_ret (results_ct rfl _ _ gb101 42 #[.int .i64 24, .int .i64 8] (0, 0) _ rfl (by (with_reducible repeat (first | refine blk_drewN ?_ _ | refine blk_drew ?_ | refine blk_alloc ?_ _)); refine blk_put (cs := #[.int .i64 24, .int .i64 0]) ?_ 1 _ rfl; (with_reducible repeat (first | refine blk_drewN ?_ _ | refine blk_drew ?_ | refine blk_alloc ?_ _)); refine blk_put (cs := #[.int .i64 0, .int .i64 0]) ?_ 0 _ rfl; (with_reducible repeat (first | refine blk_drewN ?_ _ | refine blk_drew ?_ | refine blk_alloc ?_ _)); exact BK101.out) Try.underlying42 rfl (by kernel_rfl)) rfl ?_
      exact ⟨by first | rfl | (simp [errW_none, errW_some] <;> rfl) | (simp [*, errW_none, errW_some] <;> rfl), by repeat (first | (with_reducible first | exact HB.out | apply below_alloc | apply pw_below_drewN | apply below_drew1 | refine below_set ?_ GE101.out) | exact HB.out)⟩
    · rw [if_neg c5] at H
      have c5b0 : (a0 == 4) = false := beq_eq_false_iff_ne.mpr c5
      have c5b1 : (a0 != 4) = true := bne_iff_ne.mpr c5
      by_cases c8 : a0 = 8
      · rw [if_pos c8] at H
        have c8b0 : (a0 == 8) = true := beq_iff_eq.mpr c8
        have c8b1 : (a0 != 8) = false := bne_eq_false_iff_eq.mpr c8
        clear c8
        simp only [Option.some.injEq, Prod.mk.injEq] at H
        obtain ⟨rfl, rfl, rfl⟩ := H
        go_enter Try.func53, Try.ntmps53
        go_wp2_with (first | ((with_reducible refine gate_dst (N := 2) rfl ?_); refine box_event ?hg (N := 2) ?hd (cs := #[.int .i64 0, .int .i64 0]) (t := 42) ?hr ?_; (case hd => rfl); (case hg => rfl); (case hr => first | (go_simp; done) | (go_simp; rfl)); intro gb101 hg w9 hbox hb; have n0_ := Aside0.mk (below_step (by repeat (first | (with_reducible first | exact HB.out | apply below_alloc | apply pw_below_drewN | apply below_drew1) | exact HB.out)) hb); have n1_ := Aside0.mk (hbox); have n2_ := Aside0.mk ((by rw [hg]; exact (below_size (by repeat (first | (with_reducible first | exact HB.out | apply below_alloc | apply pw_below_drewN | apply below_drew1) | exact HB.out))) : w.heap.size ≤ gb101)); have n3_ := Aside0.mk ((by rw [hg]; exact (below_size (by repeat (first | (with_reducible first | exact HB.out | apply below_alloc | apply pw_below_drewN | apply below_drew1) | exact HB.out))) : w.heap.size ≤ gb101)); clear HB; have HB := n0_; have BK101 := n1_; have GW101 := n2_; have GE101 := n3_; clear n0_ n1_ n2_ n3_; clear hb hbox hg; have hcz10_0 : w9.cell? ⟨gb101, 0, none⟩ = some (.int .i64 0) := (blk_cell BK101.out 0).trans rfl; have hcz10_1 : w9.cell? ⟨gb101, 1, none⟩ = some (.int .i64 0) := (blk_cell BK101.out 1).trans rfl; have hfz10_0 := blk_frozen BK101.out 0; have hfz10_1 := blk_frozen BK101.out 1))
        refine bodyPost_ret (results_ct rfl _ _ gb101 42 #[.int .i64 53, .int .i64 11] (0, 0) _ rfl (by (with_reducible repeat (first | refine blk_drewN ?_ _ | refine blk_drew ?_ | refine blk_alloc ?_ _)); refine blk_put (cs := #[.int .i64 53, .int .i64 0]) ?_ 1 _ rfl; (with_reducible repeat (first | refine blk_drewN ?_ _ | refine blk_drew ?_ | refine blk_alloc ?_ _)); refine blk_put (cs := #[.int .i64 0, .int .i64 0]) ?_ 0 _ rfl; (with_reducible repeat (first | refine blk_drewN ?_ _ | refine blk_drew ?_ | refine blk_alloc ?_ _)); exact BK101.out) Try.underlying42 rfl (by kernel_rfl)) rfl ?_
        exact ⟨by first | rfl | (simp [errW_none, errW_some] <;> rfl) | (simp [*, errW_none, errW_some] <;> rfl), by repeat (first | (with_reducible first | exact HB.out | apply below_alloc | apply pw_below_drewN | apply below_drew1 | refine below_set ?_ GE101.out) | exact HB.out)⟩
      · rw [if_neg c8] at H
        have c8b0 : (a0 == 8) = false := beq_eq_false_iff_ne.mpr c8
        have c8b1 : (a0 != 8) = true := bne_iff_ne.mpr c8
        simp only [Option.some.injEq, Prod.mk.injEq] at H
        obtain ⟨rfl, rfl, rfl⟩ := H
        go_enter Try.func53, Try.ntmps53
        go_wp2_with (first | ((with_reducible refine gate_dst (N := 2) rfl ?_); refine box_event ?hg (N := 2) ?hd (cs := #[.int .i64 0, .int .i64 0]) (t := 42) ?hr ?_; (case hd => rfl); (case hg => rfl); (case hr => first | (go_simp; done) | (go_simp; rfl)); intro gb101 hg w11 hbox hb; have n0_ := Aside0.mk (below_step (by repeat (first | (with_reducible first | exact HB.out | apply below_alloc | apply pw_below_drewN | apply below_drew1) | exact HB.out)) hb); have n1_ := Aside0.mk (hbox); have n2_ := Aside0.mk ((by rw [hg]; exact (below_size (by repeat (first | (with_reducible first | exact HB.out | apply below_alloc | apply pw_below_drewN | apply below_drew1) | exact HB.out))) : w.heap.size ≤ gb101)); have n3_ := Aside0.mk ((by rw [hg]; exact (below_size (by repeat (first | (with_reducible first | exact HB.out | apply below_alloc | apply pw_below_drewN | apply below_drew1) | exact HB.out))) : w.heap.size ≤ gb101)); clear HB; have HB := n0_; have BK101 := n1_; have GW101 := n2_; have GE101 := n3_; clear n0_ n1_ n2_ n3_; clear hb hbox hg; have hcz12_0 : w11.cell? ⟨gb101, 0, none⟩ = some (.int .i64 0) := (blk_cell BK101.out 0).trans rfl; have hcz12_1 : w11.cell? ⟨gb101, 1, none⟩ = some (.int .i64 0) := (blk_cell BK101.out 1).trans rfl; have hfz12_0 := blk_frozen BK101.out 0; have hfz12_1 := blk_frozen BK101.out 1))
        refine bodyPost_ret (results_ct rfl _ _ gb101 42 #[.int .i64 0, .int .i64 0] (0, 0) _ rfl (by (with_reducible repeat (first | refine blk_drewN ?_ _ | refine blk_drew ?_ | refine blk_alloc ?_ _)); refine blk_put (cs := #[.int .i64 0, .int .i64 0]) ?_ 1 _ rfl; (with_reducible repeat (first | refine blk_drewN ?_ _ | refine blk_drew ?_ | refine blk_alloc ?_ _)); refine blk_put (cs := #[.int .i64 0, .int .i64 0]) ?_ 0 _ rfl; (with_reducible repeat (first | refine blk_drewN ?_ _ | refine blk_drew ?_ | refine blk_alloc ?_ _)); exact BK101.out) Try.underlying42 rfl (by kernel_rfl)) rfl ?_
        exact ⟨by first | rfl | (simp [errW_none, errW_some] <;> rfl) | (simp [*, errW_none, errW_some] <;> rfl), by repeat (first | (with_reducible first | exact HB.out | apply below_alloc | apply pw_below_drewN | apply below_drew1 | refine below_set ?_ GE101.out) | exact HB.out)⟩

/-! ### float_shape_top: function 64 -/
def float_shape_top.f (a0_0 : Int) (a0_1 : Int) : Option (Int) := if 0 ≤ a0_1 then (some (IntKind.u64.wrap ((shl .u64 1 a0_1) - 1))) else (none)
set_option maxHeartbeats 8000000 in
set_option maxRecDepth 100000 in
theorem float_shape_top.calls (a0_0 : Int) (a0_1 : Int) (r : Int) (w : World) (h : float_shape_top.f a0_0 a0_1 = some r) :
    Calls Try.prog 64 #[.agg #[.int .i64 a0_0, .int .i64 a0_1]] w fun e w' => e = .returned (.int .u64 r) ∧ Below w.heap.size w w' := by
  have hu42 := Try.underlying42
  have HB := Aside0.mk (Below.refl w.heap.size w)
  have H : (if 0 ≤ a0_1 then (some (IntKind.u64.wrap ((shl .u64 1 a0_1) - 1))) else (none)) = some r := h
  clear h
  by_cases c2 : 0 ≤ a0_1
  · rw [if_pos c2] at H
    have c2b0 := eq_true c2
    have c2b1 : decide (0 ≤ a0_1) = true := decide_eq_true c2
    clear c2
    obtain ⟨ji3, hji3⟩ : ∃ j_ : Int, (shl .u64 1 a0_1) = j_ := ⟨_, rfl⟩
    replace H : (some (IntKind.u64.wrap ((ji3) - 1))) = some r := by first | (rw [hji3] at H; exact H) | (simp only [hji3] at H ⊢; exact H)
    have hji3_ : (IntKind.u64.wrap (1 * 2 ^ min a0_1.toNat 64)) = ji3 := hji3
    have hji3z : a0_1 ≤ 64 → (IntKind.u64.wrap (1 * 2 ^ a0_1.toNat)) = ji3 := shl_small hji3
    have hji3u : (IntKind.u64.wrap (2 ^ min a0_1.toNat 64)) = ji3 := by have h_ := hji3_; rw [Int.one_mul] at h_; exact h_
    have hji3v : a0_1 ≤ 64 → (IntKind.u64.wrap (2 ^ a0_1.toNat)) = ji3 := fun hle_ => by have h_ := hji3z hle_; rw [Int.one_mul] at h_; exact h_
    obtain rfl := Option.some.inj H
    go_enter Try.func64, Try.ntmps64
    go_wp2_with (first | ((with_reducible refine gate_dst (N := 1) rfl ?_); refine box_event ?hg (N := 1) ?hd (cs := #[.int .i64 a0_0, .int .i64 a0_1]) (t := 42) ?hr ?_; (case hd => rfl); (case hg => rfl); (case hr => first | (go_simp; done) | (go_simp; rfl)); intro gb102 hg w4 hbox hb; have n0_ := Aside0.mk (below_step (by repeat (first | (with_reducible first | exact HB.out | apply below_alloc | apply pw_below_drewN | apply below_drew1) | exact HB.out)) hb); have n1_ := Aside0.mk (hbox); have n2_ := Aside0.mk ((by rw [hg]; exact (below_size (by repeat (first | (with_reducible first | exact HB.out | apply below_alloc | apply pw_below_drewN | apply below_drew1) | exact HB.out))) : w.heap.size ≤ gb102)); have n3_ := Aside0.mk ((by rw [hg]; exact (below_size (by repeat (first | (with_reducible first | exact HB.out | apply below_alloc | apply pw_below_drewN | apply below_drew1) | exact HB.out))) : w.heap.size ≤ gb102)); clear HB; have HB := n0_; have BK102 := n1_; have GW102 := n2_; have GE102 := n3_; clear n0_ n1_ n2_ n3_; clear hb hbox hg; have hcz5_0 : w4.cell? ⟨gb102, 0, none⟩ = some (.int .i64 a0_0) := (blk_cell BK102.out 0).trans rfl; have hcz5_1 : w4.cell? ⟨gb102, 1, none⟩ = some (.int .i64 a0_1) := (blk_cell BK102.out 1).trans rfl; have hfz5_0 := blk_frozen BK102.out 0; have hfz5_1 := blk_frozen BK102.out 1))
    go_ret
    exact ⟨by first | rfl | (simp [errW_none, errW_some] <;> rfl) | (simp only [← hji3]; first | rfl | (simp [errW_none, errW_some] <;> rfl)) | (simp [*, errW_none, errW_some] <;> rfl), by repeat (first | (with_reducible first | exact HB.out | apply below_alloc | apply pw_below_drewN | apply below_drew1 | refine below_set ?_ GE102.out) | exact HB.out)⟩
  · rw [if_neg c2] at H
    exact absurd H (by simp)

/-! ### float_shape_bias: function 90 -/
def float_shape_bias.f (a0_0 : Int) (a0_1 : Int) : Option (Int) := if 0 ≤ (wrap64 (a0_1 - 1)) then (some (wrap64 ((shl .i64 1 (wrap64 (a0_1 - 1))) - 1))) else (none)
set_option maxHeartbeats 8000000 in
set_option maxRecDepth 100000 in
theorem float_shape_bias.calls (a0_0 : Int) (a0_1 : Int) (r : Int) (w : World) (h : float_shape_bias.f a0_0 a0_1 = some r) :
    Calls Try.prog 90 #[.agg #[.int .i64 a0_0, .int .i64 a0_1]] w fun e w' => e = .returned (.int .i64 r) ∧ Below w.heap.size w w' := by
  have hu42 := Try.underlying42
  have HB := Aside0.mk (Below.refl w.heap.size w)
  have H : (if 0 ≤ (wrap64 (a0_1 - 1)) then (some (wrap64 ((shl .i64 1 (wrap64 (a0_1 - 1))) - 1))) else (none)) = some r := h
  clear h
  obtain ⟨ji2, hji2⟩ : ∃ j_ : Int, (wrap64 (a0_1 - 1)) = j_ := ⟨_, rfl⟩
  replace H : (if 0 ≤ (ji2) then (some (wrap64 ((shl .i64 1 (ji2)) - 1))) else (none)) = some r := by first | (rw [hji2] at H; exact H) | (simp only [hji2] at H ⊢; exact H)
  have hji2w : (IntKind.i64.wrap (a0_1 - 1)) = ji2 := (i64_w _).trans hji2
  by_cases c3 : 0 ≤ (ji2)
  · rw [if_pos c3] at H
    have c3b0 := eq_true c3
    have c3b1 : decide (0 ≤ (ji2)) = true := decide_eq_true c3
    clear c3
    obtain ⟨ji4, hji4⟩ : ∃ j_ : Int, (shl .i64 1 (ji2)) = j_ := ⟨_, rfl⟩
    replace H : (some (wrap64 ((ji4) - 1))) = some r := by first | (rw [hji4] at H; exact H) | (simp only [hji4] at H ⊢; exact H)
    have hji4_ : (IntKind.i64.wrap (1 * 2 ^ min (ji2).toNat 64)) = ji4 := hji4
    have hji4z : (ji2) ≤ 64 → (IntKind.i64.wrap (1 * 2 ^ (ji2).toNat)) = ji4 := shl_small hji4
    have hji4u : (IntKind.i64.wrap (2 ^ min (ji2).toNat 64)) = ji4 := by have h_ := hji4_; rw [Int.one_mul] at h_; exact h_
    have hji4v : (ji2) ≤ 64 → (IntKind.i64.wrap (2 ^ (ji2).toNat)) = ji4 := fun hle_ => by have h_ := hji4z hle_; rw [Int.one_mul] at h_; exact h_
    have hji4y : (wrap64 (1 * 2 ^ min (ji2).toNat 64)) = ji4 := (i64_w _).symm.trans hji4_
    have hji4x : (ji2) ≤ 64 → (wrap64 (1 * 2 ^ (ji2).toNat)) = ji4 := fun h_ => (i64_w _).symm.trans (hji4z h_)
    obtain rfl := Option.some.inj H
    go_enter Try.func90, Try.ntmps90
    go_wp2_with (first | ((with_reducible refine gate_dst (N := 1) rfl ?_); refine box_event ?hg (N := 1) ?hd (cs := #[.int .i64 a0_0, .int .i64 a0_1]) (t := 42) ?hr ?_; (case hd => rfl); (case hg => rfl); (case hr => first | (go_simp; done) | (go_simp; rfl)); intro gb103 hg w5 hbox hb; have n0_ := Aside0.mk (below_step (by repeat (first | (with_reducible first | exact HB.out | apply below_alloc | apply pw_below_drewN | apply below_drew1) | exact HB.out)) hb); have n1_ := Aside0.mk (hbox); have n2_ := Aside0.mk ((by rw [hg]; exact (below_size (by repeat (first | (with_reducible first | exact HB.out | apply below_alloc | apply pw_below_drewN | apply below_drew1) | exact HB.out))) : w.heap.size ≤ gb103)); have n3_ := Aside0.mk ((by rw [hg]; exact (below_size (by repeat (first | (with_reducible first | exact HB.out | apply below_alloc | apply pw_below_drewN | apply below_drew1) | exact HB.out))) : w.heap.size ≤ gb103)); clear HB; have HB := n0_; have BK103 := n1_; have GW103 := n2_; have GE103 := n3_; clear n0_ n1_ n2_ n3_; clear hb hbox hg; have hcz6_0 : w5.cell? ⟨gb103, 0, none⟩ = some (.int .i64 a0_0) := (blk_cell BK103.out 0).trans rfl; have hcz6_1 : w5.cell? ⟨gb103, 1, none⟩ = some (.int .i64 a0_1) := (blk_cell BK103.out 1).trans rfl; have hfz6_0 := blk_frozen BK103.out 0; have hfz6_1 := blk_frozen BK103.out 1))
    go_ret
    exact ⟨by first | rfl | (simp [errW_none, errW_some] <;> rfl) | (simp only [← hji2, ← hji4]; first | rfl | (simp [errW_none, errW_some] <;> rfl)) | (simp [*, errW_none, errW_some] <;> rfl), by repeat (first | (with_reducible first | exact HB.out | apply below_alloc | apply pw_below_drewN | apply below_drew1 | refine below_set ?_ GE103.out) | exact HB.out)⟩
  · rw [if_neg c3] at H
    exact absurd H (by simp)

/-! ### float_shape_least: function 89 -/
def float_shape_least.f (a0_0 : Int) (a0_1 : Int) : Option (Int) := (float_shape_bias.f a0_0 a0_1).bind fun t105 => (some (wrap64 ((wrap64 (2 - t105)) - a0_0)))
set_option maxHeartbeats 8000000 in
set_option maxRecDepth 100000 in
theorem float_shape_least.calls (a0_0 : Int) (a0_1 : Int) (r : Int) (w : World) (h : float_shape_least.f a0_0 a0_1 = some r) :
    Calls Try.prog 89 #[.agg #[.int .i64 a0_0, .int .i64 a0_1]] w fun e w' => e = .returned (.int .i64 r) ∧ Below w.heap.size w w' := by
  have hu42 := Try.underlying42
  have HB := Aside0.mk (Below.refl w.heap.size w)
  have H : ((float_shape_bias.f a0_0 a0_1).bind fun t105 => (some (wrap64 ((wrap64 (2 - t105)) - a0_0)))) = some r := h
  clear h
  replace H := Option.bind_eq_some_iff.mp H
  obtain ⟨t105, A20, H⟩ := H
  replace H : (some (wrap64 ((wrap64 (2 - t105)) - a0_0))) = some r := H
  have A2 := Aside0.mk A20
  clear A20
  obtain rfl := Option.some.inj H
  go_enter Try.func89, Try.ntmps89
  try go_wp2_with (first | ((with_reducible refine gate_dst (N := 1) rfl ?_); refine box_event ?hg (N := 1) ?hd (cs := #[.int .i64 a0_0, .int .i64 a0_1]) (t := 42) ?hr ?_; (case hd => rfl); (case hg => rfl); (case hr => first | (go_simp; done) | (go_simp; rfl)); intro gb104 hg w3 hbox hb; have n0_ := Aside0.mk (below_step (by repeat (first | (with_reducible first | exact HB.out | apply below_alloc | apply pw_below_drewN | apply below_drew1) | exact HB.out)) hb); have n1_ := Aside0.mk (hbox); have n2_ := Aside0.mk ((by rw [hg]; exact (below_size (by repeat (first | (with_reducible first | exact HB.out | apply below_alloc | apply pw_below_drewN | apply below_drew1) | exact HB.out))) : w.heap.size ≤ gb104)); have n3_ := Aside0.mk ((by rw [hg]; exact (below_size (by repeat (first | (with_reducible first | exact HB.out | apply below_alloc | apply pw_below_drewN | apply below_drew1) | exact HB.out))) : w.heap.size ≤ gb104)); clear HB; have HB := n0_; have BK104 := n1_; have GW104 := n2_; have GE104 := n3_; clear n0_ n1_ n2_ n3_; clear hb hbox hg))
  have n0_ := Aside0.mk (blk_drew BK104.out)
  have n1_ := Aside0.mk (below_drew1 HB.out)
  clear BK104
  clear HB
  have BK104 := n0_
  have HB := n1_
  clear n0_ n1_
  refine start_ (n := 7) (S := fun w' => w'.cell? ⟨gb104, 0, none⟩ = some (.int .i64 a0_0) ∧ w'.cell? ⟨gb104, 1, none⟩ = some (.int .i64 a0_1)) (ds := []) #[false, false, false, false, false, false, false] (by kernel_rfl) rfl rfl ⟨(blk_cell BK104.out 0).trans rfl, (blk_cell BK104.out 1).trans rfl⟩ (fun hHeld => ?_)
  generalize w3.drew = w4 at BK104 HB hHeld ⊢
  refine pure_ (i := 3) (N := some 6) (v := ?_) (a' := ?_) #[false, false, false, true, false, false, false] rfl rfl (by kernel_rfl) (fun _ _ _ h => h) (Or.inl ⟨by rfl, ?_⟩) ?_ ?_
  rotate_left
  · intro w'
    go_simp
    with_reducible rfl
  rotate_left
  · simp only [Act.put, List.setIfInBounds_toArray, List.set_cons_zero, List.set_cons_succ, i64_w, i32_w]
    rfl
  refine take_ (i := 0) (N := some 3) (v := ?_) (a' := ?_) #[true, false, false, true, false, false, false] rfl rfl (by kernel_rfl) (fun _ _ _ h => h) (Or.inl ⟨by rfl, ?_⟩) hHeld ?_ ?_
  rotate_left
  · rintro w' ⟨s0, s1⟩
    go_simp
    with_reducible rfl
  rotate_left
  · simp only [Act.put, List.setIfInBounds_toArray, List.set_cons_zero, List.set_cons_succ, i64_w, i32_w]
    rfl
  refine take_ (i := 4) (N := some 7) (v := ?_) (a' := ?_) #[true, false, false, true, true, false, false] rfl rfl (by kernel_rfl) (fun _ _ _ h => h) (Or.inl ⟨by rfl, ?_⟩) hHeld ?_ ?_
  rotate_left
  · rintro w' ⟨s0, s1⟩
    go_simp
    with_reducible rfl
  rotate_left
  · simp only [Act.put, List.setIfInBounds_toArray, List.set_cons_zero, List.set_cons_succ, i64_w, i32_w]
    rfl
  refine one_ (i := 1) (N := some 4) #[true, true, false, true, true, false, false] rfl rfl (by kernel_rfl) (by decide) (fun K hK => ?_)
  refine goes_ Try.func90 (by kernel_rfl) rfl #[.agg #[.int .i64 a0_0, .int .i64 a0_1]] (by rfl) rfl rfl (by (try simp only [List.map_toArray, List.map_cons, List.map_nil]); first | done | rfl | (simp only [List.length_drop, List.length_take]; rfl)) ?_
  with_reducible refine (float_shape_bias.calls a0_0 a0_1 t105 _ A2.out).mono ?_
  rintro e w5 ⟨rfl, hb⟩
  refine ⟨_, rfl, ?_⟩
  have n0_ := Aside0.mk (blk_below (g := gb104) (o := .cells #[.int .i64 a0_0, .int .i64 a0_1] 42 (0, 0)) (by (with_reducible repeat (first | refine blk_drewN ?_ _ | refine blk_drew ?_ | refine blk_alloc ?_ _)); exact BK104.out) hb)
  have n1_ := Aside0.mk (below_step (by repeat (first | (with_reducible first | exact HB.out | apply below_alloc | apply pw_below_drewN | apply below_drew1 | refine below_set ?_ GE104.out) | exact HB.out)) hb)
  clear BK104
  clear HB
  have BK104 := n0_
  have HB := n1_
  clear n0_ n1_
  (try clear hb)
  (try clear hb2)
  (try clear hk)
  (try clear hi)
  refine hK.out _ _ ⟨(blk_cell BK104.out 0).trans rfl, (blk_cell BK104.out 1).trans rfl⟩ (fun hHeld => ?_)
  clear hK K
  refine norm_ (a' := ?_) ?_ ?_
  rotate_left
  · show Act.put _ (some 4) _ = _
    simp only [Act.put, List.setIfInBounds_toArray, List.set_cons_zero, List.set_cons_succ, i64_w, i32_w]
    rfl
  refine pure_ (i := 2) (N := some 5) (v := ?_) (a' := ?_) #[true, true, true, true, true, false, false] rfl rfl (by kernel_rfl) (fun _ _ _ h => h) (Or.inl ⟨by rfl, ?_⟩) ?_ ?_
  rotate_left
  · intro w'
    go_simp
    with_reducible rfl
  rotate_left
  · simp only [Act.put, List.setIfInBounds_toArray, List.set_cons_zero, List.set_cons_succ, i64_w, i32_w]
    rfl
  refine pure_ (i := 5) (N := some 8) (v := ?_) (a' := ?_) #[true, true, true, true, true, true, false] rfl rfl (by kernel_rfl) (fun _ _ _ h => h) (Or.inl ⟨by rfl, ?_⟩) ?_ ?_
  rotate_left
  · intro w'
    go_simp
    with_reducible rfl
  rotate_left
  · simp only [Act.put, List.setIfInBounds_toArray, List.set_cons_zero, List.set_cons_succ, i64_w, i32_w]
    rfl
  refine pure_ (i := 6) (N := some 2) (v := ?_) (a' := ?_) #[true, true, true, true, true, true, true] rfl rfl (by kernel_rfl) (fun _ _ _ h => h) (Or.inl ⟨by rfl, ?_⟩) ?_ ?_
  rotate_left
  · intro w'
    go_simp
    with_reducible rfl
  rotate_left
  · simp only [Act.put, List.setIfInBounds_toArray, List.set_cons_zero, List.set_cons_succ, i64_w, i32_w]
    rfl
  refine done_ (by kernel_rfl) ?_
  try go_wp2
  go_ret
  exact ⟨by first | rfl | (simp [errW_none, errW_some] <;> rfl) | (simp [*, errW_none, errW_some] <;> rfl), by repeat (first | (with_reducible first | exact HB.out | apply below_alloc | apply pw_below_drewN | apply below_drew1 | refine below_set ?_ GE104.out) | exact HB.out)⟩

/-! ### float_shape_read: function 63 -/
mutual
def float_shape_read.j0 : Nat → Int → Int → Bool → Int → Int → Option (Int × Int × Int × Int × Bool)
  | 0, _, _, _, _, _ => none
  | k + 1, x6, x7, x25, x107000, x107001 => if x25 = true then (some (0, 0, 0, 0, false)) else (if 0 ≤ (wrap64 (x7 - 1)) then (if 0 ≤ (wrap64 (x107000 - 1)) then ((float_shape_top.f x107000 x107001).bind fun t109 => ((float_shape_top.f x107000 x107001).bind fun t110 => (if (Go.bits .and .u64 (shr .u64 x6 (wrap64 (x107000 - 1))) t109) = t110 then (float_shape_read.j1 k (Go.bits .and .u64 (shr .u64 x6 (wrap64 (x107000 - 1))) t109) (Go.bits .and .u64 x6 (IntKind.u64.wrap ((shl .u64 1 (wrap64 (x107000 - 1))) - 1))) ((Go.bits .and .u64 x6 (IntKind.u64.wrap ((shl .u64 1 (wrap64 (x107000 - 1))) - 1))) == 0) x107000 x107001 0 (wrap64 (Go.bits .and .u64 (shr .u64 x6 (wrap64 (x7 - 1))) 1)) 0 0) else (float_shape_read.j1 k (Go.bits .and .u64 (shr .u64 x6 (wrap64 (x107000 - 1))) t109) (Go.bits .and .u64 x6 (IntKind.u64.wrap ((shl .u64 1 (wrap64 (x107000 - 1))) - 1))) false x107000 x107001 0 (wrap64 (Go.bits .and .u64 (shr .u64 x6 (wrap64 (x7 - 1))) 1)) 0 0)))) else (none)) else (none))
def float_shape_read.j1 : Nat → Int → Int → Bool → Int → Int → Int → Int → Int → Int → Option (Int × Int × Int × Int × Bool)
  | 0, _, _, _, _, _, _, _, _, _ => none
  | k + 1, x9, x10, x67, x107000, x107001, x109000, x109001, x109002, x109003 => if x67 = true then (some (2, x109001, x109002, x109003, true)) else ((float_shape_top.f x107000 x107001).bind fun t111 => (if x9 = t111 then (some (3, x109001, x109002, x109003, true)) else (if x9 = 0 then (float_shape_read.j2 k x9 x10 (x10 == 0) x107000 x107001 x109000 x109001 x109002 x109003) else (float_shape_read.j2 k x9 x10 false x107000 x107001 x109000 x109001 x109002 x109003))))
def float_shape_read.j2 : Nat → Int → Int → Bool → Int → Int → Int → Int → Int → Int → Option (Int × Int × Int × Int × Bool)
  | 0, _, _, _, _, _, _, _, _, _ => none
  | k + 1, x9, x10, x83, x107000, x107001, x109000, x109001, x109002, x109003 => if x83 = true then (some (0, x109001, x109002, x109003, true)) else (if x9 = 0 then ((float_shape_least.f x107000 x107001).bind fun t112 => (some (1, x109001, x10, t112, true))) else (if 0 ≤ (wrap64 (x107000 - 1)) then ((float_shape_bias.f x107000 x107001).bind fun t113 => (some (1, x109001, Go.bits .or .u64 x10 (shl .u64 1 (wrap64 (x107000 - 1))), wrap64 ((wrap64 ((wrap64 ((wrap64 (x9)) - t113)) - x107000)) + 1), true))) else (none)))
end
def float_shape_read.f (k : Nat) (a0_0 : Int) (a0_1 : Int) (a1 : Int) : Option (Int × Int × Int × Int × Bool) := if (wrap64 (a0_0 + a0_1)) < 64 then (if 0 ≤ (wrap64 (a0_0 + a0_1)) then (float_shape_read.j0 k (IntKind.u64.wrap (a1)) (wrap64 (a0_0 + a0_1)) ((shr .u64 (IntKind.u64.wrap (a1)) (wrap64 (a0_0 + a0_1))) != 0) a0_0 a0_1) else (none)) else (float_shape_read.j0 k (IntKind.u64.wrap (a1)) (wrap64 (a0_0 + a0_1)) false a0_0 a0_1)
theorem float_shape_read.mono_l : ∀ k, (∀ y0 y1 y2 y3 y4, LeO (float_shape_read.j0 k y0 y1 y2 y3 y4) (float_shape_read.j0 (k + 1) y0 y1 y2 y3 y4)) ∧ (∀ y0 y1 y2 y3 y4 y5 y6 y7 y8, LeO (float_shape_read.j1 k y0 y1 y2 y3 y4 y5 y6 y7 y8) (float_shape_read.j1 (k + 1) y0 y1 y2 y3 y4 y5 y6 y7 y8)) ∧ (∀ y0 y1 y2 y3 y4 y5 y6 y7 y8, LeO (float_shape_read.j2 k y0 y1 y2 y3 y4 y5 y6 y7 y8) (float_shape_read.j2 (k + 1) y0 y1 y2 y3 y4 y5 y6 y7 y8))
  | 0 => ⟨fun _ _ _ _ _ r h => by simp [float_shape_read.j0] at h, fun _ _ _ _ _ _ _ _ _ r h => by simp [float_shape_read.j1] at h, fun _ _ _ _ _ _ _ _ _ r h => by simp [float_shape_read.j2] at h⟩
  | k + 1 => by
    obtain ⟨ih0, ih1, ih2⟩ := float_shape_read.mono_l k
    refine ⟨?_, ?_, ?_⟩
    · intro y0 y1 y2 y3 y4
      unfold float_shape_read.j0
      repeat' first
      | (with_reducible exact ih0 _ _ _ _ _)
      | (with_reducible exact ih1 _ _ _ _ _ _ _ _ _)
      | (with_reducible exact ih2 _ _ _ _ _ _ _ _ _)
      | (with_reducible exact LeO.refl _)
      | (with_reducible exact LeO.none _)
      | (with_reducible refine LeO.ite ?_ ?_)
      | (with_reducible refine LeO.bind ?_ (fun _ => ?_))
      | exact ih0 _ _ _ _ _
      | exact ih1 _ _ _ _ _ _ _ _ _
      | exact ih2 _ _ _ _ _ _ _ _ _
      | exact LeO.none _
      | refine LeO.ite ?_ ?_
      | refine LeO.bind ?_ (fun _ => ?_)
    · intro y0 y1 y2 y3 y4 y5 y6 y7 y8
      unfold float_shape_read.j1
      repeat' first
      | (with_reducible exact ih0 _ _ _ _ _)
      | (with_reducible exact ih1 _ _ _ _ _ _ _ _ _)
      | (with_reducible exact ih2 _ _ _ _ _ _ _ _ _)
      | (with_reducible exact LeO.refl _)
      | (with_reducible exact LeO.none _)
      | (with_reducible refine LeO.ite ?_ ?_)
      | (with_reducible refine LeO.bind ?_ (fun _ => ?_))
      | exact ih0 _ _ _ _ _
      | exact ih1 _ _ _ _ _ _ _ _ _
      | exact ih2 _ _ _ _ _ _ _ _ _
      | exact LeO.none _
      | refine LeO.ite ?_ ?_
      | refine LeO.bind ?_ (fun _ => ?_)
    · intro y0 y1 y2 y3 y4 y5 y6 y7 y8
      unfold float_shape_read.j2
      repeat' first
      | (with_reducible exact ih0 _ _ _ _ _)
      | (with_reducible exact ih1 _ _ _ _ _ _ _ _ _)
      | (with_reducible exact ih2 _ _ _ _ _ _ _ _ _)
      | (with_reducible exact LeO.refl _)
      | (with_reducible exact LeO.none _)
      | (with_reducible refine LeO.ite ?_ ?_)
      | (with_reducible refine LeO.bind ?_ (fun _ => ?_))
      | exact ih0 _ _ _ _ _
      | exact ih1 _ _ _ _ _ _ _ _ _
      | exact ih2 _ _ _ _ _ _ _ _ _
      | exact LeO.none _
      | refine LeO.ite ?_ ?_
      | refine LeO.bind ?_ (fun _ => ?_)
theorem float_shape_read.mono : ∀ a0 a1 a2 k, LeO (float_shape_read.f k a0 a1 a2) (float_shape_read.f (k + 1) a0 a1 a2) := by
  intro a0 a1 a2 k
  obtain ⟨ih0, ih1, ih2⟩ := float_shape_read.mono_l k
  unfold float_shape_read.f
  repeat' first
      | (with_reducible exact ih0 _ _ _ _ _)
      | (with_reducible exact ih1 _ _ _ _ _ _ _ _ _)
      | (with_reducible exact ih2 _ _ _ _ _ _ _ _ _)
      | (with_reducible exact LeO.refl _)
      | (with_reducible exact LeO.none _)
      | (with_reducible refine LeO.ite ?_ ?_)
      | (with_reducible refine LeO.bind ?_ (fun _ => ?_))
      | exact ih0 _ _ _ _ _
      | exact ih1 _ _ _ _ _ _ _ _ _
      | exact ih2 _ _ _ _ _ _ _ _ _
      | exact LeO.none _
      | refine LeO.ite ?_ ?_
      | refine LeO.bind ?_ (fun _ => ?_)
def float_shape_read.T6 : Bool × List (List Nat × List Nat) := (true, [([], []), ([], []), ([1], [1]), ([2], [2]), ([0, 3], [0, 3]), ([], []), ([5], [5]), ([4, 6], [4, 6]), ([], []), ([], []), ([9], [9]), ([10], [10]), ([11], [11]), ([12], [12]), ([8, 13], [8, 13]), ([7, 6, 0, 1, 2, 3, 4, 5, 6, 7], [7]), ([14, 15, 0, 1, 2, 3, 4, 5, 6, 7, 8, 9, 10, 11, 12, 13, 14, 15], [14])])
def float_shape_read.B6 : List Nat := [0, 0, 2, 6, 15, 0, 32, 127, 0, 0, 512, 1536, 3584, 7680, 16128, 255, 65535]
theorem float_shape_read.tab6 : rtab .any (opsOf Try.f63 6) = float_shape_read.T6 := by kernel_rfl
theorem float_shape_read.bits6 : waitsOk float_shape_read.T6.2 float_shape_read.B6 = true := by kernel_rfl
def float_shape_read.T7 : Bool × List (List Nat × List Nat) := (true, [([], []), ([], []), ([1], [1]), ([2], [2]), ([3], [3]), ([0, 4], [0, 4]), ([], []), ([6], [6]), ([], []), ([8], [8]), ([7, 9], [7, 9]), ([], []), ([11], [11]), ([10, 12], [10, 12]), ([13], [13]), ([], []), ([15, 9], [15]), ([0, 1, 2, 3, 4, 5, 15, 16], []), ([17, 5, 16, 0, 1, 2, 3, 4, 5, 15, 16], [5, 17]), ([0, 1, 2, 3, 4, 5, 6, 7, 8, 9, 10, 11, 12, 13, 14, 15, 16, 17, 18], []), ([19, 14, 18, 0, 1, 2, 3, 4, 5, 6, 7, 8, 9, 10, 11, 12, 13, 14, 15, 16, 17, 18], [14, 19])])
def float_shape_read.B7 : List Nat := [0, 0, 2, 6, 14, 31, 0, 64, 0, 256, 960, 0, 2048, 8128, 16320, 0, 33536, 99135, 230207, 524287, 1048575]
theorem float_shape_read.tab7 : rtab .any (opsOf Try.f63 7) = float_shape_read.T7 := by kernel_rfl
theorem float_shape_read.bits7 : waitsOk float_shape_read.T7.2 float_shape_read.B7 = true := by kernel_rfl
set_option maxHeartbeats 8000000 in
set_option maxRecDepth 100000 in
theorem float_shape_read.calls (k : Nat) (a0_0 : Int) (a0_1 : Int) (a1 : Int) (r1 : Int) (r2 : Int) (r3 : Int) (r4 : Int) (r5 : Bool) (w : World) (h : float_shape_read.f k a0_0 a0_1 a1 = some (r1, r2, r3, r4, r5)) :
    Calls Try.prog 63 #[.agg #[.int .i64 a0_0, .int .i64 a0_1], .int .i64 a1] w fun e w' => e = .returned (.tuple #[.agg #[.int .i64 r1, .int .i64 r2, .int .u64 r3, .int .i64 r4], .bool r5]) ∧ Below w.heap.size w w' := by
  have hu42 := Try.underlying42
  have hu45 := Try.underlying45
  have HB := Aside0.mk (Below.refl w.heap.size w)
  have H : (if (wrap64 (a0_0 + a0_1)) < 64 then (if 0 ≤ (wrap64 (a0_0 + a0_1)) then (float_shape_read.j0 k (IntKind.u64.wrap (a1)) (wrap64 (a0_0 + a0_1)) ((shr .u64 (IntKind.u64.wrap (a1)) (wrap64 (a0_0 + a0_1))) != 0) a0_0 a0_1) else (none)) else (float_shape_read.j0 k (IntKind.u64.wrap (a1)) (wrap64 (a0_0 + a0_1)) false a0_0 a0_1)) = some (r1, r2, r3, r4, r5) := h
  clear h
  have HC3 := Aside0.mk H
  clear H
  go_enter Try.func63, Try.ntmps63
  go_upto_region 3 with (first | ((with_reducible refine gate_dst (N := 2) rfl ?_); refine box_event ?hg (N := 2) ?hd (cs := #[.int .i64 a0_0, .int .i64 a0_1]) (t := 42) ?hr ?_; (case hd => rfl); (case hg => rfl); (case hr => first | (go_simp; done) | (go_simp; rfl)); intro gb106 hg w4 hbox hb; have n0_ := Aside0.mk (below_step (by repeat (first | (with_reducible first | exact HB.out | apply below_alloc | apply pw_below_drewN | apply below_drew1) | exact HB.out)) hb); have n1_ := Aside0.mk (hbox); have n2_ := Aside0.mk ((by rw [hg]; exact (below_size (by repeat (first | (with_reducible first | exact HB.out | apply below_alloc | apply pw_below_drewN | apply below_drew1) | exact HB.out))) : w.heap.size ≤ gb106)); have n3_ := Aside0.mk ((by rw [hg]; exact (below_size (by repeat (first | (with_reducible first | exact HB.out | apply below_alloc | apply pw_below_drewN | apply below_drew1) | exact HB.out))) : w.heap.size ≤ gb106)); clear HB; have HB := n0_; have BK106 := n1_; have GW106 := n2_; have GE106 := n3_; clear n0_ n1_ n2_ n3_; clear hb hbox hg) | ((with_reducible refine gate_dst (N := 4) rfl ?_); refine box_event ?hg (N := 4) ?hd (cs := #[.int .i64 0, .int .i64 0, .int .u64 0, .int .i64 0]) (t := 45) ?hr ?_; (case hd => rfl); (case hg => rfl); (case hr => first | (go_simp; done) | (go_simp; rfl)); intro gb107 hg w5 hbox hb; have n0_ := Aside0.mk (blk_below (g := gb106) (o := .cells #[.int .i64 a0_0, .int .i64 a0_1] 42 (0, 0)) (by (with_reducible repeat (first | refine blk_drewN ?_ _ | refine blk_drew ?_ | refine blk_alloc ?_ _)); exact BK106.out) hb); have n1_ := Aside0.mk (below_step (by repeat (first | (with_reducible first | exact HB.out | apply below_alloc | apply pw_below_drewN | apply below_drew1 | refine below_set ?_ GE106.out) | exact HB.out)) hb); have n2_ := Aside0.mk (hbox); have n3_ := Aside0.mk ((by rw [hg]; exact (below_size (by repeat (first | (with_reducible first | exact HB.out | apply below_alloc | apply pw_below_drewN | apply below_drew1 | refine below_set ?_ GE106.out) | exact HB.out))) : w.heap.size ≤ gb107)); have n4_ := Aside0.mk ((by rw [hg]; exact (below_size (by repeat (first | (with_reducible first | exact HB.out | apply below_alloc | apply pw_below_drewN | apply below_drew1 | refine below_set ?_ GE106.out) | exact HB.out))) : w.heap.size ≤ gb107)); have n5_ := Aside0.mk ((by rw [hg]; exact Nat.ne_of_lt (blk_lt (g := gb106) (o := .cells #[.int .i64 a0_0, .int .i64 a0_1] 42 (0, 0)) (by (with_reducible repeat (first | refine blk_drewN ?_ _ | refine blk_drew ?_ | refine blk_alloc ?_ _)); exact BK106.out)) : gb106 ≠ gb107)); have n6_ := Aside0.mk ((by rw [hg]; exact Nat.ne_of_gt (blk_lt (g := gb106) (o := .cells #[.int .i64 a0_0, .int .i64 a0_1] 42 (0, 0)) (by (with_reducible repeat (first | refine blk_drewN ?_ _ | refine blk_drew ?_ | refine blk_alloc ?_ _)); exact BK106.out)) : gb107 ≠ gb106)); clear BK106; clear HB; have BK106 := n0_; have HB := n1_; have BK107 := n2_; have GW107 := n3_; have GE107 := n4_; have NB106_107 := n5_; have NB107_106 := n6_; clear n0_ n1_ n2_ n3_ n4_ n5_ n6_; clear hb hbox hg; have hnb6 := NB106_107.out; have hnc6 := NB107_106.out; have hcz7_0 : w5.cell? ⟨gb106, 0, none⟩ = some (.int .i64 a0_0) := (blk_cell BK106.out 0).trans rfl; have hcz7_1 : w5.cell? ⟨gb106, 1, none⟩ = some (.int .i64 a0_1) := (blk_cell BK106.out 1).trans rfl; have hfz7_0 := blk_frozen BK106.out 0; have hfz7_1 := blk_frozen BK106.out 1))
  (try simp only [Act.put, List.setIfInBounds_toArray, List.set_cons_zero, List.set_cons_succ])
  go_cut [25] (fun v25 wc => ∃ (kq : Nat) (x25_2 : Bool), v25 = .bool x25_2 ∧ Aside0 (float_shape_read.j0 kq (IntKind.u64.wrap (a1)) (wrap64 (a0_0 + a0_1)) x25_2 a0_0 a0_1 = some (r1, r2, r3, r4, r5)) ∧ Aside0 (kq ≤ k) ∧ Aside0 (wc.heap[gb106]? = some (.cells #[.int .i64 a0_0, .int .i64 a0_1] 42 (0, 0))) ∧ Aside0 (wc.heap[gb107]? = some (.cells #[.int .i64 0, .int .i64 0, .int .u64 0, .int .i64 0] 45 (0, 0))) ∧ Aside0 (Below w.heap.size w wc))
  case first =>
    have H := HC3.out
    clear HC3
    by_cases c8 : (wrap64 (a0_0 + a0_1)) < 64
    · rw [if_pos c8] at H
      have c8b0 : decide ((wrap64 (a0_0 + a0_1)) < 64) = true := decide_eq_true c8
      clear c8
      (first | rw [c8b0] | (simp only [i64_w, i32_w]; rw [c8b0]) | skip)
      obtain ⟨ji9, hji9⟩ : ∃ j_ : Int, (wrap64 (a0_0 + a0_1)) = j_ := ⟨_, rfl⟩
      replace H : (if 0 ≤ (ji9) then (float_shape_read.j0 k (IntKind.u64.wrap (a1)) ji9 ((shr .u64 (IntKind.u64.wrap (a1)) (ji9)) != 0) a0_0 a0_1) else (none)) = some (r1, r2, r3, r4, r5) := by first | (rw [hji9] at H; exact H) | (simp only [hji9] at H ⊢; exact H)
      (try rw [hji9] at c8b0)
      have hji9w : (IntKind.i64.wrap (a0_0 + a0_1)) = ji9 := (i64_w _).trans hji9
      by_cases c10 : 0 ≤ (ji9)
      · rw [if_pos c10] at H
        have c10b0 := eq_true c10
        have c10b1 : decide (0 ≤ (ji9)) = true := decide_eq_true c10
        clear c10
        obtain ⟨ji11, hji11⟩ : ∃ j_ : Int, (shr .u64 (IntKind.u64.wrap (a1)) (ji9)) = j_ := ⟨_, rfl⟩
        replace H : (float_shape_read.j0 k (IntKind.u64.wrap (a1)) ji9 ((ji11) != 0) a0_0 a0_1) = some (r1, r2, r3, r4, r5) := by first | (rw [hji11] at H; exact H) | (simp only [hji11] at H ⊢; exact H)
        have hji11_ : ((IntKind.u64.wrap (a1)) / 2 ^ min (ji9).toNat 64) = ji11 := hji11
        have hji11z : (ji9) ≤ 64 → ((IntKind.u64.wrap (a1)) / 2 ^ (ji9).toNat) = ji11 := shr_small hji11
        have H' := Aside0.mk H
        clear H
        go_wp2
        go_meet
        case rel => exact ⟨_, (((ji11) != 0)), (by first | rfl | (simp; done) | (simp only [← hji11] <;> (first | rfl | simp)) | (simp [*]; done)), (by first | exact H' | (simp only [hji9, hji11] at H' ⊢; exact H')), ⟨by first | omega | exact Nat.le_refl _⟩, ⟨by (with_reducible repeat (first | refine blk_drewN ?_ _ | refine blk_drew ?_ | refine blk_alloc ?_ _)); exact BK106.out⟩, ⟨by (with_reducible repeat (first | refine blk_drewN ?_ _ | refine blk_drew ?_ | refine blk_alloc ?_ _)); exact BK107.out⟩, ⟨by repeat (first | (with_reducible first | exact HB.out | apply below_alloc | apply pw_below_drewN | apply below_drew1 | refine below_set ?_ GE106.out | refine below_set ?_ GE107.out) | exact HB.out)⟩⟩
      · rw [if_neg c10] at H
        exact absurd H (by simp)
    · rw [if_neg c8] at H
      have c8b0 : decide ((wrap64 (a0_0 + a0_1)) < 64) = false := decide_eq_false c8
      clear c8
      (first | rw [c8b0] | (simp only [i64_w, i32_w]; rw [c8b0]) | skip)
      have H' := Aside0.mk H
      clear H
      go_wp2
      go_meet
      case rel => exact ⟨_, (false), (by first | rfl | (simp; done) | (simp [*]; done)), (by first | exact H'), ⟨by first | omega | exact Nat.le_refl _⟩, ⟨by (with_reducible repeat (first | refine blk_drewN ?_ _ | refine blk_drew ?_ | refine blk_alloc ?_ _)); exact BK106.out⟩, ⟨by (with_reducible repeat (first | refine blk_drewN ?_ _ | refine blk_drew ?_ | refine blk_alloc ?_ _)); exact BK107.out⟩, ⟨by repeat (first | (with_reducible first | exact HB.out | apply below_alloc | apply pw_below_drewN | apply below_drew1 | refine below_set ?_ GE106.out | refine below_set ?_ GE107.out) | exact HB.out)⟩⟩
  case rest =>
    clear HC3
    try clear c1
    try clear p2
    try clear c6
    try clear p6
    try clear c8
    try clear c8b0
    try clear c10
    try clear c10b0
    try clear c10b1
    try clear hcz7_0
    try clear hcz7_1
    try clear hfz7_0
    try clear hfz7_1
    obtain ⟨kq, x25_2, rfl, HA, HJ2, BK106, BK107, HB⟩ := hcut
    cases kq with
    | zero => exact absurd HA.out (by simp [float_shape_read.j0])
    | succ kj2 =>
      have H := HA.out
      clear HA
      simp only [float_shape_read.j0] at H
      by_cases c12 : x25_2 = true
      · subst c12
        have H1 : (some (0, 0, 0, 0, false)) = some (r1, r2, r3, r4, r5) := by rw [if_pos rfl] at H; exact H
        clear H
        have H := H1
        clear H1
        simp only [Option.some.injEq, Prod.mk.injEq] at H
        obtain ⟨rfl, rfl, rfl, rfl, rfl⟩ := H
        have hnb13 := NB107_106.out
        have hnc13 := NB106_107.out
        have hcz14_0 : wc.cell? ⟨gb107, 0, none⟩ = some (.int .i64 0) := (blk_cell BK107.out 0).trans rfl
        have hcz14_1 : wc.cell? ⟨gb107, 1, none⟩ = some (.int .i64 0) := (blk_cell BK107.out 1).trans rfl
        have hcz14_2 : wc.cell? ⟨gb107, 2, none⟩ = some (.int .u64 0) := (blk_cell BK107.out 2).trans rfl
        have hcz14_3 : wc.cell? ⟨gb107, 3, none⟩ = some (.int .i64 0) := (blk_cell BK107.out 3).trans rfl
        have hfz14_0 := blk_frozen BK107.out 0
        have hfz14_1 := blk_frozen BK107.out 1
        have hfz14_2 := blk_frozen BK107.out 2
        have hfz14_3 := blk_frozen BK107.out 3
        go_wp2
        refine bodyPost_ret (results_ct rfl _ _ gb107 45 #[.int .i64 0, .int .i64 0, .int .u64 0, .int .i64 0] (0, 0) _ rfl (by (with_reducible repeat (first | refine blk_drewN ?_ _ | refine blk_drew ?_ | refine blk_alloc ?_ _)); refine blk_put (cs := #[.int .i64 0, .int .i64 0, .int .u64 0, .int .i64 0]) ?_ 3 _ rfl; (with_reducible repeat (first | refine blk_drewN ?_ _ | refine blk_drew ?_ | refine blk_alloc ?_ _)); refine blk_put (cs := #[.int .i64 0, .int .i64 0, .int .u64 0, .int .i64 0]) ?_ 2 _ rfl; (with_reducible repeat (first | refine blk_drewN ?_ _ | refine blk_drew ?_ | refine blk_alloc ?_ _)); refine blk_put (cs := #[.int .i64 0, .int .i64 0, .int .u64 0, .int .i64 0]) ?_ 1 _ rfl; (with_reducible repeat (first | refine blk_drewN ?_ _ | refine blk_drew ?_ | refine blk_alloc ?_ _)); refine blk_put (cs := #[.int .i64 0, .int .i64 0, .int .u64 0, .int .i64 0]) ?_ 0 _ rfl; (with_reducible repeat (first | refine blk_drewN ?_ _ | refine blk_drew ?_ | refine blk_alloc ?_ _)); exact BK107.out) Try.underlying45 rfl (by kernel_rfl)) rfl ?_
        exact ⟨by first | rfl | (simp [errW_none, errW_some] <;> rfl) | (simp [*, errW_none, errW_some] <;> rfl), by repeat (first | (with_reducible first | exact HB.out | apply below_alloc | apply pw_below_drewN | apply below_drew1 | refine below_set ?_ GE106.out | refine below_set ?_ GE107.out) | exact HB.out)⟩
      · replace c12 := Bool.eq_false_iff.mpr c12
        subst c12
        have H1 : (if 0 ≤ (wrap64 ((wrap64 (a0_0 + a0_1)) - 1)) then (if 0 ≤ (wrap64 (a0_0 - 1)) then ((float_shape_top.f a0_0 a0_1).bind fun t109 => ((float_shape_top.f a0_0 a0_1).bind fun t110 => (if (Go.bits .and .u64 (shr .u64 (IntKind.u64.wrap (a1)) (wrap64 (a0_0 - 1))) t109) = t110 then (float_shape_read.j1 kj2 (Go.bits .and .u64 (shr .u64 (IntKind.u64.wrap (a1)) (wrap64 (a0_0 - 1))) t109) (Go.bits .and .u64 (IntKind.u64.wrap (a1)) (IntKind.u64.wrap ((shl .u64 1 (wrap64 (a0_0 - 1))) - 1))) ((Go.bits .and .u64 (IntKind.u64.wrap (a1)) (IntKind.u64.wrap ((shl .u64 1 (wrap64 (a0_0 - 1))) - 1))) == 0) a0_0 a0_1 0 (wrap64 (Go.bits .and .u64 (shr .u64 (IntKind.u64.wrap (a1)) (wrap64 ((wrap64 (a0_0 + a0_1)) - 1))) 1)) 0 0) else (float_shape_read.j1 kj2 (Go.bits .and .u64 (shr .u64 (IntKind.u64.wrap (a1)) (wrap64 (a0_0 - 1))) t109) (Go.bits .and .u64 (IntKind.u64.wrap (a1)) (IntKind.u64.wrap ((shl .u64 1 (wrap64 (a0_0 - 1))) - 1))) false a0_0 a0_1 0 (wrap64 (Go.bits .and .u64 (shr .u64 (IntKind.u64.wrap (a1)) (wrap64 ((wrap64 (a0_0 + a0_1)) - 1))) 1)) 0 0)))) else (none)) else (none)) = some (r1, r2, r3, r4, r5) := by rw [if_neg (show ¬ (false = true) by decide)] at H; exact H
        clear H
        have H := H1
        clear H1
        obtain ⟨ji15, hji15⟩ : ∃ j_ : Int, (wrap64 ((wrap64 (a0_0 + a0_1)) - 1)) = j_ := ⟨_, rfl⟩
        replace H : (if 0 ≤ (ji15) then (if 0 ≤ (wrap64 (a0_0 - 1)) then ((float_shape_top.f a0_0 a0_1).bind fun t109 => ((float_shape_top.f a0_0 a0_1).bind fun t110 => (if (Go.bits .and .u64 (shr .u64 (IntKind.u64.wrap (a1)) (wrap64 (a0_0 - 1))) t109) = t110 then (float_shape_read.j1 kj2 (Go.bits .and .u64 (shr .u64 (IntKind.u64.wrap (a1)) (wrap64 (a0_0 - 1))) t109) (Go.bits .and .u64 (IntKind.u64.wrap (a1)) (IntKind.u64.wrap ((shl .u64 1 (wrap64 (a0_0 - 1))) - 1))) ((Go.bits .and .u64 (IntKind.u64.wrap (a1)) (IntKind.u64.wrap ((shl .u64 1 (wrap64 (a0_0 - 1))) - 1))) == 0) a0_0 a0_1 0 (wrap64 (Go.bits .and .u64 (shr .u64 (IntKind.u64.wrap (a1)) (ji15)) 1)) 0 0) else (float_shape_read.j1 kj2 (Go.bits .and .u64 (shr .u64 (IntKind.u64.wrap (a1)) (wrap64 (a0_0 - 1))) t109) (Go.bits .and .u64 (IntKind.u64.wrap (a1)) (IntKind.u64.wrap ((shl .u64 1 (wrap64 (a0_0 - 1))) - 1))) false a0_0 a0_1 0 (wrap64 (Go.bits .and .u64 (shr .u64 (IntKind.u64.wrap (a1)) (ji15)) 1)) 0 0)))) else (none)) else (none)) = some (r1, r2, r3, r4, r5) := by first | (rw [hji15] at H; exact H) | (simp only [hji15] at H ⊢; exact H)
        have hji15w : (IntKind.i64.wrap ((wrap64 (a0_0 + a0_1)) - 1)) = ji15 := (i64_w _).trans hji15
        by_cases c16 : 0 ≤ (ji15)
        · rw [if_pos c16] at H
          have c16b0 := eq_true c16
          have c16b1 : decide (0 ≤ (ji15)) = true := decide_eq_true c16
          clear c16
          obtain ⟨ji17, hji17⟩ : ∃ j_ : Int, (shr .u64 (IntKind.u64.wrap (a1)) (ji15)) = j_ := ⟨_, rfl⟩
          replace H : (if 0 ≤ (wrap64 (a0_0 - 1)) then ((float_shape_top.f a0_0 a0_1).bind fun t109 => ((float_shape_top.f a0_0 a0_1).bind fun t110 => (if (Go.bits .and .u64 (shr .u64 (IntKind.u64.wrap (a1)) (wrap64 (a0_0 - 1))) t109) = t110 then (float_shape_read.j1 kj2 (Go.bits .and .u64 (shr .u64 (IntKind.u64.wrap (a1)) (wrap64 (a0_0 - 1))) t109) (Go.bits .and .u64 (IntKind.u64.wrap (a1)) (IntKind.u64.wrap ((shl .u64 1 (wrap64 (a0_0 - 1))) - 1))) ((Go.bits .and .u64 (IntKind.u64.wrap (a1)) (IntKind.u64.wrap ((shl .u64 1 (wrap64 (a0_0 - 1))) - 1))) == 0) a0_0 a0_1 0 (wrap64 (Go.bits .and .u64 (ji17) 1)) 0 0) else (float_shape_read.j1 kj2 (Go.bits .and .u64 (shr .u64 (IntKind.u64.wrap (a1)) (wrap64 (a0_0 - 1))) t109) (Go.bits .and .u64 (IntKind.u64.wrap (a1)) (IntKind.u64.wrap ((shl .u64 1 (wrap64 (a0_0 - 1))) - 1))) false a0_0 a0_1 0 (wrap64 (Go.bits .and .u64 (ji17) 1)) 0 0)))) else (none)) = some (r1, r2, r3, r4, r5) := by first | (rw [hji17] at H; exact H) | (simp only [hji17] at H ⊢; exact H)
          have hji17_ : ((IntKind.u64.wrap (a1)) / 2 ^ min (ji15).toNat 64) = ji17 := hji17
          have hji17z : (ji15) ≤ 64 → ((IntKind.u64.wrap (a1)) / 2 ^ (ji15).toNat) = ji17 := shr_small hji17
          obtain ⟨ji18, hji18⟩ : ∃ j_ : Int, (wrap64 (a0_0 - 1)) = j_ := ⟨_, rfl⟩
          replace H : (if 0 ≤ (ji18) then ((float_shape_top.f a0_0 a0_1).bind fun t109 => ((float_shape_top.f a0_0 a0_1).bind fun t110 => (if (Go.bits .and .u64 (shr .u64 (IntKind.u64.wrap (a1)) (ji18)) t109) = t110 then (float_shape_read.j1 kj2 (Go.bits .and .u64 (shr .u64 (IntKind.u64.wrap (a1)) (ji18)) t109) (Go.bits .and .u64 (IntKind.u64.wrap (a1)) (IntKind.u64.wrap ((shl .u64 1 (ji18)) - 1))) ((Go.bits .and .u64 (IntKind.u64.wrap (a1)) (IntKind.u64.wrap ((shl .u64 1 (ji18)) - 1))) == 0) a0_0 a0_1 0 (wrap64 (Go.bits .and .u64 (ji17) 1)) 0 0) else (float_shape_read.j1 kj2 (Go.bits .and .u64 (shr .u64 (IntKind.u64.wrap (a1)) (ji18)) t109) (Go.bits .and .u64 (IntKind.u64.wrap (a1)) (IntKind.u64.wrap ((shl .u64 1 (ji18)) - 1))) false a0_0 a0_1 0 (wrap64 (Go.bits .and .u64 (ji17) 1)) 0 0)))) else (none)) = some (r1, r2, r3, r4, r5) := by first | (rw [hji18] at H; exact H) | (simp only [hji18] at H ⊢; exact H)
          have hji18w : (IntKind.i64.wrap (a0_0 - 1)) = ji18 := (i64_w _).trans hji18
          by_cases c19 : 0 ≤ (ji18)
          · rw [if_pos c19] at H
            have c19b0 := eq_true c19
            have c19b1 : decide (0 ≤ (ji18)) = true := decide_eq_true c19
            clear c19
            obtain ⟨ji20, hji20⟩ : ∃ j_ : Int, (shr .u64 (IntKind.u64.wrap (a1)) (ji18)) = j_ := ⟨_, rfl⟩
            replace H : ((float_shape_top.f a0_0 a0_1).bind fun t109 => ((float_shape_top.f a0_0 a0_1).bind fun t110 => (if (Go.bits .and .u64 (ji20) t109) = t110 then (float_shape_read.j1 kj2 (Go.bits .and .u64 (ji20) t109) (Go.bits .and .u64 (IntKind.u64.wrap (a1)) (IntKind.u64.wrap ((shl .u64 1 (ji18)) - 1))) ((Go.bits .and .u64 (IntKind.u64.wrap (a1)) (IntKind.u64.wrap ((shl .u64 1 (ji18)) - 1))) == 0) a0_0 a0_1 0 (wrap64 (Go.bits .and .u64 (ji17) 1)) 0 0) else (float_shape_read.j1 kj2 (Go.bits .and .u64 (ji20) t109) (Go.bits .and .u64 (IntKind.u64.wrap (a1)) (IntKind.u64.wrap ((shl .u64 1 (ji18)) - 1))) false a0_0 a0_1 0 (wrap64 (Go.bits .and .u64 (ji17) 1)) 0 0)))) = some (r1, r2, r3, r4, r5) := by first | (rw [hji20] at H; exact H) | (simp only [hji20] at H ⊢; exact H)
            have hji20_ : ((IntKind.u64.wrap (a1)) / 2 ^ min (ji18).toNat 64) = ji20 := hji20
            have hji20z : (ji18) ≤ 64 → ((IntKind.u64.wrap (a1)) / 2 ^ (ji18).toNat) = ji20 := shr_small hji20
            replace H := Option.bind_eq_some_iff.mp H
            obtain ⟨t109, A210, H⟩ := H
            replace H : ((float_shape_top.f a0_0 a0_1).bind fun t110 => (if (Go.bits .and .u64 (ji20) t109) = t110 then (float_shape_read.j1 kj2 (Go.bits .and .u64 (ji20) t109) (Go.bits .and .u64 (IntKind.u64.wrap (a1)) (IntKind.u64.wrap ((shl .u64 1 (ji18)) - 1))) ((Go.bits .and .u64 (IntKind.u64.wrap (a1)) (IntKind.u64.wrap ((shl .u64 1 (ji18)) - 1))) == 0) a0_0 a0_1 0 (wrap64 (Go.bits .and .u64 (ji17) 1)) 0 0) else (float_shape_read.j1 kj2 (Go.bits .and .u64 (ji20) t109) (Go.bits .and .u64 (IntKind.u64.wrap (a1)) (IntKind.u64.wrap ((shl .u64 1 (ji18)) - 1))) false a0_0 a0_1 0 (wrap64 (Go.bits .and .u64 (ji17) 1)) 0 0))) = some (r1, r2, r3, r4, r5) := H
            have A21 := Aside0.mk A210
            clear A210
            have c22b0 := eq_true (of_decide_eq_true (by first | (with_reducible assumption) | assumption) : 0 ≤ (ji18))
            obtain ⟨ji23, hji23⟩ : ∃ j_ : Int, (shl .u64 1 (ji18)) = j_ := ⟨_, rfl⟩
            replace H : ((float_shape_top.f a0_0 a0_1).bind fun t110 => (if (Go.bits .and .u64 (ji20) t109) = t110 then (float_shape_read.j1 kj2 (Go.bits .and .u64 (ji20) t109) (Go.bits .and .u64 (IntKind.u64.wrap (a1)) (IntKind.u64.wrap ((ji23) - 1))) ((Go.bits .and .u64 (IntKind.u64.wrap (a1)) (IntKind.u64.wrap ((ji23) - 1))) == 0) a0_0 a0_1 0 (wrap64 (Go.bits .and .u64 (ji17) 1)) 0 0) else (float_shape_read.j1 kj2 (Go.bits .and .u64 (ji20) t109) (Go.bits .and .u64 (IntKind.u64.wrap (a1)) (IntKind.u64.wrap ((ji23) - 1))) false a0_0 a0_1 0 (wrap64 (Go.bits .and .u64 (ji17) 1)) 0 0))) = some (r1, r2, r3, r4, r5) := by first | (rw [hji23] at H; exact H) | (simp only [hji23] at H ⊢; exact H)
            (try rw [hji23] at A21)
            have hji23_ : (IntKind.u64.wrap (1 * 2 ^ min (ji18).toNat 64)) = ji23 := hji23
            have hji23z : (ji18) ≤ 64 → (IntKind.u64.wrap (1 * 2 ^ (ji18).toNat)) = ji23 := shl_small hji23
            have hji23u : (IntKind.u64.wrap (2 ^ min (ji18).toNat 64)) = ji23 := by have h_ := hji23_; rw [Int.one_mul] at h_; exact h_
            have hji23v : (ji18) ≤ 64 → (IntKind.u64.wrap (2 ^ (ji18).toNat)) = ji23 := fun hle_ => by have h_ := hji23z hle_; rw [Int.one_mul] at h_; exact h_
            have HC24 := Aside0.mk H
            clear H
            try go_wp2_with (first | ((with_reducible refine gate_dst (N := 8) rfl ?_); refine box_event ?hg (N := 8) ?hd (cs := #[.int .i64 0, .int .i64 0, .int .u64 0, .int .i64 0]) (t := 45) ?hr ?_; (case hd => rfl); (case hg => rfl); (case hr => first | (go_simp; done) | (go_simp; rfl)); intro gb108 hg w25 hbox hb; have n0_ := Aside0.mk (blk_below (g := gb106) (o := .cells #[.int .i64 a0_0, .int .i64 a0_1] 42 (0, 0)) (by (with_reducible repeat (first | refine blk_drewN ?_ _ | refine blk_drew ?_ | refine blk_alloc ?_ _)); exact BK106.out) hb); have n1_ := Aside0.mk (blk_below (g := gb107) (o := .cells #[.int .i64 0, .int .i64 0, .int .u64 0, .int .i64 0] 45 (0, 0)) (by (with_reducible repeat (first | refine blk_drewN ?_ _ | refine blk_drew ?_ | refine blk_alloc ?_ _)); exact BK107.out) hb); have n2_ := Aside0.mk (below_step (by repeat (first | (with_reducible first | exact HB.out | apply below_alloc | apply pw_below_drewN | apply below_drew1 | refine below_set ?_ GE106.out | refine below_set ?_ GE107.out) | exact HB.out)) hb); have n3_ := Aside0.mk (hbox); have n4_ := Aside0.mk ((by rw [hg]; exact (below_size (by repeat (first | (with_reducible first | exact HB.out | apply below_alloc | apply pw_below_drewN | apply below_drew1 | refine below_set ?_ GE106.out | refine below_set ?_ GE107.out) | exact HB.out))) : w.heap.size ≤ gb108)); have n5_ := Aside0.mk ((by rw [hg]; exact (below_size (by repeat (first | (with_reducible first | exact HB.out | apply below_alloc | apply pw_below_drewN | apply below_drew1 | refine below_set ?_ GE106.out | refine below_set ?_ GE107.out) | exact HB.out))) : w.heap.size ≤ gb108)); have n6_ := Aside0.mk ((by rw [hg]; exact Nat.ne_of_lt (blk_lt (g := gb106) (o := .cells #[.int .i64 a0_0, .int .i64 a0_1] 42 (0, 0)) (by (with_reducible repeat (first | refine blk_drewN ?_ _ | refine blk_drew ?_ | refine blk_alloc ?_ _)); exact BK106.out)) : gb106 ≠ gb108)); have n7_ := Aside0.mk ((by rw [hg]; exact Nat.ne_of_gt (blk_lt (g := gb106) (o := .cells #[.int .i64 a0_0, .int .i64 a0_1] 42 (0, 0)) (by (with_reducible repeat (first | refine blk_drewN ?_ _ | refine blk_drew ?_ | refine blk_alloc ?_ _)); exact BK106.out)) : gb108 ≠ gb106)); have n8_ := Aside0.mk ((by rw [hg]; exact Nat.ne_of_lt (blk_lt (g := gb107) (o := .cells #[.int .i64 0, .int .i64 0, .int .u64 0, .int .i64 0] 45 (0, 0)) (by (with_reducible repeat (first | refine blk_drewN ?_ _ | refine blk_drew ?_ | refine blk_alloc ?_ _)); exact BK107.out)) : gb107 ≠ gb108)); have n9_ := Aside0.mk ((by rw [hg]; exact Nat.ne_of_gt (blk_lt (g := gb107) (o := .cells #[.int .i64 0, .int .i64 0, .int .u64 0, .int .i64 0] 45 (0, 0)) (by (with_reducible repeat (first | refine blk_drewN ?_ _ | refine blk_drew ?_ | refine blk_alloc ?_ _)); exact BK107.out)) : gb108 ≠ gb107)); clear BK106; clear BK107; clear HB; have BK106 := n0_; have BK107 := n1_; have HB := n2_; have BK108 := n3_; have GW108 := n4_; have GE108 := n5_; have NB106_108 := n6_; have NB108_106 := n7_; have NB107_108 := n8_; have NB108_107 := n9_; clear n0_ n1_ n2_ n3_ n4_ n5_ n6_ n7_ n8_ n9_; clear hb hbox hg; have hnb26 := NB108_106.out; have hnc26 := NB106_108.out; have hnb27 := NB108_107.out; have hnc27 := NB107_108.out; have hcz28_0 : w25.cell? ⟨gb108, 0, none⟩ = some (.int .i64 0) := (blk_cell BK108.out 0).trans rfl; have hcz28_1 : w25.cell? ⟨gb108, 1, none⟩ = some (.int .i64 0) := (blk_cell BK108.out 1).trans rfl; have hcz28_2 : w25.cell? ⟨gb108, 2, none⟩ = some (.int .u64 0) := (blk_cell BK108.out 2).trans rfl; have hcz28_3 : w25.cell? ⟨gb108, 3, none⟩ = some (.int .i64 0) := (blk_cell BK108.out 3).trans rfl; have hfz28_0 := blk_frozen BK108.out 0; have hfz28_1 := blk_frozen BK108.out 1; have hfz28_2 := blk_frozen BK108.out 2; have hfz28_3 := blk_frozen BK108.out 3))
            have n0_ : Aside0 (((((w25.setCell ⟨gb108, 0, none⟩ (.int .i64 0)).setCell ⟨gb108, 1, none⟩ (.int .i64 (wrap64 (Go.bits .and .u64 (ji17) 1)))).setCell ⟨gb108, 2, none⟩ (.int .u64 0)).setCell ⟨gb108, 3, none⟩ (.int .i64 0)).heap[gb106]? = some (.cells #[.int .i64 a0_0, .int .i64 a0_1] 42 (0, 0))) := ⟨by (with_reducible repeat (first | refine blk_drewN ?_ _ | refine blk_drew ?_ | refine blk_alloc ?_ _)); refine blk_far ?_ NB106_108.out _; (with_reducible repeat (first | refine blk_drewN ?_ _ | refine blk_drew ?_ | refine blk_alloc ?_ _)); refine blk_far ?_ NB106_108.out _; (with_reducible repeat (first | refine blk_drewN ?_ _ | refine blk_drew ?_ | refine blk_alloc ?_ _)); refine blk_far ?_ NB106_108.out _; (with_reducible repeat (first | refine blk_drewN ?_ _ | refine blk_drew ?_ | refine blk_alloc ?_ _)); refine blk_far ?_ NB106_108.out _; (with_reducible repeat (first | refine blk_drewN ?_ _ | refine blk_drew ?_ | refine blk_alloc ?_ _)); exact BK106.out⟩
            have n1_ : Aside0 (((((w25.setCell ⟨gb108, 0, none⟩ (.int .i64 0)).setCell ⟨gb108, 1, none⟩ (.int .i64 (wrap64 (Go.bits .and .u64 (ji17) 1)))).setCell ⟨gb108, 2, none⟩ (.int .u64 0)).setCell ⟨gb108, 3, none⟩ (.int .i64 0)).heap[gb107]? = some (.cells #[.int .i64 0, .int .i64 0, .int .u64 0, .int .i64 0] 45 (0, 0))) := ⟨by (with_reducible repeat (first | refine blk_drewN ?_ _ | refine blk_drew ?_ | refine blk_alloc ?_ _)); refine blk_far ?_ NB107_108.out _; (with_reducible repeat (first | refine blk_drewN ?_ _ | refine blk_drew ?_ | refine blk_alloc ?_ _)); refine blk_far ?_ NB107_108.out _; (with_reducible repeat (first | refine blk_drewN ?_ _ | refine blk_drew ?_ | refine blk_alloc ?_ _)); refine blk_far ?_ NB107_108.out _; (with_reducible repeat (first | refine blk_drewN ?_ _ | refine blk_drew ?_ | refine blk_alloc ?_ _)); refine blk_far ?_ NB107_108.out _; (with_reducible repeat (first | refine blk_drewN ?_ _ | refine blk_drew ?_ | refine blk_alloc ?_ _)); exact BK107.out⟩
            have n2_ : Aside0 (((((w25.setCell ⟨gb108, 0, none⟩ (.int .i64 0)).setCell ⟨gb108, 1, none⟩ (.int .i64 (wrap64 (Go.bits .and .u64 (ji17) 1)))).setCell ⟨gb108, 2, none⟩ (.int .u64 0)).setCell ⟨gb108, 3, none⟩ (.int .i64 0)).heap[gb108]? = some (.cells #[.int .i64 0, .int .i64 (wrap64 (Go.bits .and .u64 (ji17) 1)), .int .u64 0, .int .i64 0] 45 (0, 0))) := ⟨by (with_reducible repeat (first | refine blk_drewN ?_ _ | refine blk_drew ?_ | refine blk_alloc ?_ _)); refine blk_put (cs := #[.int .i64 0, .int .i64 (wrap64 (Go.bits .and .u64 (ji17) 1)), .int .u64 0, .int .i64 0]) ?_ 3 _ rfl; (with_reducible repeat (first | refine blk_drewN ?_ _ | refine blk_drew ?_ | refine blk_alloc ?_ _)); refine blk_put (cs := #[.int .i64 0, .int .i64 (wrap64 (Go.bits .and .u64 (ji17) 1)), .int .u64 0, .int .i64 0]) ?_ 2 _ rfl; (with_reducible repeat (first | refine blk_drewN ?_ _ | refine blk_drew ?_ | refine blk_alloc ?_ _)); refine blk_put (cs := #[.int .i64 0, .int .i64 0, .int .u64 0, .int .i64 0]) ?_ 1 _ rfl; (with_reducible repeat (first | refine blk_drewN ?_ _ | refine blk_drew ?_ | refine blk_alloc ?_ _)); refine blk_put (cs := #[.int .i64 0, .int .i64 0, .int .u64 0, .int .i64 0]) ?_ 0 _ rfl; (with_reducible repeat (first | refine blk_drewN ?_ _ | refine blk_drew ?_ | refine blk_alloc ?_ _)); exact BK108.out⟩
            have n3_ : Aside0 (Below w.heap.size w ((((w25.setCell ⟨gb108, 0, none⟩ (.int .i64 0)).setCell ⟨gb108, 1, none⟩ (.int .i64 (wrap64 (Go.bits .and .u64 (ji17) 1)))).setCell ⟨gb108, 2, none⟩ (.int .u64 0)).setCell ⟨gb108, 3, none⟩ (.int .i64 0))) := ⟨by repeat (first | (with_reducible first | exact HB.out | apply below_alloc | apply pw_below_drewN | apply below_drew1 | refine below_set ?_ GE106.out | refine below_set ?_ GE107.out | refine below_set ?_ GE108.out) | exact HB.out)⟩
            (try clear BK106)
            (try clear BK107)
            (try clear BK108)
            (try clear HB)
            generalize ((((w25.setCell ⟨gb108, 0, none⟩ (.int .i64 0)).setCell ⟨gb108, 1, none⟩ (.int .i64 (wrap64 (Go.bits .and .u64 (ji17) 1)))).setCell ⟨gb108, 2, none⟩ (.int .u64 0)).setCell ⟨gb108, 3, none⟩ (.int .i64 0)) = w29 at n0_ n1_ n2_ n3_ ⊢
            have BK106 := n0_
            have BK107 := n1_
            have BK108 := n2_
            have HB := n3_
            clear n0_ n1_ n2_ n3_
            have n0_ := Aside0.mk (blk_drew BK106.out)
            have n1_ := Aside0.mk (blk_drew BK107.out)
            have n2_ := Aside0.mk (blk_drew BK108.out)
            have n3_ := Aside0.mk (below_drew1 HB.out)
            clear BK106
            clear BK107
            clear BK108
            clear HB
            have BK106 := n0_
            have BK107 := n1_
            have BK108 := n2_
            have HB := n3_
            clear n0_ n1_ n2_ n3_
            refine start_ (n := 17) (S := fun w' => w'.cell? ⟨gb106, 0, none⟩ = some (.int .i64 a0_0) ∧ w'.cell? ⟨gb106, 1, none⟩ = some (.int .i64 a0_1)) (ds := []) #[false, false, false, false, false, false, false, false, false, false, false, false, false, false, false, false, false] (by kernel_rfl) rfl rfl ⟨(blk_cell BK106.out 0).trans rfl, (blk_cell BK106.out 1).trans rfl⟩ (fun hHeld => ?_); refine with_tabW float_shape_read.tab6 float_shape_read.bits6 (fun HT_ HW_ => ?_)
            generalize w29.drew = w30 at BK106 BK107 BK108 HB hHeld ⊢
            refine pure_ (i := 0) (N := some 34) (v := ?_) (a' := ?_) #[true, false, false, false, false, false, false, false, false, false, false, false, false, false, false, false, false] rfl rfl (any_of HT_.out (by kernel_rfl)) (fun _ _ _ h => h) (Or.inl ⟨by rfl, ?_⟩) ?_ ?_
            rotate_left
            · intro w'
              go_simp
              with_reducible rfl
            rotate_left
            · simp only [Act.put, List.setIfInBounds_toArray, List.set_cons_zero, List.set_cons_succ, i64_w, i32_w]
              rfl
            refine pure_ (i := 1) (N := some 35) (v := ?_) (a' := ?_) #[true, true, false, false, false, false, false, false, false, false, false, false, false, false, false, false, false] rfl rfl (any_of HT_.out (by kernel_rfl)) (fun _ _ _ h => h) (Or.inl ⟨by rfl, ?_⟩) ?_ ?_
            rotate_left
            · intro w'
              go_simp
              with_reducible rfl
            rotate_left
            · simp only [Act.put, List.setIfInBounds_toArray, List.set_cons_zero, List.set_cons_succ, i64_w, i32_w]
              rfl
            refine pure_ (i := 8) (N := some 42) (v := ?_) (a' := ?_) #[true, true, false, false, false, false, false, false, true, false, false, false, false, false, false, false, false] rfl rfl (any_of HT_.out (by kernel_rfl)) (fun _ _ _ h => h) (Or.inl ⟨by rfl, ?_⟩) ?_ ?_
            rotate_left
            · intro w'
              go_simp
              with_reducible rfl
            rotate_left
            · simp only [Act.put, List.setIfInBounds_toArray, List.set_cons_zero, List.set_cons_succ, i64_w, i32_w]
              rfl
            refine pure_ (i := 9) (N := some 43) (v := ?_) (a' := ?_) #[true, true, false, false, false, false, false, false, true, true, false, false, false, false, false, false, false] rfl rfl (any_of HT_.out (by kernel_rfl)) (fun _ _ _ h => h) (Or.inl ⟨by rfl, ?_⟩) ?_ ?_
            rotate_left
            · intro w'
              go_simp
              with_reducible rfl
            rotate_left
            · simp only [Act.put, List.setIfInBounds_toArray, List.set_cons_zero, List.set_cons_succ, i64_w, i32_w]
              rfl
            refine take_ (i := 2) (N := some 36) (v := ?_) (a' := ?_) #[true, true, true, false, false, false, false, false, true, true, false, false, false, false, false, false, false] rfl rfl (take_ofW HT_.out HW_.out (by kernel_rfl)) (fun _ _ _ h => h) (Or.inl ⟨by rfl, ?_⟩) hHeld ?_ ?_
            rotate_left
            · rintro w' ⟨s0, s1⟩
              go_simp
              with_reducible rfl
            rotate_left
            · simp only [Act.put, List.setIfInBounds_toArray, List.set_cons_zero, List.set_cons_succ, i64_w, i32_w]
              rfl
            refine pure_ (i := 3) (N := some 37) (v := ?_) (a' := ?_) #[true, true, true, true, false, false, false, false, true, true, false, false, false, false, false, false, false] rfl rfl (any_of HT_.out (by kernel_rfl)) (fun _ _ _ h => h) (Or.inl ⟨by rfl, ?_⟩) ?_ ?_
            rotate_left
            · intro w'
              go_simp
              with_reducible rfl
            rotate_left
            · simp only [Act.put, List.setIfInBounds_toArray, List.set_cons_zero, List.set_cons_succ, i64_w, i32_w]
              rfl
            refine pure_ (i := 4) (N := some 38) (v := ?_) (a' := ?_) #[true, true, true, true, true, false, false, false, true, true, false, false, false, false, false, false, false] rfl rfl (any_of HT_.out (by kernel_rfl)) (fun _ _ _ h => h) (Or.inl ⟨by rfl, ?_⟩) ?_ ?_
            rotate_left
            · intro w'
              go_simp
              with_reducible rfl
            rotate_left
            · simp only [Act.put, List.setIfInBounds_toArray, List.set_cons_zero, List.set_cons_succ, i64_w, i32_w]
              rfl
            refine take_ (i := 5) (N := some 39) (v := ?_) (a' := ?_) #[true, true, true, true, true, true, false, false, true, true, false, false, false, false, false, false, false] rfl rfl (take_ofW HT_.out HW_.out (by kernel_rfl)) (fun _ _ _ h => h) (Or.inl ⟨by rfl, ?_⟩) hHeld ?_ ?_
            rotate_left
            · rintro w' ⟨s0, s1⟩
              go_simp
              with_reducible rfl
            rotate_left
            · simp only [Act.put, List.setIfInBounds_toArray, List.set_cons_zero, List.set_cons_succ, i64_w, i32_w]
              rfl
            refine take_ (i := 10) (N := some 44) (v := ?_) (a' := ?_) #[true, true, true, true, true, true, false, false, true, true, true, false, false, false, false, false, false] rfl rfl (take_ofW HT_.out HW_.out (by kernel_rfl)) (fun _ _ _ h => h) (Or.inl ⟨by rfl, ?_⟩) hHeld ?_ ?_
            rotate_left
            · rintro w' ⟨s0, s1⟩
              go_simp
              with_reducible rfl
            rotate_left
            · simp only [Act.put, List.setIfInBounds_toArray, List.set_cons_zero, List.set_cons_succ, i64_w, i32_w]
              rfl
            refine pure_ (i := 11) (N := some 45) (v := ?_) (a' := ?_) #[true, true, true, true, true, true, false, false, true, true, true, true, false, false, false, false, false] rfl rfl (any_of HT_.out (by kernel_rfl)) (fun _ _ _ h => h) (Or.inl ⟨by rfl, ?_⟩) ?_ ?_
            rotate_left
            · intro w'
              go_simp
              with_reducible rfl
            rotate_left
            · simp only [Act.put, List.setIfInBounds_toArray, List.set_cons_zero, List.set_cons_succ, i64_w, i32_w]
              rfl
            refine pure_ (i := 12) (N := some 46) (v := ?_) (a' := ?_) #[true, true, true, true, true, true, false, false, true, true, true, true, true, false, false, false, false] rfl rfl (any_of HT_.out (by kernel_rfl)) (fun _ _ _ h => h) (Or.inl ⟨by rfl, ?_⟩) ?_ ?_
            rotate_left
            · intro w'
              go_simp
              with_reducible rfl
            rotate_left
            · simp only [Act.put, List.setIfInBounds_toArray, List.set_cons_zero, List.set_cons_succ, i64_w, i32_w]
              rfl
            refine pure_ (i := 13) (N := some 47) (v := ?_) (a' := ?_) #[true, true, true, true, true, true, false, false, true, true, true, true, true, true, false, false, false] rfl rfl (any_of HT_.out (by kernel_rfl)) (fun _ _ _ h => h) (Or.inl ⟨by rfl, ?_⟩) ?_ ?_
            rotate_left
            · intro w'
              go_simp
              with_reducible rfl
            rotate_left
            · simp only [Act.put, List.setIfInBounds_toArray, List.set_cons_zero, List.set_cons_succ, i64_w, i32_w]
              rfl
            refine pure_ (i := 14) (N := some 48) (v := ?_) (a' := ?_) #[true, true, true, true, true, true, false, false, true, true, true, true, true, true, true, false, false] rfl rfl (any_of HT_.out (by kernel_rfl)) (fun _ _ _ h => h) (Or.inl ⟨by rfl, ?_⟩) ?_ ?_
            rotate_left
            · intro w'
              go_simp
              with_reducible rfl
            rotate_left
            · simp only [Act.put, List.setIfInBounds_toArray, List.set_cons_zero, List.set_cons_succ, i64_w, i32_w]
              rfl
            refine one_ (i := 6) (N := some 40) #[true, true, true, true, true, true, true, false, true, true, true, true, true, true, true, false, false] rfl rfl (one_of HT_.out (by kernel_rfl)) (by decide) (fun K hK => ?_)
            refine goes_ Try.func64 (by kernel_rfl) rfl #[.agg #[.int .i64 a0_0, .int .i64 a0_1]] (by rfl) rfl rfl (by (try simp only [List.map_toArray, List.map_cons, List.map_nil]); first | done | rfl | (simp only [List.length_drop, List.length_take]; rfl)) ?_
            with_reducible refine (float_shape_top.calls a0_0 a0_1 t109 _ A21.out).mono ?_
            rintro e w31 ⟨rfl, hb⟩
            refine ⟨_, rfl, ?_⟩
            have n0_ := Aside0.mk (blk_below (g := gb106) (o := .cells #[.int .i64 a0_0, .int .i64 a0_1] 42 (0, 0)) (by (with_reducible repeat (first | refine blk_drewN ?_ _ | refine blk_drew ?_ | refine blk_alloc ?_ _)); exact BK106.out) hb)
            have n1_ := Aside0.mk (blk_below (g := gb107) (o := .cells #[.int .i64 0, .int .i64 0, .int .u64 0, .int .i64 0] 45 (0, 0)) (by (with_reducible repeat (first | refine blk_drewN ?_ _ | refine blk_drew ?_ | refine blk_alloc ?_ _)); exact BK107.out) hb)
            have n2_ := Aside0.mk (blk_below (g := gb108) (o := .cells #[.int .i64 0, .int .i64 (wrap64 (Go.bits .and .u64 (ji17) 1)), .int .u64 0, .int .i64 0] 45 (0, 0)) (by (with_reducible repeat (first | refine blk_drewN ?_ _ | refine blk_drew ?_ | refine blk_alloc ?_ _)); exact BK108.out) hb)
            have n3_ := Aside0.mk (below_step (by repeat (first | (with_reducible first | exact HB.out | apply below_alloc | apply pw_below_drewN | apply below_drew1 | refine below_set ?_ GE106.out | refine below_set ?_ GE107.out | refine below_set ?_ GE108.out) | exact HB.out)) hb)
            clear BK106
            clear BK107
            clear BK108
            clear HB
            have BK106 := n0_
            have BK107 := n1_
            have BK108 := n2_
            have HB := n3_
            clear n0_ n1_ n2_ n3_
            (try clear hb)
            (try clear hb2)
            (try clear hk)
            (try clear hi)
            refine hK.out _ _ ⟨(blk_cell BK106.out 0).trans rfl, (blk_cell BK106.out 1).trans rfl⟩ (fun hHeld => ?_)
            clear hK K
            refine norm_ (a' := ?_) ?_ ?_
            rotate_left
            · show Act.put _ (some 40) _ = _
              simp only [Act.put, List.setIfInBounds_toArray, List.set_cons_zero, List.set_cons_succ, i64_w, i32_w]
              rfl
            refine pure_ (i := 7) (N := some 41) (v := ?_) (a' := ?_) #[true, true, true, true, true, true, true, true, true, true, true, true, true, true, true, false, false] rfl rfl (any_of HT_.out (by kernel_rfl)) (fun _ _ _ h => h) (Or.inl ⟨by rfl, ?_⟩) ?_ ?_
            rotate_left
            · intro w'
              go_simp
              with_reducible rfl
            rotate_left
            · simp only [Act.put, List.setIfInBounds_toArray, List.set_cons_zero, List.set_cons_succ, i64_w, i32_w]
              rfl
            refine pure_ (i := 15) (N := some 9) (v := ?_) (a' := ?_) #[true, true, true, true, true, true, true, true, true, true, true, true, true, true, true, true, false] rfl rfl (any_of HT_.out (by kernel_rfl)) (fun _ _ _ h => h) (Or.inl ⟨by rfl, ?_⟩) ?_ ?_
            rotate_left
            · intro w'
              go_simp
              with_reducible rfl
            rotate_left
            · simp only [Act.put, List.setIfInBounds_toArray, List.set_cons_zero, List.set_cons_succ, i64_w, i32_w]
              rfl
            refine pure_ (i := 16) (N := some 10) (v := ?_) (a' := ?_) #[true, true, true, true, true, true, true, true, true, true, true, true, true, true, true, true, true] rfl rfl (any_of HT_.out (by kernel_rfl)) (fun _ _ _ h => h) (Or.inl ⟨by rfl, ?_⟩) ?_ ?_
            rotate_left
            · intro w'
              go_simp
              with_reducible rfl
            rotate_left
            · simp only [Act.put, List.setIfInBounds_toArray, List.set_cons_zero, List.set_cons_succ, i64_w, i32_w]
              rfl
            refine done_ (done_of HT_.out (by kernel_rfl)) ?_
            go_upto_region 8 with (fail)
            go_cut [67] (fun v67 wc => ∃ (kq : Nat) (x67_23 : Bool), v67 = .bool x67_23 ∧ Aside0 (float_shape_read.j1 kq (Go.bits .and .u64 (ji20) t109) (Go.bits .and .u64 (IntKind.u64.wrap (a1)) (IntKind.u64.wrap ((ji23) - 1))) x67_23 a0_0 a0_1 0 (wrap64 (Go.bits .and .u64 (ji17) 1)) 0 0 = some (r1, r2, r3, r4, r5)) ∧ Aside0 (kq ≤ kj2) ∧ Aside0 (wc.heap[gb106]? = some (.cells #[.int .i64 a0_0, .int .i64 a0_1] 42 (0, 0))) ∧ Aside0 (wc.heap[gb107]? = some (.cells #[.int .i64 0, .int .i64 0, .int .u64 0, .int .i64 0] 45 (0, 0))) ∧ Aside0 (wc.heap[gb108]? = some (.cells #[.int .i64 0, .int .i64 (wrap64 (Go.bits .and .u64 (ji17) 1)), .int .u64 0, .int .i64 0] 45 (0, 0))) ∧ Aside0 (Below w.heap.size w wc))
            case first =>
              have H := HC24.out
              clear HC24
              replace H := Option.bind_eq_some_iff.mp H
              obtain ⟨t110, A320, H⟩ := H
              replace H : (if (Go.bits .and .u64 (ji20) t109) = t110 then (float_shape_read.j1 kj2 (Go.bits .and .u64 (ji20) t109) (Go.bits .and .u64 (IntKind.u64.wrap (a1)) (IntKind.u64.wrap ((ji23) - 1))) ((Go.bits .and .u64 (IntKind.u64.wrap (a1)) (IntKind.u64.wrap ((ji23) - 1))) == 0) a0_0 a0_1 0 (wrap64 (Go.bits .and .u64 (ji17) 1)) 0 0) else (float_shape_read.j1 kj2 (Go.bits .and .u64 (ji20) t109) (Go.bits .and .u64 (IntKind.u64.wrap (a1)) (IntKind.u64.wrap ((ji23) - 1))) false a0_0 a0_1 0 (wrap64 (Go.bits .and .u64 (ji17) 1)) 0 0)) = some (r1, r2, r3, r4, r5) := H
              have A32 := Aside0.mk A320
              clear A320
              by_cases c33 : (Go.bits .and .u64 (ji20) t109) = t110
              · rw [if_pos c33] at H
                have c33b0 : ((Go.bits .and .u64 (ji20) t109) == t110) = true := beq_iff_eq.mpr c33
                have c33b1 : ((Go.bits .and .u64 (ji20) t109) != t110) = false := bne_eq_false_iff_eq.mpr c33
                clear c33
                (first | rw [c33b0] | (simp only [i64_w, i32_w]; rw [c33b0]) | skip)
                have H' := Aside0.mk H
                clear H
                have hnb34 := NB106_107.out
                have hnc34 := NB107_106.out
                have hnb35 := NB106_108.out
                have hnc35 := NB108_106.out
                have hcz36_0 : w31.cell? ⟨gb106, 0, none⟩ = some (.int .i64 a0_0) := (blk_cell BK106.out 0).trans rfl
                have hcz36_1 : w31.cell? ⟨gb106, 1, none⟩ = some (.int .i64 a0_1) := (blk_cell BK106.out 1).trans rfl
                have hfz36_0 := blk_frozen BK106.out 0
                have hfz36_1 := blk_frozen BK106.out 1
                go_wp2_with (first | ((with_reducible refine gate_callee (f := 64) rfl ?_); refine goesL_ (some 70) rfl rfl Try.func64 (by kernel_rfl) rfl #[.agg #[.int .i64 a0_0, .int .i64 a0_1]] rfl (by (try simp only [List.map_toArray, List.map_cons, List.map_nil]); first | done | rfl | (simp only [List.length_drop, List.length_take]; rfl)) ?_; (with_reducible refine (float_shape_top.calls a0_0 a0_1 t110 _ A32.out).mono ?_); rintro e w37 ⟨rfl, hb⟩; refine ⟨_, rfl, ?_⟩; have n0_ := Aside0.mk (blk_below (g := gb106) (o := .cells #[.int .i64 a0_0, .int .i64 a0_1] 42 (0, 0)) (by (with_reducible repeat (first | refine blk_drewN ?_ _ | refine blk_drew ?_ | refine blk_alloc ?_ _)); exact BK106.out) hb); have n1_ := Aside0.mk (blk_below (g := gb107) (o := .cells #[.int .i64 0, .int .i64 0, .int .u64 0, .int .i64 0] 45 (0, 0)) (by (with_reducible repeat (first | refine blk_drewN ?_ _ | refine blk_drew ?_ | refine blk_alloc ?_ _)); exact BK107.out) hb); have n2_ := Aside0.mk (blk_below (g := gb108) (o := .cells #[.int .i64 0, .int .i64 (wrap64 (Go.bits .and .u64 (ji17) 1)), .int .u64 0, .int .i64 0] 45 (0, 0)) (by (with_reducible repeat (first | refine blk_drewN ?_ _ | refine blk_drew ?_ | refine blk_alloc ?_ _)); exact BK108.out) hb); have n3_ := Aside0.mk (below_step (by repeat (first | (with_reducible first | exact HB.out | apply below_alloc | apply pw_below_drewN | apply below_drew1 | refine below_set ?_ GE106.out | refine below_set ?_ GE107.out | refine below_set ?_ GE108.out) | exact HB.out)) hb); clear BK106; clear BK107; clear BK108; clear HB; have BK106 := n0_; have BK107 := n1_; have BK108 := n2_; have HB := n3_; clear n0_ n1_ n2_ n3_; (try clear hb); (try clear hb2); (try clear hk); (try clear hi)))
                go_meet
                case rel => exact ⟨_, (((Go.bits .and .u64 (IntKind.u64.wrap (a1)) (IntKind.u64.wrap ((ji23) - 1))) == 0)), (by first | rfl | (simp; done) | (simp only [← hji23] <;> (first | rfl | simp)) | (simp [*]; done)), (by first | exact H' | (simp only [hji15, hji17, hji18, hji20, hji23] at H' ⊢; exact H')), ⟨by have := HJ2.out; first | omega | exact Nat.le_refl _⟩, ⟨by (with_reducible repeat (first | refine blk_drewN ?_ _ | refine blk_drew ?_ | refine blk_alloc ?_ _)); exact BK106.out⟩, ⟨by (with_reducible repeat (first | refine blk_drewN ?_ _ | refine blk_drew ?_ | refine blk_alloc ?_ _)); exact BK107.out⟩, ⟨by (with_reducible repeat (first | refine blk_drewN ?_ _ | refine blk_drew ?_ | refine blk_alloc ?_ _)); exact BK108.out⟩, ⟨by repeat (first | (with_reducible first | exact HB.out | apply below_alloc | apply pw_below_drewN | apply below_drew1 | refine below_set ?_ GE106.out | refine below_set ?_ GE107.out | refine below_set ?_ GE108.out) | exact HB.out)⟩⟩
              · rw [if_neg c33] at H
                have c33b0 : ((Go.bits .and .u64 (ji20) t109) == t110) = false := beq_eq_false_iff_ne.mpr c33
                have c33b1 : ((Go.bits .and .u64 (ji20) t109) != t110) = true := bne_iff_ne.mpr c33
                (first | rw [c33b0] | (simp only [i64_w, i32_w]; rw [c33b0]) | skip)
                have H' := Aside0.mk H
                clear H
                have hnb38 := NB106_107.out
                have hnc38 := NB107_106.out
                have hnb39 := NB106_108.out
                have hnc39 := NB108_106.out
                have hcz40_0 : w31.cell? ⟨gb106, 0, none⟩ = some (.int .i64 a0_0) := (blk_cell BK106.out 0).trans rfl
                have hcz40_1 : w31.cell? ⟨gb106, 1, none⟩ = some (.int .i64 a0_1) := (blk_cell BK106.out 1).trans rfl
                have hfz40_0 := blk_frozen BK106.out 0
                have hfz40_1 := blk_frozen BK106.out 1
                go_wp2_with (first | ((with_reducible refine gate_callee (f := 64) rfl ?_); refine goesL_ (some 70) rfl rfl Try.func64 (by kernel_rfl) rfl #[.agg #[.int .i64 a0_0, .int .i64 a0_1]] rfl (by (try simp only [List.map_toArray, List.map_cons, List.map_nil]); first | done | rfl | (simp only [List.length_drop, List.length_take]; rfl)) ?_; (with_reducible refine (float_shape_top.calls a0_0 a0_1 t110 _ A32.out).mono ?_); rintro e w41 ⟨rfl, hb⟩; refine ⟨_, rfl, ?_⟩; have n0_ := Aside0.mk (blk_below (g := gb106) (o := .cells #[.int .i64 a0_0, .int .i64 a0_1] 42 (0, 0)) (by (with_reducible repeat (first | refine blk_drewN ?_ _ | refine blk_drew ?_ | refine blk_alloc ?_ _)); exact BK106.out) hb); have n1_ := Aside0.mk (blk_below (g := gb107) (o := .cells #[.int .i64 0, .int .i64 0, .int .u64 0, .int .i64 0] 45 (0, 0)) (by (with_reducible repeat (first | refine blk_drewN ?_ _ | refine blk_drew ?_ | refine blk_alloc ?_ _)); exact BK107.out) hb); have n2_ := Aside0.mk (blk_below (g := gb108) (o := .cells #[.int .i64 0, .int .i64 (wrap64 (Go.bits .and .u64 (ji17) 1)), .int .u64 0, .int .i64 0] 45 (0, 0)) (by (with_reducible repeat (first | refine blk_drewN ?_ _ | refine blk_drew ?_ | refine blk_alloc ?_ _)); exact BK108.out) hb); have n3_ := Aside0.mk (below_step (by repeat (first | (with_reducible first | exact HB.out | apply below_alloc | apply pw_below_drewN | apply below_drew1 | refine below_set ?_ GE106.out | refine below_set ?_ GE107.out | refine below_set ?_ GE108.out) | exact HB.out)) hb); clear BK106; clear BK107; clear BK108; clear HB; have BK106 := n0_; have BK107 := n1_; have BK108 := n2_; have HB := n3_; clear n0_ n1_ n2_ n3_; (try clear hb); (try clear hb2); (try clear hk); (try clear hi)))
                go_meet
                case rel => exact ⟨_, (false), (by first | rfl | (simp; done) | (simp [*]; done)), (by first | exact H' | (simp only [hji15, hji17, hji18, hji20, hji23] at H' ⊢; exact H')), ⟨by have := HJ2.out; first | omega | exact Nat.le_refl _⟩, ⟨by (with_reducible repeat (first | refine blk_drewN ?_ _ | refine blk_drew ?_ | refine blk_alloc ?_ _)); exact BK106.out⟩, ⟨by (with_reducible repeat (first | refine blk_drewN ?_ _ | refine blk_drew ?_ | refine blk_alloc ?_ _)); exact BK107.out⟩, ⟨by (with_reducible repeat (first | refine blk_drewN ?_ _ | refine blk_drew ?_ | refine blk_alloc ?_ _)); exact BK108.out⟩, ⟨by repeat (first | (with_reducible first | exact HB.out | apply below_alloc | apply pw_below_drewN | apply below_drew1 | refine below_set ?_ GE106.out | refine below_set ?_ GE107.out | refine below_set ?_ GE108.out) | exact HB.out)⟩⟩
            case rest =>
              clear HC24
              try clear c1
              try clear c2
              try clear p2
              try clear c3
              try clear c6
              try clear p6
              try clear c8
              try clear c8b0
              try clear c10
              try clear c10b0
              try clear c10b1
              try clear c12
              try clear c13
              try clear c16
              try clear c16b0
              try clear c16b1
              try clear c19
              try clear c19b0
              try clear c19b1
              try clear c22
              try clear c22b0
              try clear c26
              try clear c27
              try clear c33
              try clear c33b0
              try clear c33b1
              try clear c34
              try clear c35
              try clear c38
              try clear c39
              try clear hcz14_0
              try clear hcz14_1
              try clear hcz14_2
              try clear hcz14_3
              try clear hcz28_0
              try clear hcz28_1
              try clear hcz28_2
              try clear hcz28_3
              try clear hcz36_0
              try clear hcz36_1
              try clear hcz40_0
              try clear hcz40_1
              try clear hcz7_0
              try clear hcz7_1
              try clear hfz14_0
              try clear hfz14_1
              try clear hfz14_2
              try clear hfz14_3
              try clear hfz28_0
              try clear hfz28_1
              try clear hfz28_2
              try clear hfz28_3
              try clear hfz36_0
              try clear hfz36_1
              try clear hfz40_0
              try clear hfz40_1
              try clear hfz7_0
              try clear hfz7_1
              try clear p2
              try clear p6
              obtain ⟨kq, x67_23, rfl, HA, HJ23, BK106, BK107, BK108, HB⟩ := hcut
              cases kq with
              | zero => exact absurd HA.out (by simp [float_shape_read.j1])
              | succ kj23 =>
                have H := HA.out
                clear HA
                simp only [float_shape_read.j1] at H
                by_cases c42 : x67_23 = true
                · subst c42
                  have H1 : (some (2, (wrap64 (Go.bits .and .u64 (ji17) 1)), 0, 0, true)) = some (r1, r2, r3, r4, r5) := by rw [if_pos rfl] at H; exact H
                  clear H
                  have H := H1
                  clear H1
                  simp only [Option.some.injEq, Prod.mk.injEq] at H
                  obtain ⟨rfl, rfl, rfl, rfl, rfl⟩ := H
                  have hnb43 := NB108_106.out
                  have hnc43 := NB106_108.out
                  have hnb44 := NB108_107.out
                  have hnc44 := NB107_108.out
                  have hcz45_0 : wc.cell? ⟨gb108, 0, none⟩ = some (.int .i64 0) := (blk_cell BK108.out 0).trans rfl
                  have hcz45_1 : wc.cell? ⟨gb108, 1, none⟩ = some (.int .i64 (wrap64 (Go.bits .and .u64 (ji17) 1))) := (blk_cell BK108.out 1).trans rfl
                  have hcz45_2 : wc.cell? ⟨gb108, 2, none⟩ = some (.int .u64 0) := (blk_cell BK108.out 2).trans rfl
                  have hcz45_3 : wc.cell? ⟨gb108, 3, none⟩ = some (.int .i64 0) := (blk_cell BK108.out 3).trans rfl
                  have hfz45_0 := blk_frozen BK108.out 0
                  have hfz45_1 := blk_frozen BK108.out 1
                  have hfz45_2 := blk_frozen BK108.out 2
                  have hfz45_3 := blk_frozen BK108.out 3
                  have hnb46 := NB107_106.out
                  have hnc46 := NB106_107.out
                  have hcz47_0 : wc.cell? ⟨gb107, 0, none⟩ = some (.int .i64 0) := (blk_cell BK107.out 0).trans rfl
                  have hcz47_1 : wc.cell? ⟨gb107, 1, none⟩ = some (.int .i64 0) := (blk_cell BK107.out 1).trans rfl
                  have hcz47_2 : wc.cell? ⟨gb107, 2, none⟩ = some (.int .u64 0) := (blk_cell BK107.out 2).trans rfl
                  have hcz47_3 : wc.cell? ⟨gb107, 3, none⟩ = some (.int .i64 0) := (blk_cell BK107.out 3).trans rfl
                  have hfz47_0 := blk_frozen BK107.out 0
                  have hfz47_1 := blk_frozen BK107.out 1
                  have hfz47_2 := blk_frozen BK107.out 2
                  have hfz47_3 := blk_frozen BK107.out 3
                  go_wp2
                  refine bodyPost_ret (results_ct rfl _ _ gb107 45 #[.int .i64 2, .int .i64 (wrap64 (Go.bits .and .u64 (ji17) 1)), .int .u64 0, .int .i64 0] (0, 0) _ rfl (by (with_reducible repeat (first | refine blk_drewN ?_ _ | refine blk_drew ?_ | refine blk_alloc ?_ _)); refine blk_put (cs := #[.int .i64 2, .int .i64 (wrap64 (Go.bits .and .u64 (ji17) 1)), .int .u64 0, .int .i64 0]) ?_ 3 _ rfl; (with_reducible repeat (first | refine blk_drewN ?_ _ | refine blk_drew ?_ | refine blk_alloc ?_ _)); refine blk_put (cs := #[.int .i64 2, .int .i64 (wrap64 (Go.bits .and .u64 (ji17) 1)), .int .u64 0, .int .i64 0]) ?_ 2 _ rfl; (with_reducible repeat (first | refine blk_drewN ?_ _ | refine blk_drew ?_ | refine blk_alloc ?_ _)); refine blk_put (cs := #[.int .i64 2, .int .i64 0, .int .u64 0, .int .i64 0]) ?_ 1 _ rfl; (with_reducible repeat (first | refine blk_drewN ?_ _ | refine blk_drew ?_ | refine blk_alloc ?_ _)); refine blk_put (cs := #[.int .i64 0, .int .i64 0, .int .u64 0, .int .i64 0]) ?_ 0 _ rfl; (with_reducible repeat (first | refine blk_drewN ?_ _ | refine blk_drew ?_ | refine blk_alloc ?_ _)); refine blk_far ?_ NB107_108.out _; (with_reducible repeat (first | refine blk_drewN ?_ _ | refine blk_drew ?_ | refine blk_alloc ?_ _)); exact BK107.out) Try.underlying45 rfl (by kernel_rfl)) rfl ?_
                  exact ⟨by first | rfl | (simp [errW_none, errW_some] <;> rfl) | (simp only [← hji15, ← hji17, ← hji18, ← hji20, ← hji23]; first | rfl | (simp [errW_none, errW_some] <;> rfl)) | (simp [*, errW_none, errW_some] <;> rfl), by repeat (first | (with_reducible first | exact HB.out | apply below_alloc | apply pw_below_drewN | apply below_drew1 | refine below_set ?_ GE106.out | refine below_set ?_ GE107.out | refine below_set ?_ GE108.out) | exact HB.out)⟩
                · replace c42 := Bool.eq_false_iff.mpr c42
                  subst c42
                  have H1 : ((float_shape_top.f a0_0 a0_1).bind fun t111 => (if (Go.bits .and .u64 (ji20) t109) = t111 then (some (3, (wrap64 (Go.bits .and .u64 (ji17) 1)), 0, 0, true)) else (if (Go.bits .and .u64 (ji20) t109) = 0 then (float_shape_read.j2 kj23 (Go.bits .and .u64 (ji20) t109) (Go.bits .and .u64 (IntKind.u64.wrap (a1)) (IntKind.u64.wrap ((ji23) - 1))) ((Go.bits .and .u64 (IntKind.u64.wrap (a1)) (IntKind.u64.wrap ((ji23) - 1))) == 0) a0_0 a0_1 0 (wrap64 (Go.bits .and .u64 (ji17) 1)) 0 0) else (float_shape_read.j2 kj23 (Go.bits .and .u64 (ji20) t109) (Go.bits .and .u64 (IntKind.u64.wrap (a1)) (IntKind.u64.wrap ((ji23) - 1))) false a0_0 a0_1 0 (wrap64 (Go.bits .and .u64 (ji17) 1)) 0 0)))) = some (r1, r2, r3, r4, r5) := by rw [if_neg (show ¬ (false = true) by decide)] at H; exact H
                  clear H
                  have H := H1
                  clear H1
                  replace H := Option.bind_eq_some_iff.mp H
                  obtain ⟨t111, A480, H⟩ := H
                  replace H : (if (Go.bits .and .u64 (ji20) t109) = t111 then (some (3, (wrap64 (Go.bits .and .u64 (ji17) 1)), 0, 0, true)) else (if (Go.bits .and .u64 (ji20) t109) = 0 then (float_shape_read.j2 kj23 (Go.bits .and .u64 (ji20) t109) (Go.bits .and .u64 (IntKind.u64.wrap (a1)) (IntKind.u64.wrap ((ji23) - 1))) ((Go.bits .and .u64 (IntKind.u64.wrap (a1)) (IntKind.u64.wrap ((ji23) - 1))) == 0) a0_0 a0_1 0 (wrap64 (Go.bits .and .u64 (ji17) 1)) 0 0) else (float_shape_read.j2 kj23 (Go.bits .and .u64 (ji20) t109) (Go.bits .and .u64 (IntKind.u64.wrap (a1)) (IntKind.u64.wrap ((ji23) - 1))) false a0_0 a0_1 0 (wrap64 (Go.bits .and .u64 (ji17) 1)) 0 0))) = some (r1, r2, r3, r4, r5) := H
                  have A48 := Aside0.mk A480
                  clear A480
                  by_cases c49 : (Go.bits .and .u64 (ji20) t109) = t111
                  · rw [if_pos c49] at H
                    have c49b0 : ((Go.bits .and .u64 (ji20) t109) == t111) = true := beq_iff_eq.mpr c49
                    have c49b1 : ((Go.bits .and .u64 (ji20) t109) != t111) = false := bne_eq_false_iff_eq.mpr c49
                    clear c49
                    simp only [Option.some.injEq, Prod.mk.injEq] at H
                    obtain ⟨rfl, rfl, rfl, rfl, rfl⟩ := H
                    have hnb50 := NB106_107.out
                    have hnc50 := NB107_106.out
                    have hnb51 := NB106_108.out
                    have hnc51 := NB108_106.out
                    have hcz52_0 : wc.cell? ⟨gb106, 0, none⟩ = some (.int .i64 a0_0) := (blk_cell BK106.out 0).trans rfl
                    have hcz52_1 : wc.cell? ⟨gb106, 1, none⟩ = some (.int .i64 a0_1) := (blk_cell BK106.out 1).trans rfl
                    have hfz52_0 := blk_frozen BK106.out 0
                    have hfz52_1 := blk_frozen BK106.out 1
                    go_wp2_with (first | ((with_reducible refine gate_callee (f := 64) rfl ?_); refine goesL_ (some 80) rfl rfl Try.func64 (by kernel_rfl) rfl #[.agg #[.int .i64 a0_0, .int .i64 a0_1]] rfl (by (try simp only [List.map_toArray, List.map_cons, List.map_nil]); first | done | rfl | (simp only [List.length_drop, List.length_take]; rfl)) ?_; (with_reducible refine (float_shape_top.calls a0_0 a0_1 t111 _ A48.out).mono ?_); rintro e w53 ⟨rfl, hb⟩; refine ⟨_, rfl, ?_⟩; have n0_ := Aside0.mk (blk_below (g := gb106) (o := .cells #[.int .i64 a0_0, .int .i64 a0_1] 42 (0, 0)) (by (with_reducible repeat (first | refine blk_drewN ?_ _ | refine blk_drew ?_ | refine blk_alloc ?_ _)); exact BK106.out) hb); have n1_ := Aside0.mk (blk_below (g := gb107) (o := .cells #[.int .i64 0, .int .i64 0, .int .u64 0, .int .i64 0] 45 (0, 0)) (by (with_reducible repeat (first | refine blk_drewN ?_ _ | refine blk_drew ?_ | refine blk_alloc ?_ _)); exact BK107.out) hb); have n2_ := Aside0.mk (blk_below (g := gb108) (o := .cells #[.int .i64 0, .int .i64 (wrap64 (Go.bits .and .u64 (ji17) 1)), .int .u64 0, .int .i64 0] 45 (0, 0)) (by (with_reducible repeat (first | refine blk_drewN ?_ _ | refine blk_drew ?_ | refine blk_alloc ?_ _)); exact BK108.out) hb); have n3_ := Aside0.mk (below_step (by repeat (first | (with_reducible first | exact HB.out | apply below_alloc | apply pw_below_drewN | apply below_drew1 | refine below_set ?_ GE106.out | refine below_set ?_ GE107.out | refine below_set ?_ GE108.out) | exact HB.out)) hb); clear BK106; clear BK107; clear BK108; clear HB; have BK106 := n0_; have BK107 := n1_; have BK108 := n2_; have HB := n3_; clear n0_ n1_ n2_ n3_; (try clear hb); (try clear hb2); (try clear hk); (try clear hi); have hnb54 := NB108_107.out; have hnc54 := NB107_108.out; have hcz55_0 : w53.cell? ⟨gb108, 0, none⟩ = some (.int .i64 0) := (blk_cell BK108.out 0).trans rfl; have hcz55_1 : w53.cell? ⟨gb108, 1, none⟩ = some (.int .i64 (wrap64 (Go.bits .and .u64 (ji17) 1))) := (blk_cell BK108.out 1).trans rfl; have hcz55_2 : w53.cell? ⟨gb108, 2, none⟩ = some (.int .u64 0) := (blk_cell BK108.out 2).trans rfl; have hcz55_3 : w53.cell? ⟨gb108, 3, none⟩ = some (.int .i64 0) := (blk_cell BK108.out 3).trans rfl; have hfz55_0 := blk_frozen BK108.out 0; have hfz55_1 := blk_frozen BK108.out 1; have hfz55_2 := blk_frozen BK108.out 2; have hfz55_3 := blk_frozen BK108.out 3; have hcz56_0 : w53.cell? ⟨gb107, 0, none⟩ = some (.int .i64 0) := (blk_cell BK107.out 0).trans rfl; have hcz56_1 : w53.cell? ⟨gb107, 1, none⟩ = some (.int .i64 0) := (blk_cell BK107.out 1).trans rfl; have hcz56_2 : w53.cell? ⟨gb107, 2, none⟩ = some (.int .u64 0) := (blk_cell BK107.out 2).trans rfl; have hcz56_3 : w53.cell? ⟨gb107, 3, none⟩ = some (.int .i64 0) := (blk_cell BK107.out 3).trans rfl; have hfz56_0 := blk_frozen BK107.out 0; have hfz56_1 := blk_frozen BK107.out 1; have hfz56_2 := blk_frozen BK107.out 2; have hfz56_3 := blk_frozen BK107.out 3))
                    refine bodyPost_ret (results_ct rfl _ _ gb107 45 #[.int .i64 3, .int .i64 (wrap64 (Go.bits .and .u64 (ji17) 1)), .int .u64 0, .int .i64 0] (0, 0) _ rfl (by (with_reducible repeat (first | refine blk_drewN ?_ _ | refine blk_drew ?_ | refine blk_alloc ?_ _)); refine blk_put (cs := #[.int .i64 3, .int .i64 (wrap64 (Go.bits .and .u64 (ji17) 1)), .int .u64 0, .int .i64 0]) ?_ 3 _ rfl; (with_reducible repeat (first | refine blk_drewN ?_ _ | refine blk_drew ?_ | refine blk_alloc ?_ _)); refine blk_put (cs := #[.int .i64 3, .int .i64 (wrap64 (Go.bits .and .u64 (ji17) 1)), .int .u64 0, .int .i64 0]) ?_ 2 _ rfl; (with_reducible repeat (first | refine blk_drewN ?_ _ | refine blk_drew ?_ | refine blk_alloc ?_ _)); refine blk_put (cs := #[.int .i64 3, .int .i64 0, .int .u64 0, .int .i64 0]) ?_ 1 _ rfl; (with_reducible repeat (first | refine blk_drewN ?_ _ | refine blk_drew ?_ | refine blk_alloc ?_ _)); refine blk_put (cs := #[.int .i64 0, .int .i64 0, .int .u64 0, .int .i64 0]) ?_ 0 _ rfl; (with_reducible repeat (first | refine blk_drewN ?_ _ | refine blk_drew ?_ | refine blk_alloc ?_ _)); refine blk_far ?_ NB107_108.out _; (with_reducible repeat (first | refine blk_drewN ?_ _ | refine blk_drew ?_ | refine blk_alloc ?_ _)); exact BK107.out) Try.underlying45 rfl (by kernel_rfl)) rfl ?_
                    exact ⟨by first | rfl | (simp [errW_none, errW_some] <;> rfl) | (simp only [← hji15, ← hji17, ← hji18, ← hji20, ← hji23]; first | rfl | (simp [errW_none, errW_some] <;> rfl)) | (simp [*, errW_none, errW_some] <;> rfl), by repeat (first | (with_reducible first | exact HB.out | apply below_alloc | apply pw_below_drewN | apply below_drew1 | refine below_set ?_ GE106.out | refine below_set ?_ GE107.out | refine below_set ?_ GE108.out) | exact HB.out)⟩
                  · rw [if_neg c49] at H
                    have c49b0 : ((Go.bits .and .u64 (ji20) t109) == t111) = false := beq_eq_false_iff_ne.mpr c49
                    have c49b1 : ((Go.bits .and .u64 (ji20) t109) != t111) = true := bne_iff_ne.mpr c49
                    have HC57 := Aside0.mk H
                    clear H
                    have hnb58 := NB106_107.out
                    have hnc58 := NB107_106.out
                    have hnb59 := NB106_108.out
                    have hnc59 := NB108_106.out
                    have hcz60_0 : wc.cell? ⟨gb106, 0, none⟩ = some (.int .i64 a0_0) := (blk_cell BK106.out 0).trans rfl
                    have hcz60_1 : wc.cell? ⟨gb106, 1, none⟩ = some (.int .i64 a0_1) := (blk_cell BK106.out 1).trans rfl
                    have hfz60_0 := blk_frozen BK106.out 0
                    have hfz60_1 := blk_frozen BK106.out 1
                    go_upto_region 12 with (first | ((with_reducible refine gate_callee (f := 64) rfl ?_); refine goesL_ (some 80) rfl rfl Try.func64 (by kernel_rfl) rfl #[.agg #[.int .i64 a0_0, .int .i64 a0_1]] rfl (by (try simp only [List.map_toArray, List.map_cons, List.map_nil]); first | done | rfl | (simp only [List.length_drop, List.length_take]; rfl)) ?_; (with_reducible refine (float_shape_top.calls a0_0 a0_1 t111 _ A48.out).mono ?_); rintro e w61 ⟨rfl, hb⟩; refine ⟨_, rfl, ?_⟩; have n0_ := Aside0.mk (blk_below (g := gb106) (o := .cells #[.int .i64 a0_0, .int .i64 a0_1] 42 (0, 0)) (by (with_reducible repeat (first | refine blk_drewN ?_ _ | refine blk_drew ?_ | refine blk_alloc ?_ _)); exact BK106.out) hb); have n1_ := Aside0.mk (blk_below (g := gb107) (o := .cells #[.int .i64 0, .int .i64 0, .int .u64 0, .int .i64 0] 45 (0, 0)) (by (with_reducible repeat (first | refine blk_drewN ?_ _ | refine blk_drew ?_ | refine blk_alloc ?_ _)); exact BK107.out) hb); have n2_ := Aside0.mk (blk_below (g := gb108) (o := .cells #[.int .i64 0, .int .i64 (wrap64 (Go.bits .and .u64 (ji17) 1)), .int .u64 0, .int .i64 0] 45 (0, 0)) (by (with_reducible repeat (first | refine blk_drewN ?_ _ | refine blk_drew ?_ | refine blk_alloc ?_ _)); exact BK108.out) hb); have n3_ := Aside0.mk (below_step (by repeat (first | (with_reducible first | exact HB.out | apply below_alloc | apply pw_below_drewN | apply below_drew1 | refine below_set ?_ GE106.out | refine below_set ?_ GE107.out | refine below_set ?_ GE108.out) | exact HB.out)) hb); clear BK106; clear BK107; clear BK108; clear HB; have BK106 := n0_; have BK107 := n1_; have BK108 := n2_; have HB := n3_; clear n0_ n1_ n2_ n3_; (try clear hb); (try clear hb2); (try clear hk); (try clear hi)))
                    (try simp only [Act.put, List.setIfInBounds_toArray, List.set_cons_zero, List.set_cons_succ])
                    go_cut [83] (fun v83 wc => ∃ (kq : Nat) (x83_56 : Bool), v83 = .bool x83_56 ∧ Aside0 (float_shape_read.j2 kq (Go.bits .and .u64 (ji20) t109) (Go.bits .and .u64 (IntKind.u64.wrap (a1)) (IntKind.u64.wrap ((ji23) - 1))) x83_56 a0_0 a0_1 0 (wrap64 (Go.bits .and .u64 (ji17) 1)) 0 0 = some (r1, r2, r3, r4, r5)) ∧ Aside0 (kq ≤ kj23) ∧ Aside0 (wc.heap[gb106]? = some (.cells #[.int .i64 a0_0, .int .i64 a0_1] 42 (0, 0))) ∧ Aside0 (wc.heap[gb107]? = some (.cells #[.int .i64 0, .int .i64 0, .int .u64 0, .int .i64 0] 45 (0, 0))) ∧ Aside0 (wc.heap[gb108]? = some (.cells #[.int .i64 0, .int .i64 (wrap64 (Go.bits .and .u64 (ji17) 1)), .int .u64 0, .int .i64 0] 45 (0, 0))) ∧ Aside0 (Below w.heap.size w wc))
                    case first =>
                      have H := HC57.out
                      clear HC57
                      by_cases c62 : (Go.bits .and .u64 (ji20) t109) = 0
                      · rw [if_pos c62] at H
                        have c62b0 : ((Go.bits .and .u64 (ji20) t109) == 0) = true := beq_iff_eq.mpr c62
                        have c62b1 : ((Go.bits .and .u64 (ji20) t109) != 0) = false := bne_eq_false_iff_eq.mpr c62
                        clear c62
                        (first | rw [c62b0] | (simp only [i64_w, i32_w]; rw [c62b0]) | skip)
                        have H' := Aside0.mk H
                        clear H
                        go_wp2
                        go_meet
                        case rel => exact ⟨_, (((Go.bits .and .u64 (IntKind.u64.wrap (a1)) (IntKind.u64.wrap ((ji23) - 1))) == 0)), (by first | rfl | (simp; done) | (simp only [← hji23] <;> (first | rfl | simp)) | (simp [*]; done)), (by first | exact H' | (simp only [hji15, hji17, hji18, hji20, hji23] at H' ⊢; exact H')), ⟨by have := HJ2.out; have := HJ23.out; first | omega | exact Nat.le_refl _⟩, ⟨by (with_reducible repeat (first | refine blk_drewN ?_ _ | refine blk_drew ?_ | refine blk_alloc ?_ _)); exact BK106.out⟩, ⟨by (with_reducible repeat (first | refine blk_drewN ?_ _ | refine blk_drew ?_ | refine blk_alloc ?_ _)); exact BK107.out⟩, ⟨by (with_reducible repeat (first | refine blk_drewN ?_ _ | refine blk_drew ?_ | refine blk_alloc ?_ _)); exact BK108.out⟩, ⟨by repeat (first | (with_reducible first | exact HB.out | apply below_alloc | apply pw_below_drewN | apply below_drew1 | refine below_set ?_ GE106.out | refine below_set ?_ GE107.out | refine below_set ?_ GE108.out) | exact HB.out)⟩⟩
                      · rw [if_neg c62] at H
                        have c62b0 : ((Go.bits .and .u64 (ji20) t109) == 0) = false := beq_eq_false_iff_ne.mpr c62
                        have c62b1 : ((Go.bits .and .u64 (ji20) t109) != 0) = true := bne_iff_ne.mpr c62
                        (first | rw [c62b0] | (simp only [i64_w, i32_w]; rw [c62b0]) | skip)
                        have H' := Aside0.mk H
                        clear H
                        go_wp2
                        go_meet
                        case rel => exact ⟨_, (false), (by first | rfl | (simp; done) | (simp [*]; done)), (by first | exact H' | (simp only [hji15, hji17, hji18, hji20, hji23] at H' ⊢; exact H')), ⟨by have := HJ2.out; have := HJ23.out; first | omega | exact Nat.le_refl _⟩, ⟨by (with_reducible repeat (first | refine blk_drewN ?_ _ | refine blk_drew ?_ | refine blk_alloc ?_ _)); exact BK106.out⟩, ⟨by (with_reducible repeat (first | refine blk_drewN ?_ _ | refine blk_drew ?_ | refine blk_alloc ?_ _)); exact BK107.out⟩, ⟨by (with_reducible repeat (first | refine blk_drewN ?_ _ | refine blk_drew ?_ | refine blk_alloc ?_ _)); exact BK108.out⟩, ⟨by repeat (first | (with_reducible first | exact HB.out | apply below_alloc | apply pw_below_drewN | apply below_drew1 | refine below_set ?_ GE106.out | refine below_set ?_ GE107.out | refine below_set ?_ GE108.out) | exact HB.out)⟩⟩
                    case rest =>
                      clear HC57
                      try clear c1
                      try clear c2
                      try clear p2
                      try clear c3
                      try clear c4
                      try clear c5
                      try clear c6
                      try clear p6
                      try clear c8
                      try clear c8b0
                      try clear c10
                      try clear c10b0
                      try clear c10b1
                      try clear c12
                      try clear c13
                      try clear c16
                      try clear c16b0
                      try clear c16b1
                      try clear c19
                      try clear c19b0
                      try clear c19b1
                      try clear c22
                      try clear c22b0
                      try clear c26
                      try clear c27
                      try clear c33
                      try clear c33b0
                      try clear c33b1
                      try clear c34
                      try clear c35
                      try clear c38
                      try clear c39
                      try clear c42
                      try clear c43
                      try clear c44
                      try clear c46
                      try clear c49
                      try clear c49b0
                      try clear c49b1
                      try clear c50
                      try clear c51
                      try clear c54
                      try clear c58
                      try clear c59
                      try clear c62
                      try clear c62b0
                      try clear c62b1
                      try clear hcz14_0
                      try clear hcz14_1
                      try clear hcz14_2
                      try clear hcz14_3
                      try clear hcz28_0
                      try clear hcz28_1
                      try clear hcz28_2
                      try clear hcz28_3
                      try clear hcz36_0
                      try clear hcz36_1
                      try clear hcz40_0
                      try clear hcz40_1
                      try clear hcz45_0
                      try clear hcz45_1
                      try clear hcz45_2
                      try clear hcz45_3
                      try clear hcz47_0
                      try clear hcz47_1
                      try clear hcz47_2
                      try clear hcz47_3
                      try clear hcz52_0
                      try clear hcz52_1
                      try clear hcz55_0
                      try clear hcz55_1
                      try clear hcz55_2
                      try clear hcz55_3
                      try clear hcz56_0
                      try clear hcz56_1
                      try clear hcz56_2
                      try clear hcz56_3
                      try clear hcz60_0
                      try clear hcz60_1
                      try clear hcz7_0
                      try clear hcz7_1
                      try clear hfz14_0
                      try clear hfz14_1
                      try clear hfz14_2
                      try clear hfz14_3
                      try clear hfz28_0
                      try clear hfz28_1
                      try clear hfz28_2
                      try clear hfz28_3
                      try clear hfz36_0
                      try clear hfz36_1
                      try clear hfz40_0
                      try clear hfz40_1
                      try clear hfz45_0
                      try clear hfz45_1
                      try clear hfz45_2
                      try clear hfz45_3
                      try clear hfz47_0
                      try clear hfz47_1
                      try clear hfz47_2
                      try clear hfz47_3
                      try clear hfz52_0
                      try clear hfz52_1
                      try clear hfz55_0
                      try clear hfz55_1
                      try clear hfz55_2
                      try clear hfz55_3
                      try clear hfz56_0
                      try clear hfz56_1
                      try clear hfz56_2
                      try clear hfz56_3
                      try clear hfz60_0
                      try clear hfz60_1
                      try clear hfz7_0
                      try clear hfz7_1
                      try clear p2
                      try clear p6
                      obtain ⟨kq, x83_56, rfl, HA, HJ56, BK106, BK107, BK108, HB⟩ := hcut
                      cases kq with
                      | zero => exact absurd HA.out (by simp [float_shape_read.j2])
                      | succ kj56 =>
                        have H := HA.out
                        clear HA
                        simp only [float_shape_read.j2] at H
                        by_cases c63 : x83_56 = true
                        · subst c63
                          have H1 : (some (0, (wrap64 (Go.bits .and .u64 (ji17) 1)), 0, 0, true)) = some (r1, r2, r3, r4, r5) := by rw [if_pos rfl] at H; exact H
                          clear H
                          have H := H1
                          clear H1
                          simp only [Option.some.injEq, Prod.mk.injEq] at H
                          obtain ⟨rfl, rfl, rfl, rfl, rfl⟩ := H
                          have hnb64 := NB108_106.out
                          have hnc64 := NB106_108.out
                          have hnb65 := NB108_107.out
                          have hnc65 := NB107_108.out
                          have hcz66_0 : wc.cell? ⟨gb108, 0, none⟩ = some (.int .i64 0) := (blk_cell BK108.out 0).trans rfl
                          have hcz66_1 : wc.cell? ⟨gb108, 1, none⟩ = some (.int .i64 (wrap64 (Go.bits .and .u64 (ji17) 1))) := (blk_cell BK108.out 1).trans rfl
                          have hcz66_2 : wc.cell? ⟨gb108, 2, none⟩ = some (.int .u64 0) := (blk_cell BK108.out 2).trans rfl
                          have hcz66_3 : wc.cell? ⟨gb108, 3, none⟩ = some (.int .i64 0) := (blk_cell BK108.out 3).trans rfl
                          have hfz66_0 := blk_frozen BK108.out 0
                          have hfz66_1 := blk_frozen BK108.out 1
                          have hfz66_2 := blk_frozen BK108.out 2
                          have hfz66_3 := blk_frozen BK108.out 3
                          have hnb67 := NB107_106.out
                          have hnc67 := NB106_107.out
                          have hcz68_0 : wc.cell? ⟨gb107, 0, none⟩ = some (.int .i64 0) := (blk_cell BK107.out 0).trans rfl
                          have hcz68_1 : wc.cell? ⟨gb107, 1, none⟩ = some (.int .i64 0) := (blk_cell BK107.out 1).trans rfl
                          have hcz68_2 : wc.cell? ⟨gb107, 2, none⟩ = some (.int .u64 0) := (blk_cell BK107.out 2).trans rfl
                          have hcz68_3 : wc.cell? ⟨gb107, 3, none⟩ = some (.int .i64 0) := (blk_cell BK107.out 3).trans rfl
                          have hfz68_0 := blk_frozen BK107.out 0
                          have hfz68_1 := blk_frozen BK107.out 1
                          have hfz68_2 := blk_frozen BK107.out 2
                          have hfz68_3 := blk_frozen BK107.out 3
                          go_wp2
                          refine bodyPost_ret (results_ct rfl _ _ gb107 45 #[.int .i64 0, .int .i64 (wrap64 (Go.bits .and .u64 (ji17) 1)), .int .u64 0, .int .i64 0] (0, 0) _ rfl (by (with_reducible repeat (first | refine blk_drewN ?_ _ | refine blk_drew ?_ | refine blk_alloc ?_ _)); refine blk_put (cs := #[.int .i64 0, .int .i64 (wrap64 (Go.bits .and .u64 (ji17) 1)), .int .u64 0, .int .i64 0]) ?_ 3 _ rfl; (with_reducible repeat (first | refine blk_drewN ?_ _ | refine blk_drew ?_ | refine blk_alloc ?_ _)); refine blk_put (cs := #[.int .i64 0, .int .i64 (wrap64 (Go.bits .and .u64 (ji17) 1)), .int .u64 0, .int .i64 0]) ?_ 2 _ rfl; (with_reducible repeat (first | refine blk_drewN ?_ _ | refine blk_drew ?_ | refine blk_alloc ?_ _)); refine blk_put (cs := #[.int .i64 0, .int .i64 0, .int .u64 0, .int .i64 0]) ?_ 1 _ rfl; (with_reducible repeat (first | refine blk_drewN ?_ _ | refine blk_drew ?_ | refine blk_alloc ?_ _)); refine blk_put (cs := #[.int .i64 0, .int .i64 0, .int .u64 0, .int .i64 0]) ?_ 0 _ rfl; (with_reducible repeat (first | refine blk_drewN ?_ _ | refine blk_drew ?_ | refine blk_alloc ?_ _)); refine blk_far ?_ NB107_108.out _; (with_reducible repeat (first | refine blk_drewN ?_ _ | refine blk_drew ?_ | refine blk_alloc ?_ _)); exact BK107.out) Try.underlying45 rfl (by kernel_rfl)) rfl ?_
                          exact ⟨by first | rfl | (simp [errW_none, errW_some] <;> rfl) | (simp only [← hji15, ← hji17, ← hji18, ← hji20, ← hji23]; first | rfl | (simp [errW_none, errW_some] <;> rfl)) | (simp [*, errW_none, errW_some] <;> rfl), by repeat (first | (with_reducible first | exact HB.out | apply below_alloc | apply pw_below_drewN | apply below_drew1 | refine below_set ?_ GE106.out | refine below_set ?_ GE107.out | refine below_set ?_ GE108.out) | exact HB.out)⟩
                        · replace c63 := Bool.eq_false_iff.mpr c63
                          subst c63
                          have H1 : (if (Go.bits .and .u64 (ji20) t109) = 0 then ((float_shape_least.f a0_0 a0_1).bind fun t112 => (some (1, (wrap64 (Go.bits .and .u64 (ji17) 1)), (Go.bits .and .u64 (IntKind.u64.wrap (a1)) (IntKind.u64.wrap ((ji23) - 1))), t112, true))) else (if 0 ≤ (wrap64 (a0_0 - 1)) then ((float_shape_bias.f a0_0 a0_1).bind fun t113 => (some (1, (wrap64 (Go.bits .and .u64 (ji17) 1)), Go.bits .or .u64 (Go.bits .and .u64 (IntKind.u64.wrap (a1)) (IntKind.u64.wrap ((ji23) - 1))) (shl .u64 1 (wrap64 (a0_0 - 1))), wrap64 ((wrap64 ((wrap64 ((wrap64 ((Go.bits .and .u64 (ji20) t109))) - t113)) - a0_0)) + 1), true))) else (none))) = some (r1, r2, r3, r4, r5) := by rw [if_neg (show ¬ (false = true) by decide)] at H; exact H
                          clear H
                          have H := H1
                          clear H1
                          by_cases c69 : (Go.bits .and .u64 (ji20) t109) = 0
                          · rw [if_pos c69] at H
                            have c69b0 : ((Go.bits .and .u64 (ji20) t109) == 0) = true := beq_iff_eq.mpr c69
                            have c69b1 : ((Go.bits .and .u64 (ji20) t109) != 0) = false := bne_eq_false_iff_eq.mpr c69
                            clear c69
                            replace H := Option.bind_eq_some_iff.mp H
                            obtain ⟨t112, A700, H⟩ := H
                            replace H : (some (1, (wrap64 (Go.bits .and .u64 (ji17) 1)), (Go.bits .and .u64 (IntKind.u64.wrap (a1)) (IntKind.u64.wrap ((ji23) - 1))), t112, true)) = some (r1, r2, r3, r4, r5) := H
                            have A70 := Aside0.mk A700
                            clear A700
                            simp only [Option.some.injEq, Prod.mk.injEq] at H
                            obtain ⟨rfl, rfl, rfl, rfl, rfl⟩ := H
                            have hnb71 := NB106_107.out
                            have hnc71 := NB107_106.out
                            have hnb72 := NB106_108.out
                            have hnc72 := NB108_106.out
                            have hcz73_0 : wc.cell? ⟨gb106, 0, none⟩ = some (.int .i64 a0_0) := (blk_cell BK106.out 0).trans rfl
                            have hcz73_1 : wc.cell? ⟨gb106, 1, none⟩ = some (.int .i64 a0_1) := (blk_cell BK106.out 1).trans rfl
                            have hfz73_0 := blk_frozen BK106.out 0
                            have hfz73_1 := blk_frozen BK106.out 1
                            go_wp2_with (first | ((with_reducible refine gate_callee (f := 89) rfl ?_); refine goesL_ (some 96) rfl rfl Try.func89 (by kernel_rfl) rfl #[.agg #[.int .i64 a0_0, .int .i64 a0_1]] rfl (by (try simp only [List.map_toArray, List.map_cons, List.map_nil]); first | done | rfl | (simp only [List.length_drop, List.length_take]; rfl)) ?_; (with_reducible refine (float_shape_least.calls a0_0 a0_1 t112 _ A70.out).mono ?_); rintro e w74 ⟨rfl, hb⟩; refine ⟨_, rfl, ?_⟩; have n0_ := Aside0.mk (blk_below (g := gb106) (o := .cells #[.int .i64 a0_0, .int .i64 a0_1] 42 (0, 0)) (by (with_reducible repeat (first | refine blk_drewN ?_ _ | refine blk_drew ?_ | refine blk_alloc ?_ _)); exact BK106.out) hb); have n1_ := Aside0.mk (blk_below (g := gb107) (o := .cells #[.int .i64 0, .int .i64 0, .int .u64 0, .int .i64 0] 45 (0, 0)) (by (with_reducible repeat (first | refine blk_drewN ?_ _ | refine blk_drew ?_ | refine blk_alloc ?_ _)); exact BK107.out) hb); have n2_ := Aside0.mk (blk_below (g := gb108) (o := .cells #[.int .i64 0, .int .i64 (wrap64 (Go.bits .and .u64 (ji17) 1)), .int .u64 0, .int .i64 0] 45 (0, 0)) (by (with_reducible repeat (first | refine blk_drewN ?_ _ | refine blk_drew ?_ | refine blk_alloc ?_ _)); exact BK108.out) hb); have n3_ := Aside0.mk (below_step (by repeat (first | (with_reducible first | exact HB.out | apply below_alloc | apply pw_below_drewN | apply below_drew1 | refine below_set ?_ GE106.out | refine below_set ?_ GE107.out | refine below_set ?_ GE108.out) | exact HB.out)) hb); clear BK106; clear BK107; clear BK108; clear HB; have BK106 := n0_; have BK107 := n1_; have BK108 := n2_; have HB := n3_; clear n0_ n1_ n2_ n3_; (try clear hb); (try clear hb2); (try clear hk); (try clear hi); have hnb75 := NB108_107.out; have hnc75 := NB107_108.out; have hcz76_0 : w74.cell? ⟨gb108, 0, none⟩ = some (.int .i64 0) := (blk_cell BK108.out 0).trans rfl; have hcz76_1 : w74.cell? ⟨gb108, 1, none⟩ = some (.int .i64 (wrap64 (Go.bits .and .u64 (ji17) 1))) := (blk_cell BK108.out 1).trans rfl; have hcz76_2 : w74.cell? ⟨gb108, 2, none⟩ = some (.int .u64 0) := (blk_cell BK108.out 2).trans rfl; have hcz76_3 : w74.cell? ⟨gb108, 3, none⟩ = some (.int .i64 0) := (blk_cell BK108.out 3).trans rfl; have hfz76_0 := blk_frozen BK108.out 0; have hfz76_1 := blk_frozen BK108.out 1; have hfz76_2 := blk_frozen BK108.out 2; have hfz76_3 := blk_frozen BK108.out 3; have hcz77_0 : w74.cell? ⟨gb107, 0, none⟩ = some (.int .i64 0) := (blk_cell BK107.out 0).trans rfl; have hcz77_1 : w74.cell? ⟨gb107, 1, none⟩ = some (.int .i64 0) := (blk_cell BK107.out 1).trans rfl; have hcz77_2 : w74.cell? ⟨gb107, 2, none⟩ = some (.int .u64 0) := (blk_cell BK107.out 2).trans rfl; have hcz77_3 : w74.cell? ⟨gb107, 3, none⟩ = some (.int .i64 0) := (blk_cell BK107.out 3).trans rfl; have hfz77_0 := blk_frozen BK107.out 0; have hfz77_1 := blk_frozen BK107.out 1; have hfz77_2 := blk_frozen BK107.out 2; have hfz77_3 := blk_frozen BK107.out 3))
                            refine bodyPost_ret (results_ct rfl _ _ gb107 45 #[.int .i64 1, .int .i64 (wrap64 (Go.bits .and .u64 (ji17) 1)), .int .u64 (Go.bits .and .u64 (IntKind.u64.wrap (a1)) (IntKind.u64.wrap ((ji23) - 1))), .int .i64 t112] (0, 0) _ rfl (by (with_reducible repeat (first | refine blk_drewN ?_ _ | refine blk_drew ?_ | refine blk_alloc ?_ _)); refine blk_put (cs := #[.int .i64 1, .int .i64 (wrap64 (Go.bits .and .u64 (ji17) 1)), .int .u64 (Go.bits .and .u64 (IntKind.u64.wrap (a1)) (IntKind.u64.wrap ((ji23) - 1))), .int .i64 0]) ?_ 3 _ rfl; (with_reducible repeat (first | refine blk_drewN ?_ _ | refine blk_drew ?_ | refine blk_alloc ?_ _)); refine blk_put (cs := #[.int .i64 1, .int .i64 (wrap64 (Go.bits .and .u64 (ji17) 1)), .int .u64 0, .int .i64 0]) ?_ 2 _ rfl; (with_reducible repeat (first | refine blk_drewN ?_ _ | refine blk_drew ?_ | refine blk_alloc ?_ _)); refine blk_put (cs := #[.int .i64 1, .int .i64 0, .int .u64 0, .int .i64 0]) ?_ 1 _ rfl; (with_reducible repeat (first | refine blk_drewN ?_ _ | refine blk_drew ?_ | refine blk_alloc ?_ _)); refine blk_put (cs := #[.int .i64 0, .int .i64 0, .int .u64 0, .int .i64 0]) ?_ 0 _ rfl; (with_reducible repeat (first | refine blk_drewN ?_ _ | refine blk_drew ?_ | refine blk_alloc ?_ _)); refine blk_far ?_ NB107_108.out _; (with_reducible repeat (first | refine blk_drewN ?_ _ | refine blk_drew ?_ | refine blk_alloc ?_ _)); refine blk_far ?_ NB107_108.out _; (with_reducible repeat (first | refine blk_drewN ?_ _ | refine blk_drew ?_ | refine blk_alloc ?_ _)); refine blk_far ?_ NB107_108.out _; (with_reducible repeat (first | refine blk_drewN ?_ _ | refine blk_drew ?_ | refine blk_alloc ?_ _)); exact BK107.out) Try.underlying45 rfl (by kernel_rfl)) rfl ?_
                            exact ⟨by first | rfl | (simp [errW_none, errW_some] <;> rfl) | (simp only [← hji15, ← hji17, ← hji18, ← hji20, ← hji23]; first | rfl | (simp [errW_none, errW_some] <;> rfl)) | (simp [*, errW_none, errW_some] <;> rfl), by repeat (first | (with_reducible first | exact HB.out | apply below_alloc | apply pw_below_drewN | apply below_drew1 | refine below_set ?_ GE106.out | refine below_set ?_ GE107.out | refine below_set ?_ GE108.out) | exact HB.out)⟩
                          · rw [if_neg c69] at H
                            have c69b0 : ((Go.bits .and .u64 (ji20) t109) == 0) = false := beq_eq_false_iff_ne.mpr c69
                            have c69b1 : ((Go.bits .and .u64 (ji20) t109) != 0) = true := bne_iff_ne.mpr c69
                            replace H : (if 0 ≤ (ji18) then ((float_shape_bias.f a0_0 a0_1).bind fun t113 => (some (1, (wrap64 (Go.bits .and .u64 (ji17) 1)), Go.bits .or .u64 (Go.bits .and .u64 (IntKind.u64.wrap (a1)) (IntKind.u64.wrap ((ji23) - 1))) (shl .u64 1 (ji18)), wrap64 ((wrap64 ((wrap64 ((wrap64 ((Go.bits .and .u64 (ji20) t109))) - t113)) - a0_0)) + 1), true))) else (none)) = some (r1, r2, r3, r4, r5) := by first | (rw [hji18] at H; exact H) | (simp only [hji18] at H ⊢; exact H)
                            by_cases c79 : 0 ≤ (ji18)
                            · rw [if_pos c79] at H
                              have c79b0 := eq_true c79
                              have c79b1 : decide (0 ≤ (ji18)) = true := decide_eq_true c79
                              clear c79
                              replace H : ((float_shape_bias.f a0_0 a0_1).bind fun t113 => (some (1, (wrap64 (Go.bits .and .u64 (ji17) 1)), Go.bits .or .u64 (Go.bits .and .u64 (IntKind.u64.wrap (a1)) (IntKind.u64.wrap ((ji23) - 1))) (ji23), wrap64 ((wrap64 ((wrap64 ((wrap64 ((Go.bits .and .u64 (ji20) t109))) - t113)) - a0_0)) + 1), true))) = some (r1, r2, r3, r4, r5) := by first | (rw [hji23] at H; exact H) | (simp only [hji23] at H ⊢; exact H)
                              replace H := Option.bind_eq_some_iff.mp H
                              obtain ⟨t113, A810, H⟩ := H
                              replace H : (some (1, (wrap64 (Go.bits .and .u64 (ji17) 1)), Go.bits .or .u64 (Go.bits .and .u64 (IntKind.u64.wrap (a1)) (IntKind.u64.wrap ((ji23) - 1))) (ji23), wrap64 ((wrap64 ((wrap64 ((wrap64 ((Go.bits .and .u64 (ji20) t109))) - t113)) - a0_0)) + 1), true)) = some (r1, r2, r3, r4, r5) := H
                              have A81 := Aside0.mk A810
                              clear A810
                              simp only [Option.some.injEq, Prod.mk.injEq] at H
                              obtain ⟨rfl, rfl, rfl, rfl, rfl⟩ := H
                              try go_wp2
                              have n0_ := Aside0.mk (blk_drew BK106.out)
                              have n1_ := Aside0.mk (blk_drew BK107.out)
                              have n2_ := Aside0.mk (blk_drew BK108.out)
                              have n3_ := Aside0.mk (below_drew1 HB.out)
                              clear BK106
                              clear BK107
                              clear BK108
                              clear HB
                              have BK106 := n0_
                              have BK107 := n1_
                              have BK108 := n2_
                              have HB := n3_
                              clear n0_ n1_ n2_ n3_
                              refine start_ (n := 21) (S := fun w' => w'.cell? ⟨gb106, 0, none⟩ = some (.int .i64 a0_0) ∧ w'.cell? ⟨gb106, 1, none⟩ = some (.int .i64 a0_1)) (ds := []) #[false, false, false, false, false, false, false, false, false, false, false, false, false, false, false, false, false, false, false, false, false] (by kernel_rfl) rfl rfl ⟨(blk_cell BK106.out 0).trans rfl, (blk_cell BK106.out 1).trans rfl⟩ (fun hHeld => ?_); refine with_tabW float_shape_read.tab7 float_shape_read.bits7 (fun HT_ HW_ => ?_)
                              generalize wc.drew = w82 at BK106 BK107 BK108 HB hHeld ⊢
                              refine pure_ (i := 0) (N := some 49) (v := ?_) (a' := ?_) #[true, false, false, false, false, false, false, false, false, false, false, false, false, false, false, false, false, false, false, false, false] rfl rfl (any_of HT_.out (by kernel_rfl)) (fun _ _ _ h => h) (Or.inl ⟨by rfl, ?_⟩) ?_ ?_
                              rotate_left
                              · intro w'
                                go_simp
                                with_reducible rfl
                              rotate_left
                              · simp only [Act.put, List.setIfInBounds_toArray, List.set_cons_zero, List.set_cons_succ, i64_w, i32_w]
                                rfl
                              refine pure_ (i := 1) (N := some 50) (v := ?_) (a' := ?_) #[true, true, false, false, false, false, false, false, false, false, false, false, false, false, false, false, false, false, false, false, false] rfl rfl (any_of HT_.out (by kernel_rfl)) (fun _ _ _ h => h) (Or.inl ⟨by rfl, ?_⟩) ?_ ?_
                              rotate_left
                              · intro w'
                                go_simp
                                with_reducible rfl
                              rotate_left
                              · simp only [Act.put, List.setIfInBounds_toArray, List.set_cons_zero, List.set_cons_succ, i64_w, i32_w]
                                rfl
                              refine pure_ (i := 6) (N := some 55) (v := ?_) (a' := ?_) #[true, true, false, false, false, false, true, false, false, false, false, false, false, false, false, false, false, false, false, false, false] rfl rfl (any_of HT_.out (by kernel_rfl)) (fun _ _ _ h => h) (Or.inl ⟨by rfl, ?_⟩) ?_ ?_
                              rotate_left
                              · intro w'
                                go_simp
                                with_reducible rfl
                              rotate_left
                              · simp only [Act.put, List.setIfInBounds_toArray, List.set_cons_zero, List.set_cons_succ, i64_w, i32_w]
                                rfl
                              refine pure_ (i := 7) (N := some 56) (v := ?_) (a' := ?_) #[true, true, false, false, false, false, true, true, false, false, false, false, false, false, false, false, false, false, false, false, false] rfl rfl (any_of HT_.out (by kernel_rfl)) (fun _ _ _ h => h) (Or.inl ⟨by rfl, ?_⟩) ?_ ?_
                              rotate_left
                              · intro w'
                                go_simp
                                with_reducible rfl
                              rotate_left
                              · simp only [Act.put, List.setIfInBounds_toArray, List.set_cons_zero, List.set_cons_succ, i64_w, i32_w]
                                rfl
                              refine pure_ (i := 11) (N := some 60) (v := ?_) (a' := ?_) #[true, true, false, false, false, false, true, true, false, false, false, true, false, false, false, false, false, false, false, false, false] rfl rfl (any_of HT_.out (by kernel_rfl)) (fun _ _ _ h => h) (Or.inl ⟨by rfl, ?_⟩) ?_ ?_
                              rotate_left
                              · intro w'
                                go_simp
                                with_reducible rfl
                              rotate_left
                              · simp only [Act.put, List.setIfInBounds_toArray, List.set_cons_zero, List.set_cons_succ, i64_w, i32_w]
                                rfl
                              refine pure_ (i := 15) (N := some 64) (v := ?_) (a' := ?_) #[true, true, false, false, false, false, true, true, false, false, false, true, false, false, false, true, false, false, false, false, false] rfl rfl (any_of HT_.out (by kernel_rfl)) (fun _ _ _ h => h) (Or.inl ⟨by rfl, ?_⟩) ?_ ?_
                              rotate_left
                              · intro w'
                                go_simp
                                with_reducible rfl
                              rotate_left
                              · simp only [Act.put, List.setIfInBounds_toArray, List.set_cons_zero, List.set_cons_succ, i64_w, i32_w]
                                rfl
                              refine take_ (i := 2) (N := some 51) (v := ?_) (a' := ?_) #[true, true, true, false, false, false, true, true, false, false, false, true, false, false, false, true, false, false, false, false, false] rfl rfl (take_ofW HT_.out HW_.out (by kernel_rfl)) (fun _ _ _ h => h) (Or.inl ⟨by rfl, ?_⟩) hHeld ?_ ?_
                              rotate_left
                              · rintro w' ⟨s0, s1⟩
                                go_simp
                                with_reducible rfl
                              rotate_left
                              · simp only [Act.put, List.setIfInBounds_toArray, List.set_cons_zero, List.set_cons_succ, i64_w, i32_w]
                                rfl
                              refine pure_ (i := 3) (N := some 52) (v := ?_) (a' := ?_) #[true, true, true, true, false, false, true, true, false, false, false, true, false, false, false, true, false, false, false, false, false] rfl rfl (any_of HT_.out (by kernel_rfl)) (fun _ _ _ h => h) (Or.inl ⟨by rfl, ?_⟩) ?_ ?_
                              rotate_left
                              · intro w'
                                go_simp
                                with_reducible rfl
                              rotate_left
                              · simp only [Act.put, List.setIfInBounds_toArray, List.set_cons_zero, List.set_cons_succ, i64_w, i32_w]
                                rfl
                              refine pure_ (i := 4) (N := some 53) (v := ?_) (a' := ?_) #[true, true, true, true, true, false, true, true, false, false, false, true, false, false, false, true, false, false, false, false, false] rfl rfl (any_of HT_.out (by kernel_rfl)) (fun _ _ _ h => h) (Or.inl ⟨by rfl, ?_⟩) ?_ ?_
                              rotate_left
                              · intro w'
                                go_simp
                                with_reducible rfl
                              rotate_left
                              · simp only [Act.put, List.setIfInBounds_toArray, List.set_cons_zero, List.set_cons_succ, i64_w, i32_w]
                                rfl
                              refine pure_ (i := 5) (N := some 54) (v := ?_) (a' := ?_) #[true, true, true, true, true, true, true, true, false, false, false, true, false, false, false, true, false, false, false, false, false] rfl rfl (any_of HT_.out (by kernel_rfl)) (fun _ _ _ h => h) (Or.inl ⟨by rfl, ?_⟩) ?_ ?_
                              rotate_left
                              · intro w'
                                go_simp
                                with_reducible rfl
                              rotate_left
                              · simp only [Act.put, List.setIfInBounds_toArray, List.set_cons_zero, List.set_cons_succ, i64_w, i32_w]
                                rfl
                              refine take_ (i := 8) (N := some 57) (v := ?_) (a' := ?_) #[true, true, true, true, true, true, true, true, true, false, false, true, false, false, false, true, false, false, false, false, false] rfl rfl (take_ofW HT_.out HW_.out (by kernel_rfl)) (fun _ _ _ h => h) (Or.inl ⟨by rfl, ?_⟩) hHeld ?_ ?_
                              rotate_left
                              · rintro w' ⟨s0, s1⟩
                                go_simp
                                with_reducible rfl
                              rotate_left
                              · simp only [Act.put, List.setIfInBounds_toArray, List.set_cons_zero, List.set_cons_succ, i64_w, i32_w]
                                rfl
                              refine take_ (i := 12) (N := some 61) (v := ?_) (a' := ?_) #[true, true, true, true, true, true, true, true, true, false, false, true, true, false, false, true, false, false, false, false, false] rfl rfl (take_ofW HT_.out HW_.out (by kernel_rfl)) (fun _ _ _ h => h) (Or.inl ⟨by rfl, ?_⟩) hHeld ?_ ?_
                              rotate_left
                              · rintro w' ⟨s0, s1⟩
                                go_simp
                                with_reducible rfl
                              rotate_left
                              · simp only [Act.put, List.setIfInBounds_toArray, List.set_cons_zero, List.set_cons_succ, i64_w, i32_w]
                                rfl
                              refine one_ (i := 9) (N := some 58) #[true, true, true, true, true, true, true, true, true, true, false, true, true, false, false, true, false, false, false, false, false] rfl rfl (one_of HT_.out (by kernel_rfl)) (by decide) (fun K hK => ?_)
                              refine goes_ Try.func90 (by kernel_rfl) rfl #[.agg #[.int .i64 a0_0, .int .i64 a0_1]] (by rfl) rfl rfl (by (try simp only [List.map_toArray, List.map_cons, List.map_nil]); first | done | rfl | (simp only [List.length_drop, List.length_take]; rfl)) ?_
                              with_reducible refine (float_shape_bias.calls a0_0 a0_1 t113 _ A81.out).mono ?_
                              rintro e w83 ⟨rfl, hb⟩
                              refine ⟨_, rfl, ?_⟩
                              have n0_ := Aside0.mk (blk_below (g := gb106) (o := .cells #[.int .i64 a0_0, .int .i64 a0_1] 42 (0, 0)) (by (with_reducible repeat (first | refine blk_drewN ?_ _ | refine blk_drew ?_ | refine blk_alloc ?_ _)); exact BK106.out) hb)
                              have n1_ := Aside0.mk (blk_below (g := gb107) (o := .cells #[.int .i64 0, .int .i64 0, .int .u64 0, .int .i64 0] 45 (0, 0)) (by (with_reducible repeat (first | refine blk_drewN ?_ _ | refine blk_drew ?_ | refine blk_alloc ?_ _)); exact BK107.out) hb)
                              have n2_ := Aside0.mk (blk_below (g := gb108) (o := .cells #[.int .i64 0, .int .i64 (wrap64 (Go.bits .and .u64 (ji17) 1)), .int .u64 0, .int .i64 0] 45 (0, 0)) (by (with_reducible repeat (first | refine blk_drewN ?_ _ | refine blk_drew ?_ | refine blk_alloc ?_ _)); exact BK108.out) hb)
                              have n3_ := Aside0.mk (below_step (by repeat (first | (with_reducible first | exact HB.out | apply below_alloc | apply pw_below_drewN | apply below_drew1 | refine below_set ?_ GE106.out | refine below_set ?_ GE107.out | refine below_set ?_ GE108.out) | exact HB.out)) hb)
                              clear BK106
                              clear BK107
                              clear BK108
                              clear HB
                              have BK106 := n0_
                              have BK107 := n1_
                              have BK108 := n2_
                              have HB := n3_
                              clear n0_ n1_ n2_ n3_
                              (try clear hb)
                              (try clear hb2)
                              (try clear hk)
                              (try clear hi)
                              refine hK.out _ _ ⟨(blk_cell BK106.out 0).trans rfl, (blk_cell BK106.out 1).trans rfl⟩ (fun hHeld => ?_)
                              clear hK K
                              refine norm_ (a' := ?_) ?_ ?_
                              rotate_left
                              · show Act.put _ (some 58) _ = _
                                simp only [Act.put, List.setIfInBounds_toArray, List.set_cons_zero, List.set_cons_succ, i64_w, i32_w]
                                rfl
                              refine pure_ (i := 10) (N := some 59) (v := ?_) (a' := ?_) #[true, true, true, true, true, true, true, true, true, true, true, true, true, false, false, true, false, false, false, false, false] rfl rfl (any_of HT_.out (by kernel_rfl)) (fun _ _ _ h => h) (Or.inl ⟨by rfl, ?_⟩) ?_ ?_
                              rotate_left
                              · intro w'
                                go_simp
                                with_reducible rfl
                              rotate_left
                              · simp only [Act.put, List.setIfInBounds_toArray, List.set_cons_zero, List.set_cons_succ, i64_w, i32_w]
                                rfl
                              refine pure_ (i := 13) (N := some 62) (v := ?_) (a' := ?_) #[true, true, true, true, true, true, true, true, true, true, true, true, true, true, false, true, false, false, false, false, false] rfl rfl (any_of HT_.out (by kernel_rfl)) (fun _ _ _ h => h) (Or.inl ⟨by rfl, ?_⟩) ?_ ?_
                              rotate_left
                              · intro w'
                                go_simp
                                with_reducible rfl
                              rotate_left
                              · simp only [Act.put, List.setIfInBounds_toArray, List.set_cons_zero, List.set_cons_succ, i64_w, i32_w]
                                rfl
                              refine pure_ (i := 14) (N := some 63) (v := ?_) (a' := ?_) #[true, true, true, true, true, true, true, true, true, true, true, true, true, true, true, true, false, false, false, false, false] rfl rfl (any_of HT_.out (by kernel_rfl)) (fun _ _ _ h => h) (Or.inl ⟨by rfl, ?_⟩) ?_ ?_
                              rotate_left
                              · intro w'
                                go_simp
                                with_reducible rfl
                              rotate_left
                              · simp only [Act.put, List.setIfInBounds_toArray, List.set_cons_zero, List.set_cons_succ, i64_w, i32_w]
                                rfl
                              refine one_ (i := 16) (N := none) #[true, true, true, true, true, true, true, true, true, true, true, true, true, true, true, true, true, false, false, false, false] rfl rfl (one_of HT_.out (by kernel_rfl)) (by decide) (fun K hK => ?_)
                              have hs84 : w83.cell? ⟨gb108, 0, none⟩ = some (.int .i64 0) := (blk_cell BK108.out 0).trans rfl
                              have hfs84 := blk_frozen BK108.out 0
                              have hns84_0 := NB106_108.out
                              have hns84_1 := NB107_108.out
                              have hms84_0 := NB108_106.out
                              have hms84_1 := NB108_107.out
                              refine skip_ (w1 := ?_) (by rfl) rfl ?_ ?_
                              rotate_left
                              · go_simp
                                rfl
                              refine hK.out _ _ ⟨((cell_far (p := ⟨gb108, _, none⟩) NB106_108.out _).trans (hHeld.1)), ((cell_far (p := ⟨gb108, _, none⟩) NB106_108.out _).trans (hHeld.2))⟩ (fun hHeld => ?_)
                              clear hK K
                              refine pure_ (i := 17) (N := some 65) (v := ?_) (a' := ?_) #[true, true, true, true, true, true, true, true, true, true, true, true, true, true, true, true, true, true, false, false, false] rfl rfl (any_of HT_.out (by kernel_rfl)) (fun _ _ _ h => h) (Or.inl ⟨by rfl, ?_⟩) ?_ ?_
                              rotate_left
                              · intro w'
                                go_simp
                                with_reducible rfl
                              rotate_left
                              · simp only [Act.put, List.setIfInBounds_toArray, List.set_cons_zero, List.set_cons_succ, i64_w, i32_w]
                                rfl
                              refine one_ (i := 18) (N := none) #[true, true, true, true, true, true, true, true, true, true, true, true, true, true, true, true, true, true, true, false, false] rfl rfl (one_of HT_.out (by kernel_rfl)) (by decide) (fun K hK => ?_)
                              have hs85 : w83.cell? ⟨gb108, 2, none⟩ = some (.int .u64 0) := (blk_cell BK108.out 2).trans rfl
                              have hfs85 := blk_frozen BK108.out 2
                              have hns85_0 := NB106_108.out
                              have hns85_1 := NB107_108.out
                              have hms85_0 := NB108_106.out
                              have hms85_1 := NB108_107.out
                              refine skip_ (w1 := ?_) (by rfl) rfl ?_ ?_
                              rotate_left
                              · go_simp
                                rfl
                              refine hK.out _ _ ⟨((cell_far (p := ⟨gb108, _, none⟩) NB106_108.out _).trans (hHeld.1)), ((cell_far (p := ⟨gb108, _, none⟩) NB106_108.out _).trans (hHeld.2))⟩ (fun hHeld => ?_)
                              clear hK K
                              refine pure_ (i := 19) (N := some 66) (v := ?_) (a' := ?_) #[true, true, true, true, true, true, true, true, true, true, true, true, true, true, true, true, true, true, true, true, false] rfl rfl (any_of HT_.out (by kernel_rfl)) (fun _ _ _ h => h) (Or.inl ⟨by rfl, ?_⟩) ?_ ?_
                              rotate_left
                              · intro w'
                                go_simp
                                with_reducible rfl
                              rotate_left
                              · simp only [Act.put, List.setIfInBounds_toArray, List.set_cons_zero, List.set_cons_succ, i64_w, i32_w]
                                rfl
                              refine one_ (i := 20) (N := none) #[true, true, true, true, true, true, true, true, true, true, true, true, true, true, true, true, true, true, true, true, true] rfl rfl (one_of HT_.out (by kernel_rfl)) (by decide) (fun K hK => ?_)
                              have hs86 : w83.cell? ⟨gb108, 3, none⟩ = some (.int .i64 0) := (blk_cell BK108.out 3).trans rfl
                              have hfs86 := blk_frozen BK108.out 3
                              have hns86_0 := NB106_108.out
                              have hns86_1 := NB107_108.out
                              have hms86_0 := NB108_106.out
                              have hms86_1 := NB108_107.out
                              refine skip_ (w1 := ?_) (by rfl) rfl ?_ ?_
                              rotate_left
                              · go_simp
                                rfl
                              refine hK.out _ _ ⟨((cell_far (p := ⟨gb108, _, none⟩) NB106_108.out _).trans (hHeld.1)), ((cell_far (p := ⟨gb108, _, none⟩) NB106_108.out _).trans (hHeld.2))⟩ (fun hHeld => ?_)
                              clear hK K
                              refine done_ (done_of HT_.out (by kernel_rfl)) ?_
                              have hnb87 := NB108_106.out
                              have hnc87 := NB106_108.out
                              have hnb88 := NB108_107.out
                              have hnc88 := NB107_108.out
                              have hcz89_0 : w83.cell? ⟨gb108, 0, none⟩ = some (.int .i64 0) := (blk_cell BK108.out 0).trans rfl
                              have hcz89_1 : w83.cell? ⟨gb108, 1, none⟩ = some (.int .i64 (wrap64 (Go.bits .and .u64 (ji17) 1))) := (blk_cell BK108.out 1).trans rfl
                              have hcz89_2 : w83.cell? ⟨gb108, 2, none⟩ = some (.int .u64 0) := (blk_cell BK108.out 2).trans rfl
                              have hcz89_3 : w83.cell? ⟨gb108, 3, none⟩ = some (.int .i64 0) := (blk_cell BK108.out 3).trans rfl
                              have hfz89_0 := blk_frozen BK108.out 0
                              have hfz89_1 := blk_frozen BK108.out 1
                              have hfz89_2 := blk_frozen BK108.out 2
                              have hfz89_3 := blk_frozen BK108.out 3
                              have hnb90 := NB107_106.out
                              have hnc90 := NB106_107.out
                              have hcz91_0 : w83.cell? ⟨gb107, 0, none⟩ = some (.int .i64 0) := (blk_cell BK107.out 0).trans rfl
                              have hcz91_1 : w83.cell? ⟨gb107, 1, none⟩ = some (.int .i64 0) := (blk_cell BK107.out 1).trans rfl
                              have hcz91_2 : w83.cell? ⟨gb107, 2, none⟩ = some (.int .u64 0) := (blk_cell BK107.out 2).trans rfl
                              have hcz91_3 : w83.cell? ⟨gb107, 3, none⟩ = some (.int .i64 0) := (blk_cell BK107.out 3).trans rfl
                              have hfz91_0 := blk_frozen BK107.out 0
                              have hfz91_1 := blk_frozen BK107.out 1
                              have hfz91_2 := blk_frozen BK107.out 2
                              have hfz91_3 := blk_frozen BK107.out 3
                              try go_wp2
                              refine bodyPost_ret (results_ct rfl _ _ gb107 45 #[.int .i64 1, .int .i64 (wrap64 (Go.bits .and .u64 (ji17) 1)), .int .u64 (Go.bits .or .u64 (Go.bits .and .u64 (IntKind.u64.wrap (a1)) (IntKind.u64.wrap ((ji23) - 1))) (ji23)), .int .i64 (wrap64 ((wrap64 ((wrap64 ((wrap64 ((Go.bits .and .u64 (ji20) t109))) - t113)) - a0_0)) + 1))] (0, 0) _ rfl (by (with_reducible repeat (first | refine blk_drewN ?_ _ | refine blk_drew ?_ | refine blk_alloc ?_ _)); refine blk_put (cs := #[.int .i64 1, .int .i64 (wrap64 (Go.bits .and .u64 (ji17) 1)), .int .u64 (Go.bits .or .u64 (Go.bits .and .u64 (IntKind.u64.wrap (a1)) (IntKind.u64.wrap ((ji23) - 1))) (ji23)), .int .i64 0]) ?_ 3 _ rfl; (with_reducible repeat (first | refine blk_drewN ?_ _ | refine blk_drew ?_ | refine blk_alloc ?_ _)); refine blk_put (cs := #[.int .i64 1, .int .i64 (wrap64 (Go.bits .and .u64 (ji17) 1)), .int .u64 0, .int .i64 0]) ?_ 2 _ rfl; (with_reducible repeat (first | refine blk_drewN ?_ _ | refine blk_drew ?_ | refine blk_alloc ?_ _)); refine blk_put (cs := #[.int .i64 1, .int .i64 0, .int .u64 0, .int .i64 0]) ?_ 1 _ rfl; (with_reducible repeat (first | refine blk_drewN ?_ _ | refine blk_drew ?_ | refine blk_alloc ?_ _)); refine blk_put (cs := #[.int .i64 0, .int .i64 0, .int .u64 0, .int .i64 0]) ?_ 0 _ rfl; (with_reducible repeat (first | refine blk_drewN ?_ _ | refine blk_drew ?_ | refine blk_alloc ?_ _)); refine blk_far ?_ NB107_108.out _; (with_reducible repeat (first | refine blk_drewN ?_ _ | refine blk_drew ?_ | refine blk_alloc ?_ _)); refine blk_far ?_ NB107_108.out _; (with_reducible repeat (first | refine blk_drewN ?_ _ | refine blk_drew ?_ | refine blk_alloc ?_ _)); refine blk_far ?_ NB107_108.out _; (with_reducible repeat (first | refine blk_drewN ?_ _ | refine blk_drew ?_ | refine blk_alloc ?_ _)); exact BK107.out) Try.underlying45 rfl (by kernel_rfl)) rfl ?_
                              exact ⟨by first | rfl | (simp [errW_none, errW_some] <;> rfl) | (simp only [← hji15, ← hji17, ← hji18, ← hji20, ← hji23, ← hji18, ← hji23]; first | rfl | (simp [errW_none, errW_some] <;> rfl)) | (simp [*, errW_none, errW_some] <;> rfl), by repeat (first | (with_reducible first | exact HB.out | apply below_alloc | apply pw_below_drewN | apply below_drew1 | refine below_set ?_ GE106.out | refine below_set ?_ GE107.out | refine below_set ?_ GE108.out) | exact HB.out)⟩
                            · rw [if_neg c79] at H
                              exact absurd H (by simp)
          · rw [if_neg c19] at H
            exact absurd H (by simp)
        · rw [if_neg c16] at H
          exact absurd H (by simp)

/-! ### float_two: function 40 -/
theorem setCell_idem {w : World} {b o : Nat} {v : Value} (h : w.cell? ⟨b, o, none⟩ = some v) (n : Nat) : (w.drewN n).setCell ⟨b, o, none⟩ v = w.drewN n := by
  have key : w.heap.modify b (fun x => match x with
      | .cells c elem frozen => .cells (if (⟨b, o, none⟩ : Addr).spot.isSome then c else c.setIfInBounds o v) elem frozen
      | o => o) = w.heap := by
    apply Array.ext
    · simp
    · intro i h1 h2
      rw [Array.getElem_modify]
      split
      · rename_i hb
        subst hb
        unfold World.cell? at h
        simp only [Array.getElem?_eq_getElem h2] at h
        cases hx : w.heap[b] with
        | cells c e f =>
          simp [hx] at h ⊢
          obtain ⟨h3, h4⟩ := Array.getElem?_eq_some_iff.1 h
          apply Array.ext
          · simp
          · intro k hk1 hk2
            rw [Array.getElem_setIfInBounds]
            split
            · rename_i hk; subst hk; exact h4.symm
            · rfl
        | _ => rfl
      · rfl
  exact congrArg (fun h => ({ (w.drewN n) with heap := h } : World)) key
theorem bcell {W w1 : World} (hb : Below W.heap.size W w1) : (∀ b o, b < W.heap.size → w1.cell? ⟨b, o, none⟩ = W.cell? ⟨b, o, none⟩) ∧ (∀ b o, b < W.heap.size → w1.frozen? ⟨b, o, none⟩ = W.frozen? ⟨b, o, none⟩) :=
  ⟨fun b o h => hb.cell (p := ⟨b, o, none⟩) h, fun b o h => hb.frozen (p := ⟨b, o, none⟩) h⟩
set_option maxHeartbeats 4000000 in
set_option maxRecDepth 100000 in
theorem float_two.bad_kind (kind mode a b p w_ : Int) (w : World) (h : float_of.f kind = some (p, w_, false)) :
    Calls Try.prog 40 #[.int .i64 kind, .int .i64 mode, .int .i64 a, .int .i64 b] w fun e w' => e = .returned (.tuple #[.agg #[.int .i64 p, .int .i64 w_], .agg #[.int .i64 0, .int .i64 0, .int .u64 0, .int .i64 0], .agg #[.int .i64 0, .int .i64 0, .int .u64 0, .int .i64 0], .bool false]) ∧ Below w.heap.size w w' := by
  have hu42 := Try.underlying42
  have hu45 := Try.underlying45
  go_enter Try.func40, Try.ntmps40
  go_wp2_with (fail)
  refine (float_of.calls kind p w_ false _ h).mono ?_
  rintro e w1 ⟨rfl, hb1⟩
  obtain ⟨hc1, hf1⟩ := bcell hb1
  have z1c : w.heap.size + 1 + 1 < w1.heap.size := by have := hb1.size; simp at this; omega
  have z1b : w.heap.size + 1 < w1.heap.size := by omega
  have z1a : w.heap.size < w1.heap.size := by omega
  have hl1 : w.heap.size ≤ w1.heap.size := by omega
  have B1 : Aside0 (Below w.heap.size w w1) := ⟨below_then (by repeat (first | exact Below.refl _ _ | apply below_alloc)) (by simp; omega) hb1⟩
  have hb1 := Aside0.mk hb1
  have d0 : w1.cell? ⟨w.heap.size, 0, none⟩ = some (.int .i64 0) := by simp [go_sem, hc1]
  have d1 : w1.cell? ⟨w.heap.size, 1, none⟩ = some (.int .i64 0) := by simp [go_sem, hc1]
  go_wp2_with (fail)
  obtain ⟨w2, hw2⟩ : ∃ x_ : World, x_ = ((w1.setCell ⟨w.heap.size, 0, none⟩ (.int .i64 p)).setCell ⟨w.heap.size, 1, none⟩ (.int .i64 w_)) := ⟨_, rfl⟩
  have c0 : w2.cell? ⟨w.heap.size, 0, none⟩ = some (.int .i64 p) := by rw [hw2]; simp [go_sem, hc1, d0, d1]
  have f0 : w2.frozen? ⟨w.heap.size, 0, none⟩ = false := by rw [hw2]; simp [go_sem, hf1]
  have e0 : ∀ n, (w2.drewN n).setCell ⟨w.heap.size, 0, none⟩ (.int .i64 p) = w2.drewN n := setCell_idem c0
  have c1 : w2.cell? ⟨w.heap.size, 1, none⟩ = some (.int .i64 w_) := by rw [hw2]; simp [go_sem, hc1, d0, d1]
  have f1 : w2.frozen? ⟨w.heap.size, 1, none⟩ = false := by rw [hw2]; simp [go_sem, hf1]
  have e1 : ∀ n, (w2.drewN n).setCell ⟨w.heap.size, 1, none⟩ (.int .i64 w_) = w2.drewN n := setCell_idem c1
  have c2 : w2.cell? ⟨w.heap.size + 1, 0, none⟩ = some (.int .i64 0) := by rw [hw2]; simp [go_sem, hc1, d0, d1]
  have f2 : w2.frozen? ⟨w.heap.size + 1, 0, none⟩ = false := by rw [hw2]; simp [go_sem, hf1]
  have e2 : ∀ n, (w2.drewN n).setCell ⟨w.heap.size + 1, 0, none⟩ (.int .i64 0) = w2.drewN n := setCell_idem c2
  have c3 : w2.cell? ⟨w.heap.size + 1, 1, none⟩ = some (.int .i64 0) := by rw [hw2]; simp [go_sem, hc1, d0, d1]
  have f3 : w2.frozen? ⟨w.heap.size + 1, 1, none⟩ = false := by rw [hw2]; simp [go_sem, hf1]
  have e3 : ∀ n, (w2.drewN n).setCell ⟨w.heap.size + 1, 1, none⟩ (.int .i64 0) = w2.drewN n := setCell_idem c3
  have c4 : w2.cell? ⟨w.heap.size + 1, 2, none⟩ = some (.int .u64 0) := by rw [hw2]; simp [go_sem, hc1, d0, d1]
  have f4 : w2.frozen? ⟨w.heap.size + 1, 2, none⟩ = false := by rw [hw2]; simp [go_sem, hf1]
  have e4 : ∀ n, (w2.drewN n).setCell ⟨w.heap.size + 1, 2, none⟩ (.int .u64 0) = w2.drewN n := setCell_idem c4
  have c5 : w2.cell? ⟨w.heap.size + 1, 3, none⟩ = some (.int .i64 0) := by rw [hw2]; simp [go_sem, hc1, d0, d1]
  have f5 : w2.frozen? ⟨w.heap.size + 1, 3, none⟩ = false := by rw [hw2]; simp [go_sem, hf1]
  have e5 : ∀ n, (w2.drewN n).setCell ⟨w.heap.size + 1, 3, none⟩ (.int .i64 0) = w2.drewN n := setCell_idem c5
  have c6 : w2.cell? ⟨w.heap.size + 1 + 1, 0, none⟩ = some (.int .i64 0) := by rw [hw2]; simp [go_sem, hc1, d0, d1]
  have f6 : w2.frozen? ⟨w.heap.size + 1 + 1, 0, none⟩ = false := by rw [hw2]; simp [go_sem, hf1]
  have e6 : ∀ n, (w2.drewN n).setCell ⟨w.heap.size + 1 + 1, 0, none⟩ (.int .i64 0) = w2.drewN n := setCell_idem c6
  have c7 : w2.cell? ⟨w.heap.size + 1 + 1, 1, none⟩ = some (.int .i64 0) := by rw [hw2]; simp [go_sem, hc1, d0, d1]
  have f7 : w2.frozen? ⟨w.heap.size + 1 + 1, 1, none⟩ = false := by rw [hw2]; simp [go_sem, hf1]
  have e7 : ∀ n, (w2.drewN n).setCell ⟨w.heap.size + 1 + 1, 1, none⟩ (.int .i64 0) = w2.drewN n := setCell_idem c7
  have c8 : w2.cell? ⟨w.heap.size + 1 + 1, 2, none⟩ = some (.int .u64 0) := by rw [hw2]; simp [go_sem, hc1, d0, d1]
  have f8 : w2.frozen? ⟨w.heap.size + 1 + 1, 2, none⟩ = false := by rw [hw2]; simp [go_sem, hf1]
  have e8 : ∀ n, (w2.drewN n).setCell ⟨w.heap.size + 1 + 1, 2, none⟩ (.int .u64 0) = w2.drewN n := setCell_idem c8
  have c9 : w2.cell? ⟨w.heap.size + 1 + 1, 3, none⟩ = some (.int .i64 0) := by rw [hw2]; simp [go_sem, hc1, d0, d1]
  have f9 : w2.frozen? ⟨w.heap.size + 1 + 1, 3, none⟩ = false := by rw [hw2]; simp [go_sem, hf1]
  have e9 : ∀ n, (w2.drewN n).setCell ⟨w.heap.size + 1 + 1, 3, none⟩ (.int .i64 0) = w2.drewN n := setCell_idem c9
  have B2 : Aside0 (Below w.heap.size w w2) := ⟨by rw [hw2]; exact (B1.out.setCell (by dsimp only; omega) _).setCell (by dsimp only; omega) _⟩
  rw [← hw2]
  clear hw2 hc1 hf1 hb1 d0 d1 z1a z1b z1c hl1 B1
  go_quiet (fail)
  go_wp2
  refine bodyPost_ret (v := .tuple #[.agg #[.int .i64 p, .int .i64 w_], .agg #[.int .i64 0, .int .i64 0, .int .u64 0, .int .i64 0], .agg #[.int .i64 0, .int .i64 0, .int .u64 0, .int .i64 0], .bool false]) (by simp [results, Try.results40, go_sem, c0, c1, c2, c3, c4, c5, c6, c7, c8, c9]) rfl ⟨rfl, ?_⟩
  repeat (first | exact B2.out | apply pw_below_drewN)
set_option maxHeartbeats 4000000 in
set_option maxRecDepth 100000 in
theorem float_two.bad_low (kind mode a b p w_ : Int) (w : World) (h : float_of.f kind = some (p, w_, true)) (hm : (decide (mode < 0)) = true) :
    Calls Try.prog 40 #[.int .i64 kind, .int .i64 mode, .int .i64 a, .int .i64 b] w fun e w' => e = .returned (.tuple #[.agg #[.int .i64 p, .int .i64 w_], .agg #[.int .i64 0, .int .i64 0, .int .u64 0, .int .i64 0], .agg #[.int .i64 0, .int .i64 0, .int .u64 0, .int .i64 0], .bool false]) ∧ Below w.heap.size w w' := by
  have hu42 := Try.underlying42
  have hu45 := Try.underlying45
  go_enter Try.func40, Try.ntmps40
  go_wp2_with (fail)
  refine (float_of.calls kind p w_ true _ h).mono ?_
  rintro e w1 ⟨rfl, hb1⟩
  obtain ⟨hc1, hf1⟩ := bcell hb1
  have z1c : w.heap.size + 1 + 1 < w1.heap.size := by have := hb1.size; simp at this; omega
  have z1b : w.heap.size + 1 < w1.heap.size := by omega
  have z1a : w.heap.size < w1.heap.size := by omega
  have hl1 : w.heap.size ≤ w1.heap.size := by omega
  have B1 : Aside0 (Below w.heap.size w w1) := ⟨below_then (by repeat (first | exact Below.refl _ _ | apply below_alloc)) (by simp; omega) hb1⟩
  have hb1 := Aside0.mk hb1
  have d0 : w1.cell? ⟨w.heap.size, 0, none⟩ = some (.int .i64 0) := by simp [go_sem, hc1]
  have d1 : w1.cell? ⟨w.heap.size, 1, none⟩ = some (.int .i64 0) := by simp [go_sem, hc1]
  go_wp2_with (fail)
  obtain ⟨w2, hw2⟩ : ∃ x_ : World, x_ = ((w1.setCell ⟨w.heap.size, 0, none⟩ (.int .i64 p)).setCell ⟨w.heap.size, 1, none⟩ (.int .i64 w_)) := ⟨_, rfl⟩
  have c0 : w2.cell? ⟨w.heap.size, 0, none⟩ = some (.int .i64 p) := by rw [hw2]; simp [go_sem, hc1, d0, d1]
  have f0 : w2.frozen? ⟨w.heap.size, 0, none⟩ = false := by rw [hw2]; simp [go_sem, hf1]
  have e0 : ∀ n, (w2.drewN n).setCell ⟨w.heap.size, 0, none⟩ (.int .i64 p) = w2.drewN n := setCell_idem c0
  have c1 : w2.cell? ⟨w.heap.size, 1, none⟩ = some (.int .i64 w_) := by rw [hw2]; simp [go_sem, hc1, d0, d1]
  have f1 : w2.frozen? ⟨w.heap.size, 1, none⟩ = false := by rw [hw2]; simp [go_sem, hf1]
  have e1 : ∀ n, (w2.drewN n).setCell ⟨w.heap.size, 1, none⟩ (.int .i64 w_) = w2.drewN n := setCell_idem c1
  have c2 : w2.cell? ⟨w.heap.size + 1, 0, none⟩ = some (.int .i64 0) := by rw [hw2]; simp [go_sem, hc1, d0, d1]
  have f2 : w2.frozen? ⟨w.heap.size + 1, 0, none⟩ = false := by rw [hw2]; simp [go_sem, hf1]
  have e2 : ∀ n, (w2.drewN n).setCell ⟨w.heap.size + 1, 0, none⟩ (.int .i64 0) = w2.drewN n := setCell_idem c2
  have c3 : w2.cell? ⟨w.heap.size + 1, 1, none⟩ = some (.int .i64 0) := by rw [hw2]; simp [go_sem, hc1, d0, d1]
  have f3 : w2.frozen? ⟨w.heap.size + 1, 1, none⟩ = false := by rw [hw2]; simp [go_sem, hf1]
  have e3 : ∀ n, (w2.drewN n).setCell ⟨w.heap.size + 1, 1, none⟩ (.int .i64 0) = w2.drewN n := setCell_idem c3
  have c4 : w2.cell? ⟨w.heap.size + 1, 2, none⟩ = some (.int .u64 0) := by rw [hw2]; simp [go_sem, hc1, d0, d1]
  have f4 : w2.frozen? ⟨w.heap.size + 1, 2, none⟩ = false := by rw [hw2]; simp [go_sem, hf1]
  have e4 : ∀ n, (w2.drewN n).setCell ⟨w.heap.size + 1, 2, none⟩ (.int .u64 0) = w2.drewN n := setCell_idem c4
  have c5 : w2.cell? ⟨w.heap.size + 1, 3, none⟩ = some (.int .i64 0) := by rw [hw2]; simp [go_sem, hc1, d0, d1]
  have f5 : w2.frozen? ⟨w.heap.size + 1, 3, none⟩ = false := by rw [hw2]; simp [go_sem, hf1]
  have e5 : ∀ n, (w2.drewN n).setCell ⟨w.heap.size + 1, 3, none⟩ (.int .i64 0) = w2.drewN n := setCell_idem c5
  have c6 : w2.cell? ⟨w.heap.size + 1 + 1, 0, none⟩ = some (.int .i64 0) := by rw [hw2]; simp [go_sem, hc1, d0, d1]
  have f6 : w2.frozen? ⟨w.heap.size + 1 + 1, 0, none⟩ = false := by rw [hw2]; simp [go_sem, hf1]
  have e6 : ∀ n, (w2.drewN n).setCell ⟨w.heap.size + 1 + 1, 0, none⟩ (.int .i64 0) = w2.drewN n := setCell_idem c6
  have c7 : w2.cell? ⟨w.heap.size + 1 + 1, 1, none⟩ = some (.int .i64 0) := by rw [hw2]; simp [go_sem, hc1, d0, d1]
  have f7 : w2.frozen? ⟨w.heap.size + 1 + 1, 1, none⟩ = false := by rw [hw2]; simp [go_sem, hf1]
  have e7 : ∀ n, (w2.drewN n).setCell ⟨w.heap.size + 1 + 1, 1, none⟩ (.int .i64 0) = w2.drewN n := setCell_idem c7
  have c8 : w2.cell? ⟨w.heap.size + 1 + 1, 2, none⟩ = some (.int .u64 0) := by rw [hw2]; simp [go_sem, hc1, d0, d1]
  have f8 : w2.frozen? ⟨w.heap.size + 1 + 1, 2, none⟩ = false := by rw [hw2]; simp [go_sem, hf1]
  have e8 : ∀ n, (w2.drewN n).setCell ⟨w.heap.size + 1 + 1, 2, none⟩ (.int .u64 0) = w2.drewN n := setCell_idem c8
  have c9 : w2.cell? ⟨w.heap.size + 1 + 1, 3, none⟩ = some (.int .i64 0) := by rw [hw2]; simp [go_sem, hc1, d0, d1]
  have f9 : w2.frozen? ⟨w.heap.size + 1 + 1, 3, none⟩ = false := by rw [hw2]; simp [go_sem, hf1]
  have e9 : ∀ n, (w2.drewN n).setCell ⟨w.heap.size + 1 + 1, 3, none⟩ (.int .i64 0) = w2.drewN n := setCell_idem c9
  have B2 : Aside0 (Below w.heap.size w w2) := ⟨by rw [hw2]; exact (B1.out.setCell (by dsimp only; omega) _).setCell (by dsimp only; omega) _⟩
  rw [← hw2]
  clear hw2 hc1 hf1 hb1 d0 d1 z1a z1b z1c hl1 B1
  go_quiet (fail)
  go_wp2
  refine bodyPost_ret (v := .tuple #[.agg #[.int .i64 p, .int .i64 w_], .agg #[.int .i64 0, .int .i64 0, .int .u64 0, .int .i64 0], .agg #[.int .i64 0, .int .i64 0, .int .u64 0, .int .i64 0], .bool false]) (by simp [results, Try.results40, go_sem, c0, c1, c2, c3, c4, c5, c6, c7, c8, c9]) rfl ⟨rfl, ?_⟩
  repeat (first | exact B2.out | apply pw_below_drewN)
set_option maxHeartbeats 4000000 in
set_option maxRecDepth 100000 in
theorem float_two.bad_high (kind mode a b p w_ : Int) (w : World) (h : float_of.f kind = some (p, w_, true)) (hm0 : (decide (mode < 0)) = false) (hm : (decide (4 ≤ mode)) = true) :
    Calls Try.prog 40 #[.int .i64 kind, .int .i64 mode, .int .i64 a, .int .i64 b] w fun e w' => e = .returned (.tuple #[.agg #[.int .i64 p, .int .i64 w_], .agg #[.int .i64 0, .int .i64 0, .int .u64 0, .int .i64 0], .agg #[.int .i64 0, .int .i64 0, .int .u64 0, .int .i64 0], .bool false]) ∧ Below w.heap.size w w' := by
  have hu42 := Try.underlying42
  have hu45 := Try.underlying45
  go_enter Try.func40, Try.ntmps40
  go_wp2_with (fail)
  refine (float_of.calls kind p w_ true _ h).mono ?_
  rintro e w1 ⟨rfl, hb1⟩
  obtain ⟨hc1, hf1⟩ := bcell hb1
  have z1c : w.heap.size + 1 + 1 < w1.heap.size := by have := hb1.size; simp at this; omega
  have z1b : w.heap.size + 1 < w1.heap.size := by omega
  have z1a : w.heap.size < w1.heap.size := by omega
  have hl1 : w.heap.size ≤ w1.heap.size := by omega
  have B1 : Aside0 (Below w.heap.size w w1) := ⟨below_then (by repeat (first | exact Below.refl _ _ | apply below_alloc)) (by simp; omega) hb1⟩
  have hb1 := Aside0.mk hb1
  have d0 : w1.cell? ⟨w.heap.size, 0, none⟩ = some (.int .i64 0) := by simp [go_sem, hc1]
  have d1 : w1.cell? ⟨w.heap.size, 1, none⟩ = some (.int .i64 0) := by simp [go_sem, hc1]
  go_wp2_with (fail)
  obtain ⟨w2, hw2⟩ : ∃ x_ : World, x_ = ((w1.setCell ⟨w.heap.size, 0, none⟩ (.int .i64 p)).setCell ⟨w.heap.size, 1, none⟩ (.int .i64 w_)) := ⟨_, rfl⟩
  have c0 : w2.cell? ⟨w.heap.size, 0, none⟩ = some (.int .i64 p) := by rw [hw2]; simp [go_sem, hc1, d0, d1]
  have f0 : w2.frozen? ⟨w.heap.size, 0, none⟩ = false := by rw [hw2]; simp [go_sem, hf1]
  have e0 : ∀ n, (w2.drewN n).setCell ⟨w.heap.size, 0, none⟩ (.int .i64 p) = w2.drewN n := setCell_idem c0
  have c1 : w2.cell? ⟨w.heap.size, 1, none⟩ = some (.int .i64 w_) := by rw [hw2]; simp [go_sem, hc1, d0, d1]
  have f1 : w2.frozen? ⟨w.heap.size, 1, none⟩ = false := by rw [hw2]; simp [go_sem, hf1]
  have e1 : ∀ n, (w2.drewN n).setCell ⟨w.heap.size, 1, none⟩ (.int .i64 w_) = w2.drewN n := setCell_idem c1
  have c2 : w2.cell? ⟨w.heap.size + 1, 0, none⟩ = some (.int .i64 0) := by rw [hw2]; simp [go_sem, hc1, d0, d1]
  have f2 : w2.frozen? ⟨w.heap.size + 1, 0, none⟩ = false := by rw [hw2]; simp [go_sem, hf1]
  have e2 : ∀ n, (w2.drewN n).setCell ⟨w.heap.size + 1, 0, none⟩ (.int .i64 0) = w2.drewN n := setCell_idem c2
  have c3 : w2.cell? ⟨w.heap.size + 1, 1, none⟩ = some (.int .i64 0) := by rw [hw2]; simp [go_sem, hc1, d0, d1]
  have f3 : w2.frozen? ⟨w.heap.size + 1, 1, none⟩ = false := by rw [hw2]; simp [go_sem, hf1]
  have e3 : ∀ n, (w2.drewN n).setCell ⟨w.heap.size + 1, 1, none⟩ (.int .i64 0) = w2.drewN n := setCell_idem c3
  have c4 : w2.cell? ⟨w.heap.size + 1, 2, none⟩ = some (.int .u64 0) := by rw [hw2]; simp [go_sem, hc1, d0, d1]
  have f4 : w2.frozen? ⟨w.heap.size + 1, 2, none⟩ = false := by rw [hw2]; simp [go_sem, hf1]
  have e4 : ∀ n, (w2.drewN n).setCell ⟨w.heap.size + 1, 2, none⟩ (.int .u64 0) = w2.drewN n := setCell_idem c4
  have c5 : w2.cell? ⟨w.heap.size + 1, 3, none⟩ = some (.int .i64 0) := by rw [hw2]; simp [go_sem, hc1, d0, d1]
  have f5 : w2.frozen? ⟨w.heap.size + 1, 3, none⟩ = false := by rw [hw2]; simp [go_sem, hf1]
  have e5 : ∀ n, (w2.drewN n).setCell ⟨w.heap.size + 1, 3, none⟩ (.int .i64 0) = w2.drewN n := setCell_idem c5
  have c6 : w2.cell? ⟨w.heap.size + 1 + 1, 0, none⟩ = some (.int .i64 0) := by rw [hw2]; simp [go_sem, hc1, d0, d1]
  have f6 : w2.frozen? ⟨w.heap.size + 1 + 1, 0, none⟩ = false := by rw [hw2]; simp [go_sem, hf1]
  have e6 : ∀ n, (w2.drewN n).setCell ⟨w.heap.size + 1 + 1, 0, none⟩ (.int .i64 0) = w2.drewN n := setCell_idem c6
  have c7 : w2.cell? ⟨w.heap.size + 1 + 1, 1, none⟩ = some (.int .i64 0) := by rw [hw2]; simp [go_sem, hc1, d0, d1]
  have f7 : w2.frozen? ⟨w.heap.size + 1 + 1, 1, none⟩ = false := by rw [hw2]; simp [go_sem, hf1]
  have e7 : ∀ n, (w2.drewN n).setCell ⟨w.heap.size + 1 + 1, 1, none⟩ (.int .i64 0) = w2.drewN n := setCell_idem c7
  have c8 : w2.cell? ⟨w.heap.size + 1 + 1, 2, none⟩ = some (.int .u64 0) := by rw [hw2]; simp [go_sem, hc1, d0, d1]
  have f8 : w2.frozen? ⟨w.heap.size + 1 + 1, 2, none⟩ = false := by rw [hw2]; simp [go_sem, hf1]
  have e8 : ∀ n, (w2.drewN n).setCell ⟨w.heap.size + 1 + 1, 2, none⟩ (.int .u64 0) = w2.drewN n := setCell_idem c8
  have c9 : w2.cell? ⟨w.heap.size + 1 + 1, 3, none⟩ = some (.int .i64 0) := by rw [hw2]; simp [go_sem, hc1, d0, d1]
  have f9 : w2.frozen? ⟨w.heap.size + 1 + 1, 3, none⟩ = false := by rw [hw2]; simp [go_sem, hf1]
  have e9 : ∀ n, (w2.drewN n).setCell ⟨w.heap.size + 1 + 1, 3, none⟩ (.int .i64 0) = w2.drewN n := setCell_idem c9
  have B2 : Aside0 (Below w.heap.size w w2) := ⟨by rw [hw2]; exact (B1.out.setCell (by dsimp only; omega) _).setCell (by dsimp only; omega) _⟩
  rw [← hw2]
  clear hw2 hc1 hf1 hb1 d0 d1 z1a z1b z1c hl1 B1
  go_quiet (fail)
  go_wp2
  refine bodyPost_ret (v := .tuple #[.agg #[.int .i64 p, .int .i64 w_], .agg #[.int .i64 0, .int .i64 0, .int .u64 0, .int .i64 0], .agg #[.int .i64 0, .int .i64 0, .int .u64 0, .int .i64 0], .bool false]) (by simp [results, Try.results40, go_sem, c0, c1, c2, c3, c4, c5, c6, c7, c8, c9]) rfl ⟨rfl, ?_⟩
  repeat (first | exact B2.out | apply pw_below_drewN)
set_option maxHeartbeats 4000000 in
set_option maxRecDepth 100000 in
theorem float_two.good_true (k : Nat) (kind mode a b p w_ x1 x2 x3 x4 y1 y2 y3 y4 : Int) (ok2 : Bool) (w : World) (h : float_of.f kind = some (p, w_, true)) (hm0 : (decide (mode < 0)) = false) (hm : (decide (4 ≤ mode)) = false)
    (hx : float_shape_read.f k p w_ a = some (x1, x2, x3, x4, true)) (hy : float_shape_read.f k p w_ b = some (y1, y2, y3, y4, ok2)) :
    Calls Try.prog 40 #[.int .i64 kind, .int .i64 mode, .int .i64 a, .int .i64 b] w fun e w' => e = .returned (.tuple #[.agg #[.int .i64 p, .int .i64 w_], .agg #[.int .i64 x1, .int .i64 x2, .int .u64 x3, .int .i64 x4], .agg #[.int .i64 y1, .int .i64 y2, .int .u64 y3, .int .i64 y4], .bool ok2]) ∧ Below w.heap.size w w' := by
  have hx := Aside0.mk hx
  have hy := Aside0.mk hy
  have hu42 := Try.underlying42
  have hu45 := Try.underlying45
  go_enter Try.func40, Try.ntmps40
  go_wp2_with (fail)
  refine (float_of.calls kind p w_ true _ h).mono ?_
  rintro e w1 ⟨rfl, hb1⟩
  obtain ⟨hc1, hf1⟩ := bcell hb1
  have z1c : w.heap.size + 1 + 1 < w1.heap.size := by have := hb1.size; simp at this; omega
  have z1b : w.heap.size + 1 < w1.heap.size := by omega
  have z1a : w.heap.size < w1.heap.size := by omega
  have hl1 : w.heap.size ≤ w1.heap.size := by omega
  have B1 : Aside0 (Below w.heap.size w w1) := ⟨below_then (by repeat (first | exact Below.refl _ _ | apply below_alloc)) (by simp; omega) hb1⟩
  have hb1 := Aside0.mk hb1
  have d0 : w1.cell? ⟨w.heap.size, 0, none⟩ = some (.int .i64 0) := by simp [go_sem, hc1]
  have d1 : w1.cell? ⟨w.heap.size, 1, none⟩ = some (.int .i64 0) := by simp [go_sem, hc1]
  go_wp2_with (fail)
  refine (float_shape_read.calls k p w_ a x1 x2 x3 x4 true _ hx.out).mono ?_
  rintro e w3 ⟨rfl, hb3⟩
  obtain ⟨hc3, hf3⟩ := bcell hb3
  have hs3 := hb3.size
  simp at hs3
  have z3c : w.heap.size + 1 + 1 < w3.heap.size := by omega
  have z3b : w.heap.size + 1 < w3.heap.size := by omega
  have z3a : w.heap.size < w3.heap.size := by omega
  have B3 : Aside0 (Below w.heap.size w w3) := ⟨below_then ((B1.out.setCell (by dsimp only; omega) _).setCell (by dsimp only; omega) _) (by simp; omega) hb3⟩
  clear hb3 hs3
  have g0 : w3.cell? ⟨w.heap.size, 0, none⟩ = some (.int .i64 p) := by simp [go_sem, hc3, hc1, d0, d1, z1a, z1b, z1c]
  have k0 : w3.frozen? ⟨w.heap.size, 0, none⟩ = false := by simp [go_sem, hf3, hf1, z1a, z1b, z1c]
  have g1 : w3.cell? ⟨w.heap.size, 1, none⟩ = some (.int .i64 w_) := by simp [go_sem, hc3, hc1, d0, d1, z1a, z1b, z1c]
  have k1 : w3.frozen? ⟨w.heap.size, 1, none⟩ = false := by simp [go_sem, hf3, hf1, z1a, z1b, z1c]
  have g2 : w3.cell? ⟨w.heap.size + 1, 0, none⟩ = some (.int .i64 0) := by simp [go_sem, hc3, hc1, d0, d1, z1a, z1b, z1c]
  have k2 : w3.frozen? ⟨w.heap.size + 1, 0, none⟩ = false := by simp [go_sem, hf3, hf1, z1a, z1b, z1c]
  have g3 : w3.cell? ⟨w.heap.size + 1, 1, none⟩ = some (.int .i64 0) := by simp [go_sem, hc3, hc1, d0, d1, z1a, z1b, z1c]
  have k3 : w3.frozen? ⟨w.heap.size + 1, 1, none⟩ = false := by simp [go_sem, hf3, hf1, z1a, z1b, z1c]
  have g4 : w3.cell? ⟨w.heap.size + 1, 2, none⟩ = some (.int .u64 0) := by simp [go_sem, hc3, hc1, d0, d1, z1a, z1b, z1c]
  have k4 : w3.frozen? ⟨w.heap.size + 1, 2, none⟩ = false := by simp [go_sem, hf3, hf1, z1a, z1b, z1c]
  have g5 : w3.cell? ⟨w.heap.size + 1, 3, none⟩ = some (.int .i64 0) := by simp [go_sem, hc3, hc1, d0, d1, z1a, z1b, z1c]
  have k5 : w3.frozen? ⟨w.heap.size + 1, 3, none⟩ = false := by simp [go_sem, hf3, hf1, z1a, z1b, z1c]
  have g6 : w3.cell? ⟨w.heap.size + 1 + 1, 0, none⟩ = some (.int .i64 0) := by simp [go_sem, hc3, hc1, d0, d1, z1a, z1b, z1c]
  have k6 : w3.frozen? ⟨w.heap.size + 1 + 1, 0, none⟩ = false := by simp [go_sem, hf3, hf1, z1a, z1b, z1c]
  have g7 : w3.cell? ⟨w.heap.size + 1 + 1, 1, none⟩ = some (.int .i64 0) := by simp [go_sem, hc3, hc1, d0, d1, z1a, z1b, z1c]
  have k7 : w3.frozen? ⟨w.heap.size + 1 + 1, 1, none⟩ = false := by simp [go_sem, hf3, hf1, z1a, z1b, z1c]
  have g8 : w3.cell? ⟨w.heap.size + 1 + 1, 2, none⟩ = some (.int .u64 0) := by simp [go_sem, hc3, hc1, d0, d1, z1a, z1b, z1c]
  have k8 : w3.frozen? ⟨w.heap.size + 1 + 1, 2, none⟩ = false := by simp [go_sem, hf3, hf1, z1a, z1b, z1c]
  have g9 : w3.cell? ⟨w.heap.size + 1 + 1, 3, none⟩ = some (.int .i64 0) := by simp [go_sem, hc3, hc1, d0, d1, z1a, z1b, z1c]
  have k9 : w3.frozen? ⟨w.heap.size + 1 + 1, 3, none⟩ = false := by simp [go_sem, hf3, hf1, z1a, z1b, z1c]
  clear hc3 hf3 hc1 hf1 hb1 d0 d1 B1 z1a z1b z1c hl1
  go_wp2_with (fail)
  refine (float_shape_read.calls k p w_ b y1 y2 y3 y4 ok2 _ hy.out).mono ?_
  rintro e w4 ⟨rfl, hb4⟩
  obtain ⟨hc4, hf4⟩ := bcell hb4
  have hs4 := hb4.size
  simp at hs4
  have z4c : w.heap.size + 1 + 1 < w4.heap.size := by omega
  have z4b : w.heap.size + 1 < w4.heap.size := by omega
  have z4a : w.heap.size < w4.heap.size := by omega
  have B4 : Aside0 (Below w.heap.size w w4) := ⟨below_then ((((B3.out.setCell (by dsimp only; omega) _).setCell (by dsimp only; omega) _).setCell (by dsimp only; omega) _).setCell (by dsimp only; omega) _) (by simp; omega) hb4⟩
  clear hb4 hs4
  have m0 : w4.cell? ⟨w.heap.size, 0, none⟩ = some (.int .i64 p) := by simp [go_sem, hc4, z3a, z3b, z3c, g0, g1, g2, g3, g4, g5, g6, g7, g8, g9]
  have n0 : w4.frozen? ⟨w.heap.size, 0, none⟩ = false := by simp [go_sem, hf4, z3a, z3b, z3c, k0, k1, k2, k3, k4, k5, k6, k7, k8, k9]
  have m1 : w4.cell? ⟨w.heap.size, 1, none⟩ = some (.int .i64 w_) := by simp [go_sem, hc4, z3a, z3b, z3c, g0, g1, g2, g3, g4, g5, g6, g7, g8, g9]
  have n1 : w4.frozen? ⟨w.heap.size, 1, none⟩ = false := by simp [go_sem, hf4, z3a, z3b, z3c, k0, k1, k2, k3, k4, k5, k6, k7, k8, k9]
  have m2 : w4.cell? ⟨w.heap.size + 1, 0, none⟩ = some (.int .i64 x1) := by simp [go_sem, hc4, z3a, z3b, z3c, g0, g1, g2, g3, g4, g5, g6, g7, g8, g9]
  have n2 : w4.frozen? ⟨w.heap.size + 1, 0, none⟩ = false := by simp [go_sem, hf4, z3a, z3b, z3c, k0, k1, k2, k3, k4, k5, k6, k7, k8, k9]
  have m3 : w4.cell? ⟨w.heap.size + 1, 1, none⟩ = some (.int .i64 x2) := by simp [go_sem, hc4, z3a, z3b, z3c, g0, g1, g2, g3, g4, g5, g6, g7, g8, g9]
  have n3 : w4.frozen? ⟨w.heap.size + 1, 1, none⟩ = false := by simp [go_sem, hf4, z3a, z3b, z3c, k0, k1, k2, k3, k4, k5, k6, k7, k8, k9]
  have m4 : w4.cell? ⟨w.heap.size + 1, 2, none⟩ = some (.int .u64 x3) := by simp [go_sem, hc4, z3a, z3b, z3c, g0, g1, g2, g3, g4, g5, g6, g7, g8, g9]
  have n4 : w4.frozen? ⟨w.heap.size + 1, 2, none⟩ = false := by simp [go_sem, hf4, z3a, z3b, z3c, k0, k1, k2, k3, k4, k5, k6, k7, k8, k9]
  have m5 : w4.cell? ⟨w.heap.size + 1, 3, none⟩ = some (.int .i64 x4) := by simp [go_sem, hc4, z3a, z3b, z3c, g0, g1, g2, g3, g4, g5, g6, g7, g8, g9]
  have n5 : w4.frozen? ⟨w.heap.size + 1, 3, none⟩ = false := by simp [go_sem, hf4, z3a, z3b, z3c, k0, k1, k2, k3, k4, k5, k6, k7, k8, k9]
  have m6 : w4.cell? ⟨w.heap.size + 1 + 1, 0, none⟩ = some (.int .i64 0) := by simp [go_sem, hc4, z3a, z3b, z3c, g0, g1, g2, g3, g4, g5, g6, g7, g8, g9]
  have n6 : w4.frozen? ⟨w.heap.size + 1 + 1, 0, none⟩ = false := by simp [go_sem, hf4, z3a, z3b, z3c, k0, k1, k2, k3, k4, k5, k6, k7, k8, k9]
  have m7 : w4.cell? ⟨w.heap.size + 1 + 1, 1, none⟩ = some (.int .i64 0) := by simp [go_sem, hc4, z3a, z3b, z3c, g0, g1, g2, g3, g4, g5, g6, g7, g8, g9]
  have n7 : w4.frozen? ⟨w.heap.size + 1 + 1, 1, none⟩ = false := by simp [go_sem, hf4, z3a, z3b, z3c, k0, k1, k2, k3, k4, k5, k6, k7, k8, k9]
  have m8 : w4.cell? ⟨w.heap.size + 1 + 1, 2, none⟩ = some (.int .u64 0) := by simp [go_sem, hc4, z3a, z3b, z3c, g0, g1, g2, g3, g4, g5, g6, g7, g8, g9]
  have n8 : w4.frozen? ⟨w.heap.size + 1 + 1, 2, none⟩ = false := by simp [go_sem, hf4, z3a, z3b, z3c, k0, k1, k2, k3, k4, k5, k6, k7, k8, k9]
  have m9 : w4.cell? ⟨w.heap.size + 1 + 1, 3, none⟩ = some (.int .i64 0) := by simp [go_sem, hc4, z3a, z3b, z3c, g0, g1, g2, g3, g4, g5, g6, g7, g8, g9]
  have n9 : w4.frozen? ⟨w.heap.size + 1 + 1, 3, none⟩ = false := by simp [go_sem, hf4, z3a, z3b, z3c, k0, k1, k2, k3, k4, k5, k6, k7, k8, k9]
  clear hc4 hf4 B3 z3a z3b z3c g0 g1 g2 g3 g4 g5 g6 g7 g8 g9 k0 k1 k2 k3 k4 k5 k6 k7 k8 k9
  go_wp2_with (fail)
  obtain ⟨w2, hw2⟩ : ∃ x_ : World, x_ = ((((w4.setCell ⟨w.heap.size + 1 + 1, 0, none⟩ (.int .i64 y1)).setCell ⟨w.heap.size + 1 + 1, 1, none⟩ (.int .i64 y2)).setCell ⟨w.heap.size + 1 + 1, 2, none⟩ (.int .u64 y3)).setCell ⟨w.heap.size + 1 + 1, 3, none⟩ (.int .i64 y4)) := ⟨_, rfl⟩
  have c0 : w2.cell? ⟨w.heap.size, 0, none⟩ = some (.int .i64 p) := by rw [hw2]; simp [go_sem, m0, m1, m2, m3, m4, m5, m6, m7, m8, m9, n0, n1, n2, n3, n4, n5, n6, n7, n8, n9]
  have f0 : w2.frozen? ⟨w.heap.size, 0, none⟩ = false := by rw [hw2]; simp [go_sem, m0, m1, m2, m3, m4, m5, m6, m7, m8, m9, n0, n1, n2, n3, n4, n5, n6, n7, n8, n9]
  have e0 : ∀ n, (w2.drewN n).setCell ⟨w.heap.size, 0, none⟩ (.int .i64 p) = w2.drewN n := setCell_idem c0
  have c1 : w2.cell? ⟨w.heap.size, 1, none⟩ = some (.int .i64 w_) := by rw [hw2]; simp [go_sem, m0, m1, m2, m3, m4, m5, m6, m7, m8, m9, n0, n1, n2, n3, n4, n5, n6, n7, n8, n9]
  have f1 : w2.frozen? ⟨w.heap.size, 1, none⟩ = false := by rw [hw2]; simp [go_sem, m0, m1, m2, m3, m4, m5, m6, m7, m8, m9, n0, n1, n2, n3, n4, n5, n6, n7, n8, n9]
  have e1 : ∀ n, (w2.drewN n).setCell ⟨w.heap.size, 1, none⟩ (.int .i64 w_) = w2.drewN n := setCell_idem c1
  have c2 : w2.cell? ⟨w.heap.size + 1, 0, none⟩ = some (.int .i64 x1) := by rw [hw2]; simp [go_sem, m0, m1, m2, m3, m4, m5, m6, m7, m8, m9, n0, n1, n2, n3, n4, n5, n6, n7, n8, n9]
  have f2 : w2.frozen? ⟨w.heap.size + 1, 0, none⟩ = false := by rw [hw2]; simp [go_sem, m0, m1, m2, m3, m4, m5, m6, m7, m8, m9, n0, n1, n2, n3, n4, n5, n6, n7, n8, n9]
  have e2 : ∀ n, (w2.drewN n).setCell ⟨w.heap.size + 1, 0, none⟩ (.int .i64 x1) = w2.drewN n := setCell_idem c2
  have c3 : w2.cell? ⟨w.heap.size + 1, 1, none⟩ = some (.int .i64 x2) := by rw [hw2]; simp [go_sem, m0, m1, m2, m3, m4, m5, m6, m7, m8, m9, n0, n1, n2, n3, n4, n5, n6, n7, n8, n9]
  have f3 : w2.frozen? ⟨w.heap.size + 1, 1, none⟩ = false := by rw [hw2]; simp [go_sem, m0, m1, m2, m3, m4, m5, m6, m7, m8, m9, n0, n1, n2, n3, n4, n5, n6, n7, n8, n9]
  have e3 : ∀ n, (w2.drewN n).setCell ⟨w.heap.size + 1, 1, none⟩ (.int .i64 x2) = w2.drewN n := setCell_idem c3
  have c4 : w2.cell? ⟨w.heap.size + 1, 2, none⟩ = some (.int .u64 x3) := by rw [hw2]; simp [go_sem, m0, m1, m2, m3, m4, m5, m6, m7, m8, m9, n0, n1, n2, n3, n4, n5, n6, n7, n8, n9]
  have f4 : w2.frozen? ⟨w.heap.size + 1, 2, none⟩ = false := by rw [hw2]; simp [go_sem, m0, m1, m2, m3, m4, m5, m6, m7, m8, m9, n0, n1, n2, n3, n4, n5, n6, n7, n8, n9]
  have e4 : ∀ n, (w2.drewN n).setCell ⟨w.heap.size + 1, 2, none⟩ (.int .u64 x3) = w2.drewN n := setCell_idem c4
  have c5 : w2.cell? ⟨w.heap.size + 1, 3, none⟩ = some (.int .i64 x4) := by rw [hw2]; simp [go_sem, m0, m1, m2, m3, m4, m5, m6, m7, m8, m9, n0, n1, n2, n3, n4, n5, n6, n7, n8, n9]
  have f5 : w2.frozen? ⟨w.heap.size + 1, 3, none⟩ = false := by rw [hw2]; simp [go_sem, m0, m1, m2, m3, m4, m5, m6, m7, m8, m9, n0, n1, n2, n3, n4, n5, n6, n7, n8, n9]
  have e5 : ∀ n, (w2.drewN n).setCell ⟨w.heap.size + 1, 3, none⟩ (.int .i64 x4) = w2.drewN n := setCell_idem c5
  have c6 : w2.cell? ⟨w.heap.size + 1 + 1, 0, none⟩ = some (.int .i64 y1) := by rw [hw2]; simp [go_sem, m0, m1, m2, m3, m4, m5, m6, m7, m8, m9, n0, n1, n2, n3, n4, n5, n6, n7, n8, n9]
  have f6 : w2.frozen? ⟨w.heap.size + 1 + 1, 0, none⟩ = false := by rw [hw2]; simp [go_sem, m0, m1, m2, m3, m4, m5, m6, m7, m8, m9, n0, n1, n2, n3, n4, n5, n6, n7, n8, n9]
  have e6 : ∀ n, (w2.drewN n).setCell ⟨w.heap.size + 1 + 1, 0, none⟩ (.int .i64 y1) = w2.drewN n := setCell_idem c6
  have c7 : w2.cell? ⟨w.heap.size + 1 + 1, 1, none⟩ = some (.int .i64 y2) := by rw [hw2]; simp [go_sem, m0, m1, m2, m3, m4, m5, m6, m7, m8, m9, n0, n1, n2, n3, n4, n5, n6, n7, n8, n9]
  have f7 : w2.frozen? ⟨w.heap.size + 1 + 1, 1, none⟩ = false := by rw [hw2]; simp [go_sem, m0, m1, m2, m3, m4, m5, m6, m7, m8, m9, n0, n1, n2, n3, n4, n5, n6, n7, n8, n9]
  have e7 : ∀ n, (w2.drewN n).setCell ⟨w.heap.size + 1 + 1, 1, none⟩ (.int .i64 y2) = w2.drewN n := setCell_idem c7
  have c8 : w2.cell? ⟨w.heap.size + 1 + 1, 2, none⟩ = some (.int .u64 y3) := by rw [hw2]; simp [go_sem, m0, m1, m2, m3, m4, m5, m6, m7, m8, m9, n0, n1, n2, n3, n4, n5, n6, n7, n8, n9]
  have f8 : w2.frozen? ⟨w.heap.size + 1 + 1, 2, none⟩ = false := by rw [hw2]; simp [go_sem, m0, m1, m2, m3, m4, m5, m6, m7, m8, m9, n0, n1, n2, n3, n4, n5, n6, n7, n8, n9]
  have e8 : ∀ n, (w2.drewN n).setCell ⟨w.heap.size + 1 + 1, 2, none⟩ (.int .u64 y3) = w2.drewN n := setCell_idem c8
  have c9 : w2.cell? ⟨w.heap.size + 1 + 1, 3, none⟩ = some (.int .i64 y4) := by rw [hw2]; simp [go_sem, m0, m1, m2, m3, m4, m5, m6, m7, m8, m9, n0, n1, n2, n3, n4, n5, n6, n7, n8, n9]
  have f9 : w2.frozen? ⟨w.heap.size + 1 + 1, 3, none⟩ = false := by rw [hw2]; simp [go_sem, m0, m1, m2, m3, m4, m5, m6, m7, m8, m9, n0, n1, n2, n3, n4, n5, n6, n7, n8, n9]
  have e9 : ∀ n, (w2.drewN n).setCell ⟨w.heap.size + 1 + 1, 3, none⟩ (.int .i64 y4) = w2.drewN n := setCell_idem c9
  have B2 : Aside0 (Below w.heap.size w w2) := ⟨by rw [hw2]; exact (((B4.out.setCell (by dsimp only; omega) _).setCell (by dsimp only; omega) _).setCell (by dsimp only; omega) _).setCell (by dsimp only; omega) _⟩
  rw [← hw2]
  clear hw2 B4 z4a z4b z4c m0 m1 m2 m3 m4 m5 m6 m7 m8 m9 n0 n1 n2 n3 n4 n5 n6 n7 n8 n9
  go_quiet (fail)
  go_wp2
  refine bodyPost_ret (v := .tuple #[.agg #[.int .i64 p, .int .i64 w_], .agg #[.int .i64 x1, .int .i64 x2, .int .u64 x3, .int .i64 x4], .agg #[.int .i64 y1, .int .i64 y2, .int .u64 y3, .int .i64 y4], .bool ok2]) (by simp [results, Try.results40, go_sem, c0, c1, c2, c3, c4, c5, c6, c7, c8, c9]) rfl ⟨rfl, ?_⟩
  repeat (first | exact B2.out | apply pw_below_drewN)
set_option maxHeartbeats 4000000 in
set_option maxRecDepth 100000 in
theorem float_two.good_false (k : Nat) (kind mode a b p w_ x1 x2 x3 x4 y1 y2 y3 y4 : Int) (ok2 : Bool) (w : World) (h : float_of.f kind = some (p, w_, true)) (hm0 : (decide (mode < 0)) = false) (hm : (decide (4 ≤ mode)) = false)
    (hx : float_shape_read.f k p w_ a = some (x1, x2, x3, x4, false)) (hy : float_shape_read.f k p w_ b = some (y1, y2, y3, y4, ok2)) :
    Calls Try.prog 40 #[.int .i64 kind, .int .i64 mode, .int .i64 a, .int .i64 b] w fun e w' => e = .returned (.tuple #[.agg #[.int .i64 p, .int .i64 w_], .agg #[.int .i64 x1, .int .i64 x2, .int .u64 x3, .int .i64 x4], .agg #[.int .i64 y1, .int .i64 y2, .int .u64 y3, .int .i64 y4], .bool false]) ∧ Below w.heap.size w w' := by
  have hx := Aside0.mk hx
  have hy := Aside0.mk hy
  have hu42 := Try.underlying42
  have hu45 := Try.underlying45
  go_enter Try.func40, Try.ntmps40
  go_wp2_with (fail)
  refine (float_of.calls kind p w_ true _ h).mono ?_
  rintro e w1 ⟨rfl, hb1⟩
  obtain ⟨hc1, hf1⟩ := bcell hb1
  have z1c : w.heap.size + 1 + 1 < w1.heap.size := by have := hb1.size; simp at this; omega
  have z1b : w.heap.size + 1 < w1.heap.size := by omega
  have z1a : w.heap.size < w1.heap.size := by omega
  have hl1 : w.heap.size ≤ w1.heap.size := by omega
  have B1 : Aside0 (Below w.heap.size w w1) := ⟨below_then (by repeat (first | exact Below.refl _ _ | apply below_alloc)) (by simp; omega) hb1⟩
  have hb1 := Aside0.mk hb1
  have d0 : w1.cell? ⟨w.heap.size, 0, none⟩ = some (.int .i64 0) := by simp [go_sem, hc1]
  have d1 : w1.cell? ⟨w.heap.size, 1, none⟩ = some (.int .i64 0) := by simp [go_sem, hc1]
  go_wp2_with (fail)
  refine (float_shape_read.calls k p w_ a x1 x2 x3 x4 false _ hx.out).mono ?_
  rintro e w3 ⟨rfl, hb3⟩
  obtain ⟨hc3, hf3⟩ := bcell hb3
  have hs3 := hb3.size
  simp at hs3
  have z3c : w.heap.size + 1 + 1 < w3.heap.size := by omega
  have z3b : w.heap.size + 1 < w3.heap.size := by omega
  have z3a : w.heap.size < w3.heap.size := by omega
  have B3 : Aside0 (Below w.heap.size w w3) := ⟨below_then ((B1.out.setCell (by dsimp only; omega) _).setCell (by dsimp only; omega) _) (by simp; omega) hb3⟩
  clear hb3 hs3
  have g0 : w3.cell? ⟨w.heap.size, 0, none⟩ = some (.int .i64 p) := by simp [go_sem, hc3, hc1, d0, d1, z1a, z1b, z1c]
  have k0 : w3.frozen? ⟨w.heap.size, 0, none⟩ = false := by simp [go_sem, hf3, hf1, z1a, z1b, z1c]
  have g1 : w3.cell? ⟨w.heap.size, 1, none⟩ = some (.int .i64 w_) := by simp [go_sem, hc3, hc1, d0, d1, z1a, z1b, z1c]
  have k1 : w3.frozen? ⟨w.heap.size, 1, none⟩ = false := by simp [go_sem, hf3, hf1, z1a, z1b, z1c]
  have g2 : w3.cell? ⟨w.heap.size + 1, 0, none⟩ = some (.int .i64 0) := by simp [go_sem, hc3, hc1, d0, d1, z1a, z1b, z1c]
  have k2 : w3.frozen? ⟨w.heap.size + 1, 0, none⟩ = false := by simp [go_sem, hf3, hf1, z1a, z1b, z1c]
  have g3 : w3.cell? ⟨w.heap.size + 1, 1, none⟩ = some (.int .i64 0) := by simp [go_sem, hc3, hc1, d0, d1, z1a, z1b, z1c]
  have k3 : w3.frozen? ⟨w.heap.size + 1, 1, none⟩ = false := by simp [go_sem, hf3, hf1, z1a, z1b, z1c]
  have g4 : w3.cell? ⟨w.heap.size + 1, 2, none⟩ = some (.int .u64 0) := by simp [go_sem, hc3, hc1, d0, d1, z1a, z1b, z1c]
  have k4 : w3.frozen? ⟨w.heap.size + 1, 2, none⟩ = false := by simp [go_sem, hf3, hf1, z1a, z1b, z1c]
  have g5 : w3.cell? ⟨w.heap.size + 1, 3, none⟩ = some (.int .i64 0) := by simp [go_sem, hc3, hc1, d0, d1, z1a, z1b, z1c]
  have k5 : w3.frozen? ⟨w.heap.size + 1, 3, none⟩ = false := by simp [go_sem, hf3, hf1, z1a, z1b, z1c]
  have g6 : w3.cell? ⟨w.heap.size + 1 + 1, 0, none⟩ = some (.int .i64 0) := by simp [go_sem, hc3, hc1, d0, d1, z1a, z1b, z1c]
  have k6 : w3.frozen? ⟨w.heap.size + 1 + 1, 0, none⟩ = false := by simp [go_sem, hf3, hf1, z1a, z1b, z1c]
  have g7 : w3.cell? ⟨w.heap.size + 1 + 1, 1, none⟩ = some (.int .i64 0) := by simp [go_sem, hc3, hc1, d0, d1, z1a, z1b, z1c]
  have k7 : w3.frozen? ⟨w.heap.size + 1 + 1, 1, none⟩ = false := by simp [go_sem, hf3, hf1, z1a, z1b, z1c]
  have g8 : w3.cell? ⟨w.heap.size + 1 + 1, 2, none⟩ = some (.int .u64 0) := by simp [go_sem, hc3, hc1, d0, d1, z1a, z1b, z1c]
  have k8 : w3.frozen? ⟨w.heap.size + 1 + 1, 2, none⟩ = false := by simp [go_sem, hf3, hf1, z1a, z1b, z1c]
  have g9 : w3.cell? ⟨w.heap.size + 1 + 1, 3, none⟩ = some (.int .i64 0) := by simp [go_sem, hc3, hc1, d0, d1, z1a, z1b, z1c]
  have k9 : w3.frozen? ⟨w.heap.size + 1 + 1, 3, none⟩ = false := by simp [go_sem, hf3, hf1, z1a, z1b, z1c]
  clear hc3 hf3 hc1 hf1 hb1 d0 d1 B1 z1a z1b z1c hl1
  go_wp2_with (fail)
  refine (float_shape_read.calls k p w_ b y1 y2 y3 y4 ok2 _ hy.out).mono ?_
  rintro e w4 ⟨rfl, hb4⟩
  obtain ⟨hc4, hf4⟩ := bcell hb4
  have hs4 := hb4.size
  simp at hs4
  have z4c : w.heap.size + 1 + 1 < w4.heap.size := by omega
  have z4b : w.heap.size + 1 < w4.heap.size := by omega
  have z4a : w.heap.size < w4.heap.size := by omega
  have B4 : Aside0 (Below w.heap.size w w4) := ⟨below_then ((((B3.out.setCell (by dsimp only; omega) _).setCell (by dsimp only; omega) _).setCell (by dsimp only; omega) _).setCell (by dsimp only; omega) _) (by simp; omega) hb4⟩
  clear hb4 hs4
  have m0 : w4.cell? ⟨w.heap.size, 0, none⟩ = some (.int .i64 p) := by simp [go_sem, hc4, z3a, z3b, z3c, g0, g1, g2, g3, g4, g5, g6, g7, g8, g9]
  have n0 : w4.frozen? ⟨w.heap.size, 0, none⟩ = false := by simp [go_sem, hf4, z3a, z3b, z3c, k0, k1, k2, k3, k4, k5, k6, k7, k8, k9]
  have m1 : w4.cell? ⟨w.heap.size, 1, none⟩ = some (.int .i64 w_) := by simp [go_sem, hc4, z3a, z3b, z3c, g0, g1, g2, g3, g4, g5, g6, g7, g8, g9]
  have n1 : w4.frozen? ⟨w.heap.size, 1, none⟩ = false := by simp [go_sem, hf4, z3a, z3b, z3c, k0, k1, k2, k3, k4, k5, k6, k7, k8, k9]
  have m2 : w4.cell? ⟨w.heap.size + 1, 0, none⟩ = some (.int .i64 x1) := by simp [go_sem, hc4, z3a, z3b, z3c, g0, g1, g2, g3, g4, g5, g6, g7, g8, g9]
  have n2 : w4.frozen? ⟨w.heap.size + 1, 0, none⟩ = false := by simp [go_sem, hf4, z3a, z3b, z3c, k0, k1, k2, k3, k4, k5, k6, k7, k8, k9]
  have m3 : w4.cell? ⟨w.heap.size + 1, 1, none⟩ = some (.int .i64 x2) := by simp [go_sem, hc4, z3a, z3b, z3c, g0, g1, g2, g3, g4, g5, g6, g7, g8, g9]
  have n3 : w4.frozen? ⟨w.heap.size + 1, 1, none⟩ = false := by simp [go_sem, hf4, z3a, z3b, z3c, k0, k1, k2, k3, k4, k5, k6, k7, k8, k9]
  have m4 : w4.cell? ⟨w.heap.size + 1, 2, none⟩ = some (.int .u64 x3) := by simp [go_sem, hc4, z3a, z3b, z3c, g0, g1, g2, g3, g4, g5, g6, g7, g8, g9]
  have n4 : w4.frozen? ⟨w.heap.size + 1, 2, none⟩ = false := by simp [go_sem, hf4, z3a, z3b, z3c, k0, k1, k2, k3, k4, k5, k6, k7, k8, k9]
  have m5 : w4.cell? ⟨w.heap.size + 1, 3, none⟩ = some (.int .i64 x4) := by simp [go_sem, hc4, z3a, z3b, z3c, g0, g1, g2, g3, g4, g5, g6, g7, g8, g9]
  have n5 : w4.frozen? ⟨w.heap.size + 1, 3, none⟩ = false := by simp [go_sem, hf4, z3a, z3b, z3c, k0, k1, k2, k3, k4, k5, k6, k7, k8, k9]
  have m6 : w4.cell? ⟨w.heap.size + 1 + 1, 0, none⟩ = some (.int .i64 0) := by simp [go_sem, hc4, z3a, z3b, z3c, g0, g1, g2, g3, g4, g5, g6, g7, g8, g9]
  have n6 : w4.frozen? ⟨w.heap.size + 1 + 1, 0, none⟩ = false := by simp [go_sem, hf4, z3a, z3b, z3c, k0, k1, k2, k3, k4, k5, k6, k7, k8, k9]
  have m7 : w4.cell? ⟨w.heap.size + 1 + 1, 1, none⟩ = some (.int .i64 0) := by simp [go_sem, hc4, z3a, z3b, z3c, g0, g1, g2, g3, g4, g5, g6, g7, g8, g9]
  have n7 : w4.frozen? ⟨w.heap.size + 1 + 1, 1, none⟩ = false := by simp [go_sem, hf4, z3a, z3b, z3c, k0, k1, k2, k3, k4, k5, k6, k7, k8, k9]
  have m8 : w4.cell? ⟨w.heap.size + 1 + 1, 2, none⟩ = some (.int .u64 0) := by simp [go_sem, hc4, z3a, z3b, z3c, g0, g1, g2, g3, g4, g5, g6, g7, g8, g9]
  have n8 : w4.frozen? ⟨w.heap.size + 1 + 1, 2, none⟩ = false := by simp [go_sem, hf4, z3a, z3b, z3c, k0, k1, k2, k3, k4, k5, k6, k7, k8, k9]
  have m9 : w4.cell? ⟨w.heap.size + 1 + 1, 3, none⟩ = some (.int .i64 0) := by simp [go_sem, hc4, z3a, z3b, z3c, g0, g1, g2, g3, g4, g5, g6, g7, g8, g9]
  have n9 : w4.frozen? ⟨w.heap.size + 1 + 1, 3, none⟩ = false := by simp [go_sem, hf4, z3a, z3b, z3c, k0, k1, k2, k3, k4, k5, k6, k7, k8, k9]
  clear hc4 hf4 B3 z3a z3b z3c g0 g1 g2 g3 g4 g5 g6 g7 g8 g9 k0 k1 k2 k3 k4 k5 k6 k7 k8 k9
  go_wp2_with (fail)
  obtain ⟨w2, hw2⟩ : ∃ x_ : World, x_ = ((((w4.setCell ⟨w.heap.size + 1 + 1, 0, none⟩ (.int .i64 y1)).setCell ⟨w.heap.size + 1 + 1, 1, none⟩ (.int .i64 y2)).setCell ⟨w.heap.size + 1 + 1, 2, none⟩ (.int .u64 y3)).setCell ⟨w.heap.size + 1 + 1, 3, none⟩ (.int .i64 y4)) := ⟨_, rfl⟩
  have c0 : w2.cell? ⟨w.heap.size, 0, none⟩ = some (.int .i64 p) := by rw [hw2]; simp [go_sem, m0, m1, m2, m3, m4, m5, m6, m7, m8, m9, n0, n1, n2, n3, n4, n5, n6, n7, n8, n9]
  have f0 : w2.frozen? ⟨w.heap.size, 0, none⟩ = false := by rw [hw2]; simp [go_sem, m0, m1, m2, m3, m4, m5, m6, m7, m8, m9, n0, n1, n2, n3, n4, n5, n6, n7, n8, n9]
  have e0 : ∀ n, (w2.drewN n).setCell ⟨w.heap.size, 0, none⟩ (.int .i64 p) = w2.drewN n := setCell_idem c0
  have c1 : w2.cell? ⟨w.heap.size, 1, none⟩ = some (.int .i64 w_) := by rw [hw2]; simp [go_sem, m0, m1, m2, m3, m4, m5, m6, m7, m8, m9, n0, n1, n2, n3, n4, n5, n6, n7, n8, n9]
  have f1 : w2.frozen? ⟨w.heap.size, 1, none⟩ = false := by rw [hw2]; simp [go_sem, m0, m1, m2, m3, m4, m5, m6, m7, m8, m9, n0, n1, n2, n3, n4, n5, n6, n7, n8, n9]
  have e1 : ∀ n, (w2.drewN n).setCell ⟨w.heap.size, 1, none⟩ (.int .i64 w_) = w2.drewN n := setCell_idem c1
  have c2 : w2.cell? ⟨w.heap.size + 1, 0, none⟩ = some (.int .i64 x1) := by rw [hw2]; simp [go_sem, m0, m1, m2, m3, m4, m5, m6, m7, m8, m9, n0, n1, n2, n3, n4, n5, n6, n7, n8, n9]
  have f2 : w2.frozen? ⟨w.heap.size + 1, 0, none⟩ = false := by rw [hw2]; simp [go_sem, m0, m1, m2, m3, m4, m5, m6, m7, m8, m9, n0, n1, n2, n3, n4, n5, n6, n7, n8, n9]
  have e2 : ∀ n, (w2.drewN n).setCell ⟨w.heap.size + 1, 0, none⟩ (.int .i64 x1) = w2.drewN n := setCell_idem c2
  have c3 : w2.cell? ⟨w.heap.size + 1, 1, none⟩ = some (.int .i64 x2) := by rw [hw2]; simp [go_sem, m0, m1, m2, m3, m4, m5, m6, m7, m8, m9, n0, n1, n2, n3, n4, n5, n6, n7, n8, n9]
  have f3 : w2.frozen? ⟨w.heap.size + 1, 1, none⟩ = false := by rw [hw2]; simp [go_sem, m0, m1, m2, m3, m4, m5, m6, m7, m8, m9, n0, n1, n2, n3, n4, n5, n6, n7, n8, n9]
  have e3 : ∀ n, (w2.drewN n).setCell ⟨w.heap.size + 1, 1, none⟩ (.int .i64 x2) = w2.drewN n := setCell_idem c3
  have c4 : w2.cell? ⟨w.heap.size + 1, 2, none⟩ = some (.int .u64 x3) := by rw [hw2]; simp [go_sem, m0, m1, m2, m3, m4, m5, m6, m7, m8, m9, n0, n1, n2, n3, n4, n5, n6, n7, n8, n9]
  have f4 : w2.frozen? ⟨w.heap.size + 1, 2, none⟩ = false := by rw [hw2]; simp [go_sem, m0, m1, m2, m3, m4, m5, m6, m7, m8, m9, n0, n1, n2, n3, n4, n5, n6, n7, n8, n9]
  have e4 : ∀ n, (w2.drewN n).setCell ⟨w.heap.size + 1, 2, none⟩ (.int .u64 x3) = w2.drewN n := setCell_idem c4
  have c5 : w2.cell? ⟨w.heap.size + 1, 3, none⟩ = some (.int .i64 x4) := by rw [hw2]; simp [go_sem, m0, m1, m2, m3, m4, m5, m6, m7, m8, m9, n0, n1, n2, n3, n4, n5, n6, n7, n8, n9]
  have f5 : w2.frozen? ⟨w.heap.size + 1, 3, none⟩ = false := by rw [hw2]; simp [go_sem, m0, m1, m2, m3, m4, m5, m6, m7, m8, m9, n0, n1, n2, n3, n4, n5, n6, n7, n8, n9]
  have e5 : ∀ n, (w2.drewN n).setCell ⟨w.heap.size + 1, 3, none⟩ (.int .i64 x4) = w2.drewN n := setCell_idem c5
  have c6 : w2.cell? ⟨w.heap.size + 1 + 1, 0, none⟩ = some (.int .i64 y1) := by rw [hw2]; simp [go_sem, m0, m1, m2, m3, m4, m5, m6, m7, m8, m9, n0, n1, n2, n3, n4, n5, n6, n7, n8, n9]
  have f6 : w2.frozen? ⟨w.heap.size + 1 + 1, 0, none⟩ = false := by rw [hw2]; simp [go_sem, m0, m1, m2, m3, m4, m5, m6, m7, m8, m9, n0, n1, n2, n3, n4, n5, n6, n7, n8, n9]
  have e6 : ∀ n, (w2.drewN n).setCell ⟨w.heap.size + 1 + 1, 0, none⟩ (.int .i64 y1) = w2.drewN n := setCell_idem c6
  have c7 : w2.cell? ⟨w.heap.size + 1 + 1, 1, none⟩ = some (.int .i64 y2) := by rw [hw2]; simp [go_sem, m0, m1, m2, m3, m4, m5, m6, m7, m8, m9, n0, n1, n2, n3, n4, n5, n6, n7, n8, n9]
  have f7 : w2.frozen? ⟨w.heap.size + 1 + 1, 1, none⟩ = false := by rw [hw2]; simp [go_sem, m0, m1, m2, m3, m4, m5, m6, m7, m8, m9, n0, n1, n2, n3, n4, n5, n6, n7, n8, n9]
  have e7 : ∀ n, (w2.drewN n).setCell ⟨w.heap.size + 1 + 1, 1, none⟩ (.int .i64 y2) = w2.drewN n := setCell_idem c7
  have c8 : w2.cell? ⟨w.heap.size + 1 + 1, 2, none⟩ = some (.int .u64 y3) := by rw [hw2]; simp [go_sem, m0, m1, m2, m3, m4, m5, m6, m7, m8, m9, n0, n1, n2, n3, n4, n5, n6, n7, n8, n9]
  have f8 : w2.frozen? ⟨w.heap.size + 1 + 1, 2, none⟩ = false := by rw [hw2]; simp [go_sem, m0, m1, m2, m3, m4, m5, m6, m7, m8, m9, n0, n1, n2, n3, n4, n5, n6, n7, n8, n9]
  have e8 : ∀ n, (w2.drewN n).setCell ⟨w.heap.size + 1 + 1, 2, none⟩ (.int .u64 y3) = w2.drewN n := setCell_idem c8
  have c9 : w2.cell? ⟨w.heap.size + 1 + 1, 3, none⟩ = some (.int .i64 y4) := by rw [hw2]; simp [go_sem, m0, m1, m2, m3, m4, m5, m6, m7, m8, m9, n0, n1, n2, n3, n4, n5, n6, n7, n8, n9]
  have f9 : w2.frozen? ⟨w.heap.size + 1 + 1, 3, none⟩ = false := by rw [hw2]; simp [go_sem, m0, m1, m2, m3, m4, m5, m6, m7, m8, m9, n0, n1, n2, n3, n4, n5, n6, n7, n8, n9]
  have e9 : ∀ n, (w2.drewN n).setCell ⟨w.heap.size + 1 + 1, 3, none⟩ (.int .i64 y4) = w2.drewN n := setCell_idem c9
  have B2 : Aside0 (Below w.heap.size w w2) := ⟨by rw [hw2]; exact (((B4.out.setCell (by dsimp only; omega) _).setCell (by dsimp only; omega) _).setCell (by dsimp only; omega) _).setCell (by dsimp only; omega) _⟩
  rw [← hw2]
  clear hw2 B4 z4a z4b z4c m0 m1 m2 m3 m4 m5 m6 m7 m8 m9 n0 n1 n2 n3 n4 n5 n6 n7 n8 n9
  go_quiet (fail)
  go_wp2
  refine bodyPost_ret (v := .tuple #[.agg #[.int .i64 p, .int .i64 w_], .agg #[.int .i64 x1, .int .i64 x2, .int .u64 x3, .int .i64 x4], .agg #[.int .i64 y1, .int .i64 y2, .int .u64 y3, .int .i64 y4], .bool false]) (by simp [results, Try.results40, go_sem, c0, c1, c2, c3, c4, c5, c6, c7, c8, c9]) rfl ⟨rfl, ?_⟩
  repeat (first | exact B2.out | apply pw_below_drewN)
def float_two.f (k : Nat) (a0 a1 a2 a3 : Int) : Option (Int × Int × Int × Int × Int × Int × Int × Int × Int × Int × Bool) :=
  (float_of.f a0).bind fun s => if s.2.2 = false then some (s.1, s.2.1, 0, 0, 0, 0, 0, 0, 0, 0, false) else if a1 < 0 then some (s.1, s.2.1, 0, 0, 0, 0, 0, 0, 0, 0, false) else if 4 ≤ a1 then some (s.1, s.2.1, 0, 0, 0, 0, 0, 0, 0, 0, false)
    else (float_shape_read.f k s.1 s.2.1 a2).bind fun x => (float_shape_read.f k s.1 s.2.1 a3).bind fun y => some (s.1, s.2.1, x.1, x.2.1, x.2.2.1, x.2.2.2.1, y.1, y.2.1, y.2.2.1, y.2.2.2.1, x.2.2.2.2 && y.2.2.2.2)
theorem float_two.mono : ∀ a0 a1 a2 a3 k, LeO (float_two.f k a0 a1 a2 a3) (float_two.f (k + 1) a0 a1 a2 a3) := by
  intro a0 a1 a2 a3 k
  unfold float_two.f
  refine LeO.bind (LeO.refl _) (fun _ => ?_)
  refine LeO.ite (LeO.refl _) ?_
  refine LeO.ite (LeO.refl _) ?_
  refine LeO.ite (LeO.refl _) ?_
  refine LeO.bind (float_shape_read.mono _ _ _ _) (fun _ => ?_)
  refine LeO.bind (float_shape_read.mono _ _ _ _) (fun _ => LeO.refl _)
theorem float_two.calls (k : Nat) (a0 : Int) (a1 : Int) (a2 : Int) (a3 : Int) (r1 : Int) (r2 : Int) (r3 : Int) (r4 : Int) (r5 : Int) (r6 : Int) (r7 : Int) (r8 : Int) (r9 : Int) (r10 : Int) (r11 : Bool) (w : World) (h : float_two.f k a0 a1 a2 a3 = some (r1, r2, r3, r4, r5, r6, r7, r8, r9, r10, r11)) :
    Calls Try.prog 40 #[.int .i64 a0, .int .i64 a1, .int .i64 a2, .int .i64 a3] w fun e w' => e = .returned (.tuple #[.agg #[.int .i64 r1, .int .i64 r2], .agg #[.int .i64 r3, .int .i64 r4, .int .u64 r5, .int .i64 r6], .agg #[.int .i64 r7, .int .i64 r8, .int .u64 r9, .int .i64 r10], .bool r11]) ∧ Below w.heap.size w w' := by
  unfold float_two.f at h
  obtain ⟨⟨p, w_, ok⟩, ho, h⟩ := Option.bind_eq_some_iff.mp h
  cases ok with
  | false =>
    obtain ⟨rfl, rfl, rfl, rfl, rfl, rfl, rfl, rfl, rfl, rfl, rfl⟩ : p = r1 ∧ w_ = r2 ∧ (0 : Int) = r3 ∧ (0 : Int) = r4 ∧ (0 : Int) = r5 ∧ (0 : Int) = r6 ∧ (0 : Int) = r7 ∧ (0 : Int) = r8 ∧ (0 : Int) = r9 ∧ (0 : Int) = r10 ∧ false = r11 := by simpa using h
    exact float_two.bad_kind a0 a1 a2 a3 p w_ w ho
  | true =>
    rw [if_neg (by simp)] at h
    by_cases h1 : a1 < 0
    · rw [if_pos h1] at h
      obtain ⟨rfl, rfl, rfl, rfl, rfl, rfl, rfl, rfl, rfl, rfl, rfl⟩ : p = r1 ∧ w_ = r2 ∧ (0 : Int) = r3 ∧ (0 : Int) = r4 ∧ (0 : Int) = r5 ∧ (0 : Int) = r6 ∧ (0 : Int) = r7 ∧ (0 : Int) = r8 ∧ (0 : Int) = r9 ∧ (0 : Int) = r10 ∧ false = r11 := by simpa using h
      exact float_two.bad_low a0 a1 a2 a3 p w_ w ho (decide_eq_true h1)
    · rw [if_neg h1] at h
      by_cases h2 : 4 ≤ a1
      · rw [if_pos h2] at h
        obtain ⟨rfl, rfl, rfl, rfl, rfl, rfl, rfl, rfl, rfl, rfl, rfl⟩ : p = r1 ∧ w_ = r2 ∧ (0 : Int) = r3 ∧ (0 : Int) = r4 ∧ (0 : Int) = r5 ∧ (0 : Int) = r6 ∧ (0 : Int) = r7 ∧ (0 : Int) = r8 ∧ (0 : Int) = r9 ∧ (0 : Int) = r10 ∧ false = r11 := by simpa using h
        exact float_two.bad_high a0 a1 a2 a3 p w_ w ho (decide_eq_false h1) (decide_eq_true h2)
      · rw [if_neg h2] at h
        obtain ⟨⟨x1, x2, x3, x4, x5⟩, hx, h⟩ := Option.bind_eq_some_iff.mp h
        obtain ⟨⟨y1, y2, y3, y4, y5⟩, hy, h⟩ := Option.bind_eq_some_iff.mp h
        cases x5 with
        | true =>
          obtain ⟨rfl, rfl, rfl, rfl, rfl, rfl, rfl, rfl, rfl, rfl, rfl⟩ : p = r1 ∧ w_ = r2 ∧ x1 = r3 ∧ x2 = r4 ∧ x3 = r5 ∧ x4 = r6 ∧ y1 = r7 ∧ y2 = r8 ∧ y3 = r9 ∧ y4 = r10 ∧ y5 = r11 := by simpa using h
          exact float_two.good_true k a0 a1 a2 a3 p w_ x1 x2 x3 x4 y1 y2 y3 y4 y5 w ho (decide_eq_false h1) (decide_eq_false h2) hx hy
        | false =>
          obtain ⟨rfl, rfl, rfl, rfl, rfl, rfl, rfl, rfl, rfl, rfl, rfl⟩ : p = r1 ∧ w_ = r2 ∧ x1 = r3 ∧ x2 = r4 ∧ x3 = r5 ∧ x4 = r6 ∧ y1 = r7 ∧ y2 = r8 ∧ y3 = r9 ∧ y4 = r10 ∧ false = r11 := by simpa using h
          exact float_two.good_false k a0 a1 a2 a3 p w_ x1 x2 x3 x4 y1 y2 y3 y4 y5 w ho (decide_eq_false h1) (decide_eq_false h2) hx hy

/-! ### float_shape_pack: function 87 -/
def float_shape_pack.f (a0_0 : Int) (a0_1 : Int) (a1 : Int) (a2 : Int) (a3 : Int) : Option (Int) := if 0 ≤ (wrap64 ((wrap64 (a0_0 + a0_1)) - 1)) then (if 0 ≤ (wrap64 (a0_0 - 1)) then (some (wrap64 (Go.bits .or .u64 (Go.bits .or .u64 (shl .u64 (IntKind.u64.wrap (a1)) (wrap64 ((wrap64 (a0_0 + a0_1)) - 1))) (shl .u64 a2 (wrap64 (a0_0 - 1)))) a3))) else (none)) else (none)
set_option maxHeartbeats 8000000 in
set_option maxRecDepth 100000 in
theorem float_shape_pack.calls (a0_0 : Int) (a0_1 : Int) (a1 : Int) (a2 : Int) (a3 : Int) (r : Int) (w : World) (h : float_shape_pack.f a0_0 a0_1 a1 a2 a3 = some r) :
    Calls Try.prog 87 #[.agg #[.int .i64 a0_0, .int .i64 a0_1], .int .i64 a1, .int .u64 a2, .int .u64 a3] w fun e w' => e = .returned (.int .i64 r) ∧ Below w.heap.size w w' := by
  have hu42 := Try.underlying42
  have HB := Aside0.mk (Below.refl w.heap.size w)
  have H : (if 0 ≤ (wrap64 ((wrap64 (a0_0 + a0_1)) - 1)) then (if 0 ≤ (wrap64 (a0_0 - 1)) then (some (wrap64 (Go.bits .or .u64 (Go.bits .or .u64 (shl .u64 (IntKind.u64.wrap (a1)) (wrap64 ((wrap64 (a0_0 + a0_1)) - 1))) (shl .u64 a2 (wrap64 (a0_0 - 1)))) a3))) else (none)) else (none)) = some r := h
  clear h
  obtain ⟨ji5, hji5⟩ : ∃ j_ : Int, (wrap64 ((wrap64 (a0_0 + a0_1)) - 1)) = j_ := ⟨_, rfl⟩
  replace H : (if 0 ≤ (ji5) then (if 0 ≤ (wrap64 (a0_0 - 1)) then (some (wrap64 (Go.bits .or .u64 (Go.bits .or .u64 (shl .u64 (IntKind.u64.wrap (a1)) (ji5)) (shl .u64 a2 (wrap64 (a0_0 - 1)))) a3))) else (none)) else (none)) = some r := by first | (rw [hji5] at H; exact H) | (simp only [hji5] at H ⊢; exact H)
  have hji5w : (IntKind.i64.wrap ((wrap64 (a0_0 + a0_1)) - 1)) = ji5 := (i64_w _).trans hji5
  by_cases c6 : 0 ≤ (ji5)
  · rw [if_pos c6] at H
    have c6b0 := eq_true c6
    have c6b1 : decide (0 ≤ (ji5)) = true := decide_eq_true c6
    clear c6
    obtain ⟨ji7, hji7⟩ : ∃ j_ : Int, (shl .u64 (IntKind.u64.wrap (a1)) (ji5)) = j_ := ⟨_, rfl⟩
    replace H : (if 0 ≤ (wrap64 (a0_0 - 1)) then (some (wrap64 (Go.bits .or .u64 (Go.bits .or .u64 (ji7) (shl .u64 a2 (wrap64 (a0_0 - 1)))) a3))) else (none)) = some r := by first | (rw [hji7] at H; exact H) | (simp only [hji7] at H ⊢; exact H)
    have hji7_ : (IntKind.u64.wrap ((IntKind.u64.wrap (a1)) * 2 ^ min (ji5).toNat 64)) = ji7 := hji7
    have hji7z : (ji5) ≤ 64 → (IntKind.u64.wrap ((IntKind.u64.wrap (a1)) * 2 ^ (ji5).toNat)) = ji7 := shl_small hji7
    obtain ⟨ji8, hji8⟩ : ∃ j_ : Int, (wrap64 (a0_0 - 1)) = j_ := ⟨_, rfl⟩
    replace H : (if 0 ≤ (ji8) then (some (wrap64 (Go.bits .or .u64 (Go.bits .or .u64 (ji7) (shl .u64 a2 (ji8))) a3))) else (none)) = some r := by first | (rw [hji8] at H; exact H) | (simp only [hji8] at H ⊢; exact H)
    have hji8w : (IntKind.i64.wrap (a0_0 - 1)) = ji8 := (i64_w _).trans hji8
    by_cases c9 : 0 ≤ (ji8)
    · rw [if_pos c9] at H
      have c9b0 := eq_true c9
      have c9b1 : decide (0 ≤ (ji8)) = true := decide_eq_true c9
      clear c9
      obtain ⟨ji10, hji10⟩ : ∃ j_ : Int, (shl .u64 a2 (ji8)) = j_ := ⟨_, rfl⟩
      replace H : (some (wrap64 (Go.bits .or .u64 (Go.bits .or .u64 (ji7) (ji10)) a3))) = some r := by first | (rw [hji10] at H; exact H) | (simp only [hji10] at H ⊢; exact H)
      have hji10_ : (IntKind.u64.wrap (a2 * 2 ^ min (ji8).toNat 64)) = ji10 := hji10
      have hji10z : (ji8) ≤ 64 → (IntKind.u64.wrap (a2 * 2 ^ (ji8).toNat)) = ji10 := shl_small hji10
      obtain rfl := Option.some.inj H
      go_enter Try.func87, Try.ntmps87
      go_wp2_with (first | ((with_reducible refine gate_dst (N := 4) rfl ?_); refine box_event ?hg (N := 4) ?hd (cs := #[.int .i64 a0_0, .int .i64 a0_1]) (t := 42) ?hr ?_; (case hd => rfl); (case hg => rfl); (case hr => first | (go_simp; done) | (go_simp; rfl)); intro gb114 hg w11 hbox hb; have n0_ := Aside0.mk (below_step (by repeat (first | (with_reducible first | exact HB.out | apply below_alloc | apply pw_below_drewN | apply below_drew1) | exact HB.out)) hb); have n1_ := Aside0.mk (hbox); have n2_ := Aside0.mk ((by rw [hg]; exact (below_size (by repeat (first | (with_reducible first | exact HB.out | apply below_alloc | apply pw_below_drewN | apply below_drew1) | exact HB.out))) : w.heap.size ≤ gb114)); have n3_ := Aside0.mk ((by rw [hg]; exact (below_size (by repeat (first | (with_reducible first | exact HB.out | apply below_alloc | apply pw_below_drewN | apply below_drew1) | exact HB.out))) : w.heap.size ≤ gb114)); clear HB; have HB := n0_; have BK114 := n1_; have GW114 := n2_; have GE114 := n3_; clear n0_ n1_ n2_ n3_; clear hb hbox hg; have hcz12_0 : w11.cell? ⟨gb114, 0, none⟩ = some (.int .i64 a0_0) := (blk_cell BK114.out 0).trans rfl; have hcz12_1 : w11.cell? ⟨gb114, 1, none⟩ = some (.int .i64 a0_1) := (blk_cell BK114.out 1).trans rfl; have hfz12_0 := blk_frozen BK114.out 0; have hfz12_1 := blk_frozen BK114.out 1))
      repeat (go_quiet (first | ((with_reducible refine gate_dst (N := 4) rfl ?_); refine box_event ?hg (N := 4) ?hd (cs := #[.int .i64 a0_0, .int .i64 a0_1]) (t := 42) ?hr ?_; (case hd => rfl); (case hg => rfl); (case hr => first | (go_simp; done) | (go_simp; rfl)); intro gb114 hg w11 hbox hb; have n0_ := Aside0.mk (below_step (by repeat (first | (with_reducible first | exact HB.out | apply below_alloc | apply pw_below_drewN | apply below_drew1) | exact HB.out)) hb); have n1_ := Aside0.mk (hbox); have n2_ := Aside0.mk ((by rw [hg]; exact (below_size (by repeat (first | (with_reducible first | exact HB.out | apply below_alloc | apply pw_below_drewN | apply below_drew1) | exact HB.out))) : w.heap.size ≤ gb114)); have n3_ := Aside0.mk ((by rw [hg]; exact (below_size (by repeat (first | (with_reducible first | exact HB.out | apply below_alloc | apply pw_below_drewN | apply below_drew1) | exact HB.out))) : w.heap.size ≤ gb114)); clear HB; have HB := n0_; have BK114 := n1_; have GW114 := n2_; have GE114 := n3_; clear n0_ n1_ n2_ n3_; clear hb hbox hg; have hcz12_0 : w11.cell? ⟨gb114, 0, none⟩ = some (.int .i64 a0_0) := (blk_cell BK114.out 0).trans rfl; have hcz12_1 : w11.cell? ⟨gb114, 1, none⟩ = some (.int .i64 a0_1) := (blk_cell BK114.out 1).trans rfl; have hfz12_0 := blk_frozen BK114.out 0; have hfz12_1 := blk_frozen BK114.out 1)); try go_wp2_with (first | ((with_reducible refine gate_dst (N := 4) rfl ?_); refine box_event ?hg (N := 4) ?hd (cs := #[.int .i64 a0_0, .int .i64 a0_1]) (t := 42) ?hr ?_; (case hd => rfl); (case hg => rfl); (case hr => first | (go_simp; done) | (go_simp; rfl)); intro gb114 hg w11 hbox hb; have n0_ := Aside0.mk (below_step (by repeat (first | (with_reducible first | exact HB.out | apply below_alloc | apply pw_below_drewN | apply below_drew1) | exact HB.out)) hb); have n1_ := Aside0.mk (hbox); have n2_ := Aside0.mk ((by rw [hg]; exact (below_size (by repeat (first | (with_reducible first | exact HB.out | apply below_alloc | apply pw_below_drewN | apply below_drew1) | exact HB.out))) : w.heap.size ≤ gb114)); have n3_ := Aside0.mk ((by rw [hg]; exact (below_size (by repeat (first | (with_reducible first | exact HB.out | apply below_alloc | apply pw_below_drewN | apply below_drew1) | exact HB.out))) : w.heap.size ≤ gb114)); clear HB; have HB := n0_; have BK114 := n1_; have GW114 := n2_; have GE114 := n3_; clear n0_ n1_ n2_ n3_; clear hb hbox hg; have hcz12_0 : w11.cell? ⟨gb114, 0, none⟩ = some (.int .i64 a0_0) := (blk_cell BK114.out 0).trans rfl; have hcz12_1 : w11.cell? ⟨gb114, 1, none⟩ = some (.int .i64 a0_1) := (blk_cell BK114.out 1).trans rfl; have hfz12_0 := blk_frozen BK114.out 0; have hfz12_1 := blk_frozen BK114.out 1)))
      go_ret
      exact ⟨by first | rfl | (simp [errW_none, errW_some] <;> rfl) | (simp only [← hji5, ← hji7, ← hji8, ← hji10]; first | rfl | (simp [errW_none, errW_some] <;> rfl)) | (simp [*, errW_none, errW_some] <;> rfl), by repeat (first | (with_reducible first | exact HB.out | apply below_alloc | apply pw_below_drewN | apply below_drew1 | refine below_set ?_ GE114.out) | exact HB.out)⟩
    · rw [if_neg c9] at H
      exact absurd H (by simp)
  · rw [if_neg c6] at H
    exact absurd H (by simp)

/-! ### float_shape_zero: function 54 -/
def float_shape_zero.f (a0_0 : Int) (a0_1 : Int) (a1 : Int) : Option (Int) := (float_shape_pack.f a0_0 a0_1 a1 0 0).bind fun t116 => (some t116)
set_option maxHeartbeats 8000000 in
set_option maxRecDepth 100000 in
theorem float_shape_zero.calls (a0_0 : Int) (a0_1 : Int) (a1 : Int) (r : Int) (w : World) (h : float_shape_zero.f a0_0 a0_1 a1 = some r) :
    Calls Try.prog 54 #[.agg #[.int .i64 a0_0, .int .i64 a0_1], .int .i64 a1] w fun e w' => e = .returned (.int .i64 r) ∧ Below w.heap.size w w' := by
  have hu42 := Try.underlying42
  have HB := Aside0.mk (Below.refl w.heap.size w)
  have H : ((float_shape_pack.f a0_0 a0_1 a1 0 0).bind fun t116 => (some t116)) = some r := h
  clear h
  replace H := Option.bind_eq_some_iff.mp H
  obtain ⟨t116, A30, H⟩ := H
  replace H : (some t116) = some r := H
  have A3 := Aside0.mk A30
  clear A30
  obtain rfl := Option.some.inj H
  go_enter Try.func54, Try.ntmps54
  go_wp2_with (first | ((with_reducible refine gate_dst (N := 2) rfl ?_); refine box_event ?hg (N := 2) ?hd (cs := #[.int .i64 a0_0, .int .i64 a0_1]) (t := 42) ?hr ?_; (case hd => rfl); (case hg => rfl); (case hr => first | (go_simp; done) | (go_simp; rfl)); intro gb115 hg w4 hbox hb; have n0_ := Aside0.mk (below_step (by repeat (first | (with_reducible first | exact HB.out | apply below_alloc | apply pw_below_drewN | apply below_drew1) | exact HB.out)) hb); have n1_ := Aside0.mk (hbox); have n2_ := Aside0.mk ((by rw [hg]; exact (below_size (by repeat (first | (with_reducible first | exact HB.out | apply below_alloc | apply pw_below_drewN | apply below_drew1) | exact HB.out))) : w.heap.size ≤ gb115)); have n3_ := Aside0.mk ((by rw [hg]; exact (below_size (by repeat (first | (with_reducible first | exact HB.out | apply below_alloc | apply pw_below_drewN | apply below_drew1) | exact HB.out))) : w.heap.size ≤ gb115)); clear HB; have HB := n0_; have BK115 := n1_; have GW115 := n2_; have GE115 := n3_; clear n0_ n1_ n2_ n3_; clear hb hbox hg; have hcz5_0 : w4.cell? ⟨gb115, 0, none⟩ = some (.int .i64 a0_0) := (blk_cell BK115.out 0).trans rfl; have hcz5_1 : w4.cell? ⟨gb115, 1, none⟩ = some (.int .i64 a0_1) := (blk_cell BK115.out 1).trans rfl; have hfz5_0 := blk_frozen BK115.out 0; have hfz5_1 := blk_frozen BK115.out 1) | ((with_reducible refine gate_callee (f := 87) rfl ?_); refine goesL_ (some 7) rfl rfl Try.func87 (by kernel_rfl) rfl #[.agg #[.int .i64 a0_0, .int .i64 a0_1], .int .i64 a1, .int .u64 0, .int .u64 0] rfl (by (try simp only [List.map_toArray, List.map_cons, List.map_nil]); first | done | rfl | (simp only [List.length_drop, List.length_take]; rfl)) ?_; (with_reducible refine (float_shape_pack.calls a0_0 a0_1 a1 0 0 t116 _ A3.out).mono ?_); rintro e w6 ⟨rfl, hb⟩; refine ⟨_, rfl, ?_⟩; have n0_ := Aside0.mk (blk_below (g := gb115) (o := .cells #[.int .i64 a0_0, .int .i64 a0_1] 42 (0, 0)) (by (with_reducible repeat (first | refine blk_drewN ?_ _ | refine blk_drew ?_ | refine blk_alloc ?_ _)); exact BK115.out) hb); have n1_ := Aside0.mk (below_step (by repeat (first | (with_reducible first | exact HB.out | apply below_alloc | apply pw_below_drewN | apply below_drew1 | refine below_set ?_ GE115.out) | exact HB.out)) hb); clear BK115; clear HB; have BK115 := n0_; have HB := n1_; clear n0_ n1_; (try clear hb); (try clear hb2); (try clear hk); (try clear hi)))
  go_ret
  exact ⟨by first | rfl | (simp [errW_none, errW_some] <;> rfl) | (simp [*, errW_none, errW_some] <;> rfl), by repeat (first | (with_reducible first | exact HB.out | apply below_alloc | apply pw_below_drewN | apply below_drew1 | refine below_set ?_ GE115.out) | exact HB.out)⟩

/-! ### float_shape_infinite: function 60 -/
def float_shape_infinite.f (a0_0 : Int) (a0_1 : Int) (a1 : Int) : Option (Int) := (float_shape_top.f a0_0 a0_1).bind fun t118 => ((float_shape_pack.f a0_0 a0_1 a1 t118 0).bind fun t119 => (some t119))
set_option maxHeartbeats 8000000 in
set_option maxRecDepth 100000 in
theorem float_shape_infinite.calls (a0_0 : Int) (a0_1 : Int) (a1 : Int) (r : Int) (w : World) (h : float_shape_infinite.f a0_0 a0_1 a1 = some r) :
    Calls Try.prog 60 #[.agg #[.int .i64 a0_0, .int .i64 a0_1], .int .i64 a1] w fun e w' => e = .returned (.int .i64 r) ∧ Below w.heap.size w w' := by
  have hu42 := Try.underlying42
  have HB := Aside0.mk (Below.refl w.heap.size w)
  have H : ((float_shape_top.f a0_0 a0_1).bind fun t118 => ((float_shape_pack.f a0_0 a0_1 a1 t118 0).bind fun t119 => (some t119))) = some r := h
  clear h
  replace H := Option.bind_eq_some_iff.mp H
  obtain ⟨t118, A30, H⟩ := H
  replace H : ((float_shape_pack.f a0_0 a0_1 a1 t118 0).bind fun t119 => (some t119)) = some r := H
  have A3 := Aside0.mk A30
  clear A30
  replace H := Option.bind_eq_some_iff.mp H
  obtain ⟨t119, A40, H⟩ := H
  replace H : (some t119) = some r := H
  have A4 := Aside0.mk A40
  clear A40
  obtain rfl := Option.some.inj H
  go_enter Try.func60, Try.ntmps60
  try go_wp2_with (first | ((with_reducible refine gate_dst (N := 2) rfl ?_); refine box_event ?hg (N := 2) ?hd (cs := #[.int .i64 a0_0, .int .i64 a0_1]) (t := 42) ?hr ?_; (case hd => rfl); (case hg => rfl); (case hr => first | (go_simp; done) | (go_simp; rfl)); intro gb117 hg w5 hbox hb; have n0_ := Aside0.mk (below_step (by repeat (first | (with_reducible first | exact HB.out | apply below_alloc | apply pw_below_drewN | apply below_drew1) | exact HB.out)) hb); have n1_ := Aside0.mk (hbox); have n2_ := Aside0.mk ((by rw [hg]; exact (below_size (by repeat (first | (with_reducible first | exact HB.out | apply below_alloc | apply pw_below_drewN | apply below_drew1) | exact HB.out))) : w.heap.size ≤ gb117)); have n3_ := Aside0.mk ((by rw [hg]; exact (below_size (by repeat (first | (with_reducible first | exact HB.out | apply below_alloc | apply pw_below_drewN | apply below_drew1) | exact HB.out))) : w.heap.size ≤ gb117)); clear HB; have HB := n0_; have BK117 := n1_; have GW117 := n2_; have GE117 := n3_; clear n0_ n1_ n2_ n3_; clear hb hbox hg))
  have n0_ := Aside0.mk (blk_drew BK117.out)
  have n1_ := Aside0.mk (below_drew1 HB.out)
  clear BK117
  clear HB
  have BK117 := n0_
  have HB := n1_
  clear n0_ n1_
  refine start_ (n := 6) (S := fun w' => w'.cell? ⟨gb117, 0, none⟩ = some (.int .i64 a0_0) ∧ w'.cell? ⟨gb117, 1, none⟩ = some (.int .i64 a0_1)) (ds := []) #[false, false, false, false, false, false] (by kernel_rfl) rfl rfl ⟨(blk_cell BK117.out 0).trans rfl, (blk_cell BK117.out 1).trans rfl⟩ (fun hHeld => ?_)
  generalize w5.drew = w6 at BK117 HB hHeld ⊢
  refine pure_ (i := 1) (N := some 6) (v := ?_) (a' := ?_) #[false, true, false, false, false, false] rfl rfl (by kernel_rfl) (fun _ _ _ h => h) (Or.inl ⟨by rfl, ?_⟩) ?_ ?_
  rotate_left
  · intro w'
    go_simp
    with_reducible rfl
  rotate_left
  · simp only [Act.put, List.setIfInBounds_toArray, List.set_cons_zero, List.set_cons_succ, i64_w, i32_w]
    rfl
  refine take_ (i := 0) (N := some 5) (v := ?_) (a' := ?_) #[true, true, false, false, false, false] rfl rfl (by kernel_rfl) (fun _ _ _ h => h) (Or.inl ⟨by rfl, ?_⟩) hHeld ?_ ?_
  rotate_left
  · rintro w' ⟨s0, s1⟩
    go_simp
    with_reducible rfl
  rotate_left
  · simp only [Act.put, List.setIfInBounds_toArray, List.set_cons_zero, List.set_cons_succ, i64_w, i32_w]
    rfl
  refine take_ (i := 2) (N := some 7) (v := ?_) (a' := ?_) #[true, true, true, false, false, false] rfl rfl (by kernel_rfl) (fun _ _ _ h => h) (Or.inl ⟨by rfl, ?_⟩) hHeld ?_ ?_
  rotate_left
  · rintro w' ⟨s0, s1⟩
    go_simp
    with_reducible rfl
  rotate_left
  · simp only [Act.put, List.setIfInBounds_toArray, List.set_cons_zero, List.set_cons_succ, i64_w, i32_w]
    rfl
  refine one_ (i := 3) (N := some 8) #[true, true, true, true, false, false] rfl rfl (by kernel_rfl) (by decide) (fun K hK => ?_)
  refine goes_ Try.func64 (by kernel_rfl) rfl #[.agg #[.int .i64 a0_0, .int .i64 a0_1]] (by rfl) rfl rfl (by (try simp only [List.map_toArray, List.map_cons, List.map_nil]); first | done | rfl | (simp only [List.length_drop, List.length_take]; rfl)) ?_
  with_reducible refine (float_shape_top.calls a0_0 a0_1 t118 _ A3.out).mono ?_
  rintro e w7 ⟨rfl, hb⟩
  refine ⟨_, rfl, ?_⟩
  have n0_ := Aside0.mk (blk_below (g := gb117) (o := .cells #[.int .i64 a0_0, .int .i64 a0_1] 42 (0, 0)) (by (with_reducible repeat (first | refine blk_drewN ?_ _ | refine blk_drew ?_ | refine blk_alloc ?_ _)); exact BK117.out) hb)
  have n1_ := Aside0.mk (below_step (by repeat (first | (with_reducible first | exact HB.out | apply below_alloc | apply pw_below_drewN | apply below_drew1 | refine below_set ?_ GE117.out) | exact HB.out)) hb)
  clear BK117
  clear HB
  have BK117 := n0_
  have HB := n1_
  clear n0_ n1_
  (try clear hb)
  (try clear hb2)
  (try clear hk)
  (try clear hi)
  refine hK.out _ _ ⟨(blk_cell BK117.out 0).trans rfl, (blk_cell BK117.out 1).trans rfl⟩ (fun hHeld => ?_)
  clear hK K
  refine norm_ (a' := ?_) ?_ ?_
  rotate_left
  · show Act.put _ (some 8) _ = _
    simp only [Act.put, List.setIfInBounds_toArray, List.set_cons_zero, List.set_cons_succ, i64_w, i32_w]
    rfl
  refine one_ (i := 4) (N := some 9) #[true, true, true, true, true, false] rfl rfl (by kernel_rfl) (by decide) (fun K hK => ?_)
  refine goes_ Try.func87 (by kernel_rfl) rfl #[.agg #[.int .i64 a0_0, .int .i64 a0_1], .int .i64 a1, .int .u64 t118, .int .u64 0] (by rfl) rfl rfl (by (try simp only [List.map_toArray, List.map_cons, List.map_nil]); first | done | rfl | (simp only [List.length_drop, List.length_take]; rfl)) ?_
  with_reducible refine (float_shape_pack.calls a0_0 a0_1 a1 t118 0 t119 _ A4.out).mono ?_
  rintro e w8 ⟨rfl, hb⟩
  refine ⟨_, rfl, ?_⟩
  have n0_ := Aside0.mk (blk_below (g := gb117) (o := .cells #[.int .i64 a0_0, .int .i64 a0_1] 42 (0, 0)) (by (with_reducible repeat (first | refine blk_drewN ?_ _ | refine blk_drew ?_ | refine blk_alloc ?_ _)); exact BK117.out) hb)
  have n1_ := Aside0.mk (below_step (by repeat (first | (with_reducible first | exact HB.out | apply below_alloc | apply pw_below_drewN | apply below_drew1 | refine below_set ?_ GE117.out) | exact HB.out)) hb)
  clear BK117
  clear HB
  have BK117 := n0_
  have HB := n1_
  clear n0_ n1_
  (try clear hb)
  (try clear hb2)
  (try clear hk)
  (try clear hi)
  refine hK.out _ _ ⟨(blk_cell BK117.out 0).trans rfl, (blk_cell BK117.out 1).trans rfl⟩ (fun hHeld => ?_)
  clear hK K
  refine norm_ (a' := ?_) ?_ ?_
  rotate_left
  · show Act.put _ (some 9) _ = _
    simp only [Act.put, List.setIfInBounds_toArray, List.set_cons_zero, List.set_cons_succ, i64_w, i32_w]
    rfl
  refine pure_ (i := 5) (N := some 4) (v := ?_) (a' := ?_) #[true, true, true, true, true, true] rfl rfl (by kernel_rfl) (fun _ _ _ h => h) (Or.inl ⟨by rfl, ?_⟩) ?_ ?_
  rotate_left
  · intro w'
    go_simp
    with_reducible rfl
  rotate_left
  · simp only [Act.put, List.setIfInBounds_toArray, List.set_cons_zero, List.set_cons_succ, i64_w, i32_w]
    rfl
  refine done_ (by kernel_rfl) ?_
  try go_wp2
  go_ret
  exact ⟨by first | rfl | (simp [errW_none, errW_some] <;> rfl) | (simp [*, errW_none, errW_some] <;> rfl), by repeat (first | (with_reducible first | exact HB.out | apply below_alloc | apply pw_below_drewN | apply below_drew1 | refine below_set ?_ GE117.out) | exact HB.out)⟩

/-! ### float_exact_right: function 66 -/
mutual
def float_exact_right.j1 : Nat → Int → Int → Bool → Bool → Option (Int × Int)
  | 0, _, _, _, _ => none
  | k + 1, x1, x7, x8, x9 => if x1 > 0 then (float_exact_right.j2 k x7 false true) else (float_exact_right.j2 k x7 x8 x9)
def float_exact_right.j2 : Nat → Int → Bool → Bool → Option (Int × Int)
  | 0, _, _, _ => none
  | k + 1, x7, x8, x9 => if x8 = true then (float_exact_right.j3 k x7 x8 x9 x9) else (float_exact_right.j3 k x7 x8 x9 false)
def float_exact_right.j3 : Nat → Int → Bool → Bool → Bool → Option (Int × Int)
  | 0, _, _, _, _ => none
  | k + 1, x7, x8, x9, x48 => if x48 = true then (some (x7, 3)) else (if x8 = true then (some (x7, 2)) else (if x9 = true then (some (x7, 1)) else (some (x7, 0))))
def float_exact_right.l0 : Nat → Int → Int → Int → Bool → Bool → Option (Int × Int)
  | 0, _, _, _, _, _ => none
  | k + 1, x1, x6, x7, x8, x9 => if x1 > 0 then (if x6 = 0 then (if x7 = 0 then (if x8 = true then (if x9 = true then (float_exact_right.l0 k (wrap64 (x1 - 1)) (x6 / 2) (Go.bits .or .u64 (x7 / 2) (IntKind.u64.wrap (x6 * 9223372036854775808))) ((Go.bits .and .u64 x7 1) == 1) true) else (float_exact_right.l0 k (wrap64 (x1 - 1)) (x6 / 2) (Go.bits .or .u64 (x7 / 2) (IntKind.u64.wrap (x6 * 9223372036854775808))) ((Go.bits .and .u64 x7 1) == 1) x8)) else (float_exact_right.j1 k x1 x7 x8 x9)) else (if x9 = true then (float_exact_right.l0 k (wrap64 (x1 - 1)) (x6 / 2) (Go.bits .or .u64 (x7 / 2) (IntKind.u64.wrap (x6 * 9223372036854775808))) ((Go.bits .and .u64 x7 1) == 1) true) else (float_exact_right.l0 k (wrap64 (x1 - 1)) (x6 / 2) (Go.bits .or .u64 (x7 / 2) (IntKind.u64.wrap (x6 * 9223372036854775808))) ((Go.bits .and .u64 x7 1) == 1) x8))) else (if x9 = true then (float_exact_right.l0 k (wrap64 (x1 - 1)) (x6 / 2) (Go.bits .or .u64 (x7 / 2) (IntKind.u64.wrap (x6 * 9223372036854775808))) ((Go.bits .and .u64 x7 1) == 1) true) else (float_exact_right.l0 k (wrap64 (x1 - 1)) (x6 / 2) (Go.bits .or .u64 (x7 / 2) (IntKind.u64.wrap (x6 * 9223372036854775808))) ((Go.bits .and .u64 x7 1) == 1) x8))) else (float_exact_right.j1 k x1 x7 x8 x9)
end
def float_exact_right.f (k : Nat) (a0_0 : Int) (a0_1 : Int) (a0_2 : Int) (a0_3 : Bool) (a1 : Int) : Option (Int × Int) := float_exact_right.l0 k a1 a0_0 a0_1 false a0_3
theorem float_exact_right.mono_l : ∀ k, (∀ y0 y1 y2 y3, LeO (float_exact_right.j1 k y0 y1 y2 y3) (float_exact_right.j1 (k + 1) y0 y1 y2 y3)) ∧ (∀ y0 y1 y2, LeO (float_exact_right.j2 k y0 y1 y2) (float_exact_right.j2 (k + 1) y0 y1 y2)) ∧ (∀ y0 y1 y2 y3, LeO (float_exact_right.j3 k y0 y1 y2 y3) (float_exact_right.j3 (k + 1) y0 y1 y2 y3)) ∧ (∀ y0 y1 y2 y3 y4, LeO (float_exact_right.l0 k y0 y1 y2 y3 y4) (float_exact_right.l0 (k + 1) y0 y1 y2 y3 y4))
  | 0 => ⟨fun _ _ _ _ r h => by simp [float_exact_right.j1] at h, fun _ _ _ r h => by simp [float_exact_right.j2] at h, fun _ _ _ _ r h => by simp [float_exact_right.j3] at h, fun _ _ _ _ _ r h => by simp [float_exact_right.l0] at h⟩
  | k + 1 => by
    obtain ⟨ih0, ih1, ih2, ih3⟩ := float_exact_right.mono_l k
    refine ⟨?_, ?_, ?_, ?_⟩
    · intro y0 y1 y2 y3
      unfold float_exact_right.j1
      repeat' first
      | (with_reducible exact ih0 _ _ _ _)
      | (with_reducible exact ih1 _ _ _)
      | (with_reducible exact ih2 _ _ _ _)
      | (with_reducible exact ih3 _ _ _ _ _)
      | (with_reducible exact LeO.refl _)
      | (with_reducible exact LeO.none _)
      | (with_reducible refine LeO.ite ?_ ?_)
      | (with_reducible refine LeO.bind ?_ (fun _ => ?_))
      | exact ih0 _ _ _ _
      | exact ih1 _ _ _
      | exact ih2 _ _ _ _
      | exact ih3 _ _ _ _ _
      | exact LeO.none _
      | refine LeO.ite ?_ ?_
      | refine LeO.bind ?_ (fun _ => ?_)
    · intro y0 y1 y2
      unfold float_exact_right.j2
      repeat' first
      | (with_reducible exact ih0 _ _ _ _)
      | (with_reducible exact ih1 _ _ _)
      | (with_reducible exact ih2 _ _ _ _)
      | (with_reducible exact ih3 _ _ _ _ _)
      | (with_reducible exact LeO.refl _)
      | (with_reducible exact LeO.none _)
      | (with_reducible refine LeO.ite ?_ ?_)
      | (with_reducible refine LeO.bind ?_ (fun _ => ?_))
      | exact ih0 _ _ _ _
      | exact ih1 _ _ _
      | exact ih2 _ _ _ _
      | exact ih3 _ _ _ _ _
      | exact LeO.none _
      | refine LeO.ite ?_ ?_
      | refine LeO.bind ?_ (fun _ => ?_)
    · intro y0 y1 y2 y3
      unfold float_exact_right.j3
      repeat' first
      | (with_reducible exact ih0 _ _ _ _)
      | (with_reducible exact ih1 _ _ _)
      | (with_reducible exact ih2 _ _ _ _)
      | (with_reducible exact ih3 _ _ _ _ _)
      | (with_reducible exact LeO.refl _)
      | (with_reducible exact LeO.none _)
      | (with_reducible refine LeO.ite ?_ ?_)
      | (with_reducible refine LeO.bind ?_ (fun _ => ?_))
      | exact ih0 _ _ _ _
      | exact ih1 _ _ _
      | exact ih2 _ _ _ _
      | exact ih3 _ _ _ _ _
      | exact LeO.none _
      | refine LeO.ite ?_ ?_
      | refine LeO.bind ?_ (fun _ => ?_)
    · intro y0 y1 y2 y3 y4
      unfold float_exact_right.l0
      repeat' first
      | (with_reducible exact ih0 _ _ _ _)
      | (with_reducible exact ih1 _ _ _)
      | (with_reducible exact ih2 _ _ _ _)
      | (with_reducible exact ih3 _ _ _ _ _)
      | (with_reducible exact LeO.refl _)
      | (with_reducible exact LeO.none _)
      | (with_reducible refine LeO.ite ?_ ?_)
      | (with_reducible refine LeO.bind ?_ (fun _ => ?_))
      | exact ih0 _ _ _ _
      | exact ih1 _ _ _
      | exact ih2 _ _ _ _
      | exact ih3 _ _ _ _ _
      | exact LeO.none _
      | refine LeO.ite ?_ ?_
      | refine LeO.bind ?_ (fun _ => ?_)
theorem float_exact_right.mono : ∀ a0 a1 a2 a3 a4 k, LeO (float_exact_right.f k a0 a1 a2 a3 a4) (float_exact_right.f (k + 1) a0 a1 a2 a3 a4) := by
  intro a0 a1 a2 a3 a4 k
  obtain ⟨ih0, ih1, ih2, ih3⟩ := float_exact_right.mono_l k
  unfold float_exact_right.f
  repeat' first
      | (with_reducible exact ih0 _ _ _ _)
      | (with_reducible exact ih1 _ _ _)
      | (with_reducible exact ih2 _ _ _ _)
      | (with_reducible exact ih3 _ _ _ _ _)
      | (with_reducible exact LeO.refl _)
      | (with_reducible exact LeO.none _)
      | (with_reducible refine LeO.ite ?_ ?_)
      | (with_reducible refine LeO.bind ?_ (fun _ => ?_))
      | exact ih0 _ _ _ _
      | exact ih1 _ _ _
      | exact ih2 _ _ _ _
      | exact ih3 _ _ _ _ _
      | exact LeO.none _
      | refine LeO.ite ?_ ?_
      | refine LeO.bind ?_ (fun _ => ?_)
set_option maxHeartbeats 8000000 in
set_option maxRecDepth 100000 in
theorem float_exact_right.calls (k : Nat) (a0_0 : Int) (a0_1 : Int) (a0_2 : Int) (a0_3 : Bool) (a1 : Int) (r1 : Int) (r2 : Int) (w : World) (h : float_exact_right.f k a0_0 a0_1 a0_2 a0_3 a1 = some (r1, r2)) :
    Calls Try.prog 66 #[.agg #[.int .u64 a0_0, .int .u64 a0_1, .int .i64 a0_2, .bool a0_3], .int .i64 a1] w fun e w' => e = .returned (.tuple #[.int .u64 r1, .int .i64 r2]) ∧ Below w.heap.size w w' := by
  have hu66 := Try.underlying66
  have HB := Aside0.mk (Below.refl w.heap.size w)
  have H : (float_exact_right.l0 k a1 a0_0 a0_1 false a0_3) = some (r1, r2) := h
  clear h
  have HC3 := Aside0.mk H
  clear H
  go_enter Try.func66, Try.ntmps66
  go_upto_block 0 with (first | ((with_reducible refine gate_dst (N := 2) rfl ?_); refine box_event ?hg (N := 2) ?hd (cs := #[.int .u64 a0_0, .int .u64 a0_1, .int .i64 a0_2, .bool a0_3]) (t := 66) ?hr ?_; (case hd => rfl); (case hg => rfl); (case hr => first | (go_simp; done) | (go_simp; rfl)); intro gb120 hg w4 hbox hb; have n0_ := Aside0.mk (below_step (by repeat (first | (with_reducible first | exact HB.out | apply below_alloc | apply pw_below_drewN | apply below_drew1) | exact HB.out)) hb); have n1_ := Aside0.mk (hbox); have n2_ := Aside0.mk ((by rw [hg]; exact (below_size (by repeat (first | (with_reducible first | exact HB.out | apply below_alloc | apply pw_below_drewN | apply below_drew1) | exact HB.out))) : w.heap.size ≤ gb120)); have n3_ := Aside0.mk ((by rw [hg]; exact (below_size (by repeat (first | (with_reducible first | exact HB.out | apply below_alloc | apply pw_below_drewN | apply below_drew1) | exact HB.out))) : w.heap.size ≤ gb120)); clear HB; have HB := n0_; have BK120 := n1_; have GW120 := n2_; have GE120 := n3_; clear n0_ n1_ n2_ n3_; clear hb hbox hg; have hcz5_0 : w4.cell? ⟨gb120, 0, none⟩ = some (.int .u64 a0_0) := (blk_cell BK120.out 0).trans rfl; have hcz5_1 : w4.cell? ⟨gb120, 1, none⟩ = some (.int .u64 a0_1) := (blk_cell BK120.out 1).trans rfl; have hcz5_2 : w4.cell? ⟨gb120, 2, none⟩ = some (.int .i64 a0_2) := (blk_cell BK120.out 2).trans rfl; have hcz5_3 : w4.cell? ⟨gb120, 3, none⟩ = some (.bool a0_3) := (blk_cell BK120.out 3).trans rfl; have hfz5_0 := blk_frozen BK120.out 0; have hfz5_1 := blk_frozen BK120.out 1; have hfz5_2 := blk_frozen BK120.out 2; have hfz5_3 := blk_frozen BK120.out 3))
  repeat (go_quiet (first | ((with_reducible refine gate_dst (N := 2) rfl ?_); refine box_event ?hg (N := 2) ?hd (cs := #[.int .u64 a0_0, .int .u64 a0_1, .int .i64 a0_2, .bool a0_3]) (t := 66) ?hr ?_; (case hd => rfl); (case hg => rfl); (case hr => first | (go_simp; done) | (go_simp; rfl)); intro gb120 hg w4 hbox hb; have n0_ := Aside0.mk (below_step (by repeat (first | (with_reducible first | exact HB.out | apply below_alloc | apply pw_below_drewN | apply below_drew1) | exact HB.out)) hb); have n1_ := Aside0.mk (hbox); have n2_ := Aside0.mk ((by rw [hg]; exact (below_size (by repeat (first | (with_reducible first | exact HB.out | apply below_alloc | apply pw_below_drewN | apply below_drew1) | exact HB.out))) : w.heap.size ≤ gb120)); have n3_ := Aside0.mk ((by rw [hg]; exact (below_size (by repeat (first | (with_reducible first | exact HB.out | apply below_alloc | apply pw_below_drewN | apply below_drew1) | exact HB.out))) : w.heap.size ≤ gb120)); clear HB; have HB := n0_; have BK120 := n1_; have GW120 := n2_; have GE120 := n3_; clear n0_ n1_ n2_ n3_; clear hb hbox hg; have hcz5_0 : w4.cell? ⟨gb120, 0, none⟩ = some (.int .u64 a0_0) := (blk_cell BK120.out 0).trans rfl; have hcz5_1 : w4.cell? ⟨gb120, 1, none⟩ = some (.int .u64 a0_1) := (blk_cell BK120.out 1).trans rfl; have hcz5_2 : w4.cell? ⟨gb120, 2, none⟩ = some (.int .i64 a0_2) := (blk_cell BK120.out 2).trans rfl; have hcz5_3 : w4.cell? ⟨gb120, 3, none⟩ = some (.bool a0_3) := (blk_cell BK120.out 3).trans rfl; have hfz5_0 := blk_frozen BK120.out 0; have hfz5_1 := blk_frozen BK120.out 1; have hfz5_2 := blk_frozen BK120.out 2; have hfz5_3 := blk_frozen BK120.out 3)); go_upto_block 0 with (first | ((with_reducible refine gate_dst (N := 2) rfl ?_); refine box_event ?hg (N := 2) ?hd (cs := #[.int .u64 a0_0, .int .u64 a0_1, .int .i64 a0_2, .bool a0_3]) (t := 66) ?hr ?_; (case hd => rfl); (case hg => rfl); (case hr => first | (go_simp; done) | (go_simp; rfl)); intro gb120 hg w4 hbox hb; have n0_ := Aside0.mk (below_step (by repeat (first | (with_reducible first | exact HB.out | apply below_alloc | apply pw_below_drewN | apply below_drew1) | exact HB.out)) hb); have n1_ := Aside0.mk (hbox); have n2_ := Aside0.mk ((by rw [hg]; exact (below_size (by repeat (first | (with_reducible first | exact HB.out | apply below_alloc | apply pw_below_drewN | apply below_drew1) | exact HB.out))) : w.heap.size ≤ gb120)); have n3_ := Aside0.mk ((by rw [hg]; exact (below_size (by repeat (first | (with_reducible first | exact HB.out | apply below_alloc | apply pw_below_drewN | apply below_drew1) | exact HB.out))) : w.heap.size ≤ gb120)); clear HB; have HB := n0_; have BK120 := n1_; have GW120 := n2_; have GE120 := n3_; clear n0_ n1_ n2_ n3_; clear hb hbox hg; have hcz5_0 : w4.cell? ⟨gb120, 0, none⟩ = some (.int .u64 a0_0) := (blk_cell BK120.out 0).trans rfl; have hcz5_1 : w4.cell? ⟨gb120, 1, none⟩ = some (.int .u64 a0_1) := (blk_cell BK120.out 1).trans rfl; have hcz5_2 : w4.cell? ⟨gb120, 2, none⟩ = some (.int .i64 a0_2) := (blk_cell BK120.out 2).trans rfl; have hcz5_3 : w4.cell? ⟨gb120, 3, none⟩ = some (.bool a0_3) := (blk_cell BK120.out 3).trans rfl; have hfz5_0 := blk_frozen BK120.out 0; have hfz5_1 := blk_frozen BK120.out 1; have hfz5_2 := blk_frozen BK120.out 2; have hfz5_3 := blk_frozen BK120.out 3)))
  (try simp only [Act.put, List.setIfInBounds_toArray, List.set_cons_zero, List.set_cons_succ])
  go_cut [1, 7, 8, 9] (fun v1 v7 v8 v9 wc => ∃ (kq : Nat) (x1_2 : Int) (x7_2 : Int) (x8_2 : Bool) (x9_2 : Bool), v1 = .int .i64 x1_2 ∧ v7 = .int .u64 x7_2 ∧ v8 = .bool x8_2 ∧ v9 = .bool x9_2 ∧ Aside0 (float_exact_right.j1 kq x1_2 x7_2 x8_2 x9_2 = some (r1, r2)) ∧ Aside0 (kq ≤ k) ∧ Aside0 (wc.heap[gb120]? = some (.cells #[.int .u64 a0_0, .int .u64 a0_1, .int .i64 a0_2, .bool a0_3] 66 (0, 0))) ∧ Aside0 (Below w.heap.size w wc))
  case first =>
    have H := HC3.out
    clear HC3
    have H' := Aside0.mk H
    clear H
    go_wp2
    repeat (go_quiet (fail); try go_wp2)
    go_loopg [1, 6, 7, 8, 9] k (fun kq v1 v6 v7 v8 v9 w' => ∃ (x1_1 : Int) (x6_1 : Int) (x7_1 : Int) (x8_1 : Bool) (x9_1 : Bool), v1 = .int .i64 x1_1 ∧ v6 = .int .u64 x6_1 ∧ v7 = .int .u64 x7_1 ∧ v8 = .bool x8_1 ∧ v9 = .bool x9_1 ∧ Aside0 (float_exact_right.l0 kq x1_1 x6_1 x7_1 x8_1 x9_1 = some (r1, r2)) ∧ Aside0 (kq ≤ k) ∧ Aside0 (w'.heap[gb120]? = some (.cells #[.int .u64 a0_0, .int .u64 a0_1, .int .i64 a0_2, .bool a0_3] 66 (0, 0))) ∧ Aside0 (Below w.heap.size w w'))
    case atStart => exact ⟨(a1), (a0_0), (a0_1), (false), (a0_3), (by first | rfl | (simp; done) | (simp [*]; done)), (by first | rfl | (simp; done) | (simp [*]; done)), (by first | rfl | (simp; done) | (simp [*]; done)), (by first | rfl | (simp; done) | (simp [*]; done)), (by first | rfl | (simp; done) | (simp [*]; done)), H', ⟨Nat.le_refl _⟩, ⟨by (with_reducible repeat (first | refine blk_drewN ?_ _ | refine blk_drew ?_ | refine blk_alloc ?_ _)); exact BK120.out⟩, ⟨by repeat (first | (with_reducible first | exact HB.out | apply below_alloc | apply pw_below_drewN | apply below_drew1 | refine below_set ?_ GE120.out) | exact HB.out)⟩⟩
    case round =>
      clear H'
      try clear p2
      try clear hcz5_0
      try clear hcz5_1
      try clear hcz5_2
      try clear hcz5_3
      try clear hfz5_0
      try clear hfz5_1
      try clear hfz5_2
      try clear hfz5_3
      obtain ⟨x1_1, x6_1, x7_1, x8_1, x9_1, rfl, rfl, rfl, rfl, rfl, HA, HK1, BK120, HB⟩ := hrel
      cases gk with
      | zero => exact absurd HA.out (by simp [float_exact_right.l0])
      | succ k1 =>
        have H := HA.out
        clear HA
        simp only [float_exact_right.l0] at H
        by_cases c6 : x1_1 > 0
        · rw [if_pos c6] at H
          have c6b0 : decide (0 < x1_1) = true := decide_eq_true c6
          clear c6
          (first | rw [c6b0] | (simp only [i64_w, i32_w]; rw [c6b0]) | skip)
          by_cases c7 : x6_1 = 0
          · rw [if_pos c7] at H
            have c7b0 : (x6_1 == 0) = true := beq_iff_eq.mpr c7
            have c7b1 : (x6_1 != 0) = false := bne_eq_false_iff_eq.mpr c7
            clear c7
            by_cases c8 : x7_1 = 0
            · rw [if_pos c8] at H
              have c8b0 : (x7_1 == 0) = true := beq_iff_eq.mpr c8
              have c8b1 : (x7_1 != 0) = false := bne_eq_false_iff_eq.mpr c8
              clear c8
              by_cases c9 : x8_1 = true
              · subst c9
                have H1 : (if x9_1 = true then (float_exact_right.l0 k1 (wrap64 (x1_1 - 1)) (x6_1 / 2) (Go.bits .or .u64 (x7_1 / 2) (IntKind.u64.wrap (x6_1 * 9223372036854775808))) ((Go.bits .and .u64 x7_1 1) == 1) true) else (float_exact_right.l0 k1 (wrap64 (x1_1 - 1)) (x6_1 / 2) (Go.bits .or .u64 (x7_1 / 2) (IntKind.u64.wrap (x6_1 * 9223372036854775808))) ((Go.bits .and .u64 x7_1 1) == 1) true)) = some (r1, r2) := by rw [if_pos rfl] at H; exact H
                clear H
                have H := H1
                clear H1
                by_cases c10 : x9_1 = true
                · subst c10
                  have H1 : (float_exact_right.l0 k1 (wrap64 (x1_1 - 1)) (x6_1 / 2) (Go.bits .or .u64 (x7_1 / 2) (IntKind.u64.wrap (x6_1 * 9223372036854775808))) ((Go.bits .and .u64 x7_1 1) == 1) true) = some (r1, r2) := by rw [if_pos rfl] at H; exact H
                  clear H
                  have H := H1
                  clear H1
                  have H' := Aside0.mk H
                  clear H
                  go_wp2
                  repeat (go_quiet (fail); try go_wp2)
                  go_roundg k1
                  case measure => have := HK1.out; omega
                  case rel => exact ⟨(wrap64 (x1_1 - 1)), (x6_1 / 2), (Go.bits .or .u64 (x7_1 / 2) (IntKind.u64.wrap (x6_1 * 9223372036854775808))), (((Go.bits .and .u64 x7_1 1) == 1)), (true), (by first | rfl | (simp; done) | (simp [*]; done)), (by first | rfl | (simp; done) | (simp [*]; done)), (by first | rfl | (simp; done) | (simp [*]; done)), (by first | rfl | (simp; done) | (simp [*]; done)), (by first | rfl | (simp; done) | (simp [*]; done)), (by first | exact H'), ⟨by have := HK1.out; omega⟩, ⟨by (with_reducible repeat (first | refine blk_drewN ?_ _ | refine blk_drew ?_ | refine blk_alloc ?_ _)); exact BK120.out⟩, ⟨by repeat (first | (with_reducible first | exact HB.out | apply below_alloc | apply pw_below_drewN | apply below_drew1 | refine below_set ?_ GE120.out) | exact HB.out)⟩⟩
                · replace c10 := Bool.eq_false_iff.mpr c10
                  subst c10
                  have H1 : (float_exact_right.l0 k1 (wrap64 (x1_1 - 1)) (x6_1 / 2) (Go.bits .or .u64 (x7_1 / 2) (IntKind.u64.wrap (x6_1 * 9223372036854775808))) ((Go.bits .and .u64 x7_1 1) == 1) true) = some (r1, r2) := by rw [if_neg (show ¬ (false = true) by decide)] at H; exact H
                  clear H
                  have H := H1
                  clear H1
                  have H' := Aside0.mk H
                  clear H
                  go_wp2
                  repeat (go_quiet (fail); try go_wp2)
                  go_roundg k1
                  case measure => have := HK1.out; omega
                  case rel => exact ⟨(wrap64 (x1_1 - 1)), (x6_1 / 2), (Go.bits .or .u64 (x7_1 / 2) (IntKind.u64.wrap (x6_1 * 9223372036854775808))), (((Go.bits .and .u64 x7_1 1) == 1)), (true), (by first | rfl | (simp; done) | (simp [*]; done)), (by first | rfl | (simp; done) | (simp [*]; done)), (by first | rfl | (simp; done) | (simp [*]; done)), (by first | rfl | (simp; done) | (simp [*]; done)), (by first | rfl | (simp; done) | (simp [*]; done)), (by first | exact H'), ⟨by have := HK1.out; omega⟩, ⟨by (with_reducible repeat (first | refine blk_drewN ?_ _ | refine blk_drew ?_ | refine blk_alloc ?_ _)); exact BK120.out⟩, ⟨by repeat (first | (with_reducible first | exact HB.out | apply below_alloc | apply pw_below_drewN | apply below_drew1 | refine below_set ?_ GE120.out) | exact HB.out)⟩⟩
              · replace c9 := Bool.eq_false_iff.mpr c9
                subst c9
                have H1 : (float_exact_right.j1 k1 x1_1 x7_1 false x9_1) = some (r1, r2) := by rw [if_neg (show ¬ (false = true) by decide)] at H; exact H
                clear H
                have H := H1
                clear H1
                have H' := Aside0.mk H
                clear H
                go_wp2
                repeat (go_quiet (fail); try go_wp2)
                go_meet
                case rel => exact ⟨_, (x1_1), (x7_1), (false), (x9_1), (by first | rfl | (simp; done) | (simp [*]; done)), (by first | rfl | (simp; done) | (simp [*]; done)), (by first | rfl | (simp; done) | (simp [*]; done)), (by first | rfl | (simp; done) | (simp [*]; done)), (by first | exact H'), ⟨by have := HK1.out; first | omega | exact Nat.le_refl _⟩, ⟨by (with_reducible repeat (first | refine blk_drewN ?_ _ | refine blk_drew ?_ | refine blk_alloc ?_ _)); exact BK120.out⟩, ⟨by repeat (first | (with_reducible first | exact HB.out | apply below_alloc | apply pw_below_drewN | apply below_drew1 | refine below_set ?_ GE120.out) | exact HB.out)⟩⟩
            · rw [if_neg c8] at H
              have c8b0 : (x7_1 == 0) = false := beq_eq_false_iff_ne.mpr c8
              have c8b1 : (x7_1 != 0) = true := bne_iff_ne.mpr c8
              by_cases c11 : x9_1 = true
              · subst c11
                have H1 : (float_exact_right.l0 k1 (wrap64 (x1_1 - 1)) (x6_1 / 2) (Go.bits .or .u64 (x7_1 / 2) (IntKind.u64.wrap (x6_1 * 9223372036854775808))) ((Go.bits .and .u64 x7_1 1) == 1) true) = some (r1, r2) := by rw [if_pos rfl] at H; exact H
                clear H
                have H := H1
                clear H1
                have H' := Aside0.mk H
                clear H
                go_wp2
                repeat (go_quiet (fail); try go_wp2)
                go_roundg k1
                case measure => have := HK1.out; omega
                case rel => exact ⟨(wrap64 (x1_1 - 1)), (x6_1 / 2), (Go.bits .or .u64 (x7_1 / 2) (IntKind.u64.wrap (x6_1 * 9223372036854775808))), (((Go.bits .and .u64 x7_1 1) == 1)), (true), (by first | rfl | (simp; done) | (simp [*]; done)), (by first | rfl | (simp; done) | (simp [*]; done)), (by first | rfl | (simp; done) | (simp [*]; done)), (by first | rfl | (simp; done) | (simp [*]; done)), (by first | rfl | (simp; done) | (simp [*]; done)), (by first | exact H'), ⟨by have := HK1.out; omega⟩, ⟨by (with_reducible repeat (first | refine blk_drewN ?_ _ | refine blk_drew ?_ | refine blk_alloc ?_ _)); exact BK120.out⟩, ⟨by repeat (first | (with_reducible first | exact HB.out | apply below_alloc | apply pw_below_drewN | apply below_drew1 | refine below_set ?_ GE120.out) | exact HB.out)⟩⟩
              · replace c11 := Bool.eq_false_iff.mpr c11
                subst c11
                have H1 : (float_exact_right.l0 k1 (wrap64 (x1_1 - 1)) (x6_1 / 2) (Go.bits .or .u64 (x7_1 / 2) (IntKind.u64.wrap (x6_1 * 9223372036854775808))) ((Go.bits .and .u64 x7_1 1) == 1) x8_1) = some (r1, r2) := by rw [if_neg (show ¬ (false = true) by decide)] at H; exact H
                clear H
                have H := H1
                clear H1
                have H' := Aside0.mk H
                clear H
                go_wp2
                repeat (go_quiet (fail); try go_wp2)
                go_roundg k1
                case measure => have := HK1.out; omega
                case rel => exact ⟨(wrap64 (x1_1 - 1)), (x6_1 / 2), (Go.bits .or .u64 (x7_1 / 2) (IntKind.u64.wrap (x6_1 * 9223372036854775808))), (((Go.bits .and .u64 x7_1 1) == 1)), (x8_1), (by first | rfl | (simp; done) | (simp [*]; done)), (by first | rfl | (simp; done) | (simp [*]; done)), (by first | rfl | (simp; done) | (simp [*]; done)), (by first | rfl | (simp; done) | (simp [*]; done)), (by first | rfl | (simp; done) | (simp [*]; done)), (by first | exact H'), ⟨by have := HK1.out; omega⟩, ⟨by (with_reducible repeat (first | refine blk_drewN ?_ _ | refine blk_drew ?_ | refine blk_alloc ?_ _)); exact BK120.out⟩, ⟨by repeat (first | (with_reducible first | exact HB.out | apply below_alloc | apply pw_below_drewN | apply below_drew1 | refine below_set ?_ GE120.out) | exact HB.out)⟩⟩
          · rw [if_neg c7] at H
            have c7b0 : (x6_1 == 0) = false := beq_eq_false_iff_ne.mpr c7
            have c7b1 : (x6_1 != 0) = true := bne_iff_ne.mpr c7
            by_cases c12 : x9_1 = true
            · subst c12
              have H1 : (float_exact_right.l0 k1 (wrap64 (x1_1 - 1)) (x6_1 / 2) (Go.bits .or .u64 (x7_1 / 2) (IntKind.u64.wrap (x6_1 * 9223372036854775808))) ((Go.bits .and .u64 x7_1 1) == 1) true) = some (r1, r2) := by rw [if_pos rfl] at H; exact H
              clear H
              have H := H1
              clear H1
              have H' := Aside0.mk H
              clear H
              go_wp2
              repeat (go_quiet (fail); try go_wp2)
              go_roundg k1
              case measure => have := HK1.out; omega
              case rel => exact ⟨(wrap64 (x1_1 - 1)), (x6_1 / 2), (Go.bits .or .u64 (x7_1 / 2) (IntKind.u64.wrap (x6_1 * 9223372036854775808))), (((Go.bits .and .u64 x7_1 1) == 1)), (true), (by first | rfl | (simp; done) | (simp [*]; done)), (by first | rfl | (simp; done) | (simp [*]; done)), (by first | rfl | (simp; done) | (simp [*]; done)), (by first | rfl | (simp; done) | (simp [*]; done)), (by first | rfl | (simp; done) | (simp [*]; done)), (by first | exact H'), ⟨by have := HK1.out; omega⟩, ⟨by (with_reducible repeat (first | refine blk_drewN ?_ _ | refine blk_drew ?_ | refine blk_alloc ?_ _)); exact BK120.out⟩, ⟨by repeat (first | (with_reducible first | exact HB.out | apply below_alloc | apply pw_below_drewN | apply below_drew1 | refine below_set ?_ GE120.out) | exact HB.out)⟩⟩
            · replace c12 := Bool.eq_false_iff.mpr c12
              subst c12
              have H1 : (float_exact_right.l0 k1 (wrap64 (x1_1 - 1)) (x6_1 / 2) (Go.bits .or .u64 (x7_1 / 2) (IntKind.u64.wrap (x6_1 * 9223372036854775808))) ((Go.bits .and .u64 x7_1 1) == 1) x8_1) = some (r1, r2) := by rw [if_neg (show ¬ (false = true) by decide)] at H; exact H
              clear H
              have H := H1
              clear H1
              have H' := Aside0.mk H
              clear H
              go_wp2
              repeat (go_quiet (fail); try go_wp2)
              go_roundg k1
              case measure => have := HK1.out; omega
              case rel => exact ⟨(wrap64 (x1_1 - 1)), (x6_1 / 2), (Go.bits .or .u64 (x7_1 / 2) (IntKind.u64.wrap (x6_1 * 9223372036854775808))), (((Go.bits .and .u64 x7_1 1) == 1)), (x8_1), (by first | rfl | (simp; done) | (simp [*]; done)), (by first | rfl | (simp; done) | (simp [*]; done)), (by first | rfl | (simp; done) | (simp [*]; done)), (by first | rfl | (simp; done) | (simp [*]; done)), (by first | rfl | (simp; done) | (simp [*]; done)), (by first | exact H'), ⟨by have := HK1.out; omega⟩, ⟨by (with_reducible repeat (first | refine blk_drewN ?_ _ | refine blk_drew ?_ | refine blk_alloc ?_ _)); exact BK120.out⟩, ⟨by repeat (first | (with_reducible first | exact HB.out | apply below_alloc | apply pw_below_drewN | apply below_drew1 | refine below_set ?_ GE120.out) | exact HB.out)⟩⟩
        · rw [if_neg c6] at H
          have c6b0 : decide (0 < x1_1) = false := decide_eq_false c6
          clear c6
          (first | rw [c6b0] | (simp only [i64_w, i32_w]; rw [c6b0]) | skip)
          have H' := Aside0.mk H
          clear H
          go_wp2
          repeat (go_quiet (fail); try go_wp2)
          go_meet
          case rel => exact ⟨_, (x1_1), (x7_1), (x8_1), (x9_1), (by first | rfl | (simp; done) | (simp [*]; done)), (by first | rfl | (simp; done) | (simp [*]; done)), (by first | rfl | (simp; done) | (simp [*]; done)), (by first | rfl | (simp; done) | (simp [*]; done)), (by first | exact H'), ⟨by have := HK1.out; first | omega | exact Nat.le_refl _⟩, ⟨by (with_reducible repeat (first | refine blk_drewN ?_ _ | refine blk_drew ?_ | refine blk_alloc ?_ _)); exact BK120.out⟩, ⟨by repeat (first | (with_reducible first | exact HB.out | apply below_alloc | apply pw_below_drewN | apply below_drew1 | refine below_set ?_ GE120.out) | exact HB.out)⟩⟩
  case rest =>
    clear HC3
    try clear c1
    try clear p2
    try clear c6
    try clear c6b0
    try clear p6
    try clear c7
    try clear c7b0
    try clear c7b1
    try clear c8
    try clear c8b0
    try clear c8b1
    try clear c9
    try clear c10
    try clear c11
    try clear c12
    try clear hcz5_0
    try clear hcz5_1
    try clear hcz5_2
    try clear hcz5_3
    try clear hfz5_0
    try clear hfz5_1
    try clear hfz5_2
    try clear hfz5_3
    try clear p2
    obtain ⟨kq, x1_2, x7_2, x8_2, x9_2, rfl, rfl, rfl, rfl, HA, HJ2, BK120, HB⟩ := hcut
    cases kq with
    | zero => exact absurd HA.out (by simp [float_exact_right.j1])
    | succ kj2 =>
      have H := HA.out
      clear HA
      simp only [float_exact_right.j1] at H
      have HC13 := Aside0.mk H
      clear H
      go_upto_block 2 with (fail)
      repeat (go_quiet (fail); go_upto_block 2 with (fail))
      go_cut [8, 9] (fun v8 v9 wc => ∃ (kq : Nat) (x8_12 : Bool) (x9_12 : Bool), v8 = .bool x8_12 ∧ v9 = .bool x9_12 ∧ Aside0 (float_exact_right.j2 kq x7_2 x8_12 x9_12 = some (r1, r2)) ∧ Aside0 (kq ≤ kj2) ∧ Aside0 (wc.heap[gb120]? = some (.cells #[.int .u64 a0_0, .int .u64 a0_1, .int .i64 a0_2, .bool a0_3] 66 (0, 0))) ∧ Aside0 (Below w.heap.size w wc))
      case first =>
        have H := HC13.out
        clear HC13
        by_cases c14 : x1_2 > 0
        · rw [if_pos c14] at H
          have c14b0 : decide (0 < x1_2) = true := decide_eq_true c14
          clear c14
          (first | rw [c14b0] | (simp only [i64_w, i32_w]; rw [c14b0]) | skip)
          have H' := Aside0.mk H
          clear H
          go_wp2
          repeat (go_quiet (fail); try go_wp2)
          go_meet
          case rel => exact ⟨_, (false), (true), (by first | rfl | (simp; done) | (simp [*]; done)), (by first | rfl | (simp; done) | (simp [*]; done)), (by first | exact H'), ⟨by have := HJ2.out; first | omega | exact Nat.le_refl _⟩, ⟨by (with_reducible repeat (first | refine blk_drewN ?_ _ | refine blk_drew ?_ | refine blk_alloc ?_ _)); exact BK120.out⟩, ⟨by repeat (first | (with_reducible first | exact HB.out | apply below_alloc | apply pw_below_drewN | apply below_drew1 | refine below_set ?_ GE120.out) | exact HB.out)⟩⟩
        · rw [if_neg c14] at H
          have c14b0 : decide (0 < x1_2) = false := decide_eq_false c14
          clear c14
          (first | rw [c14b0] | (simp only [i64_w, i32_w]; rw [c14b0]) | skip)
          have H' := Aside0.mk H
          clear H
          go_wp2
          repeat (go_quiet (fail); try go_wp2)
          go_meet
          case rel => exact ⟨_, (x8_2), (x9_2), (by first | rfl | (simp; done) | (simp [*]; done)), (by first | rfl | (simp; done) | (simp [*]; done)), (by first | exact H'), ⟨by have := HJ2.out; first | omega | exact Nat.le_refl _⟩, ⟨by (with_reducible repeat (first | refine blk_drewN ?_ _ | refine blk_drew ?_ | refine blk_alloc ?_ _)); exact BK120.out⟩, ⟨by repeat (first | (with_reducible first | exact HB.out | apply below_alloc | apply pw_below_drewN | apply below_drew1 | refine below_set ?_ GE120.out) | exact HB.out)⟩⟩
      case rest =>
        clear HC13
        try clear c1
        try clear p2
        try clear c6
        try clear c6b0
        try clear p6
        try clear c7
        try clear c7b0
        try clear c7b1
        try clear c8
        try clear c8b0
        try clear c8b1
        try clear c9
        try clear c10
        try clear c11
        try clear c12
        try clear c14
        try clear c14b0
        try clear hcz5_0
        try clear hcz5_1
        try clear hcz5_2
        try clear hcz5_3
        try clear hfz5_0
        try clear hfz5_1
        try clear hfz5_2
        try clear hfz5_3
        try clear p2
        try clear p6
        obtain ⟨kq, x8_12, x9_12, rfl, rfl, HA, HJ12, BK120, HB⟩ := hcut
        cases kq with
        | zero => exact absurd HA.out (by simp [float_exact_right.j2])
        | succ kj12 =>
          have H := HA.out
          clear HA
          simp only [float_exact_right.j2] at H
          have HC15 := Aside0.mk H
          clear H
          go_upto_region 11 with (fail)
          repeat (go_quiet (fail); go_upto_region 11 with (fail))
          go_cut [48] (fun v48 wc => ∃ (kq : Nat) (x48_14 : Bool), v48 = .bool x48_14 ∧ Aside0 (float_exact_right.j3 kq x7_2 x8_12 x9_12 x48_14 = some (r1, r2)) ∧ Aside0 (kq ≤ kj12) ∧ Aside0 (wc.heap[gb120]? = some (.cells #[.int .u64 a0_0, .int .u64 a0_1, .int .i64 a0_2, .bool a0_3] 66 (0, 0))) ∧ Aside0 (Below w.heap.size w wc))
          case first =>
            have H := HC15.out
            clear HC15
            by_cases c16 : x8_12 = true
            · subst c16
              have H1 : (float_exact_right.j3 kj12 x7_2 true x9_12 x9_12) = some (r1, r2) := by rw [if_pos rfl] at H; exact H
              clear H
              have H := H1
              clear H1
              have H' := Aside0.mk H
              clear H
              go_wp2
              repeat (go_quiet (fail); try go_wp2)
              go_meet
              case rel => exact ⟨_, (x9_12), (by first | rfl | (simp; done) | (simp [*]; done)), (by first | exact H'), ⟨by have := HJ2.out; have := HJ12.out; first | omega | exact Nat.le_refl _⟩, ⟨by (with_reducible repeat (first | refine blk_drewN ?_ _ | refine blk_drew ?_ | refine blk_alloc ?_ _)); exact BK120.out⟩, ⟨by repeat (first | (with_reducible first | exact HB.out | apply below_alloc | apply pw_below_drewN | apply below_drew1 | refine below_set ?_ GE120.out) | exact HB.out)⟩⟩
            · replace c16 := Bool.eq_false_iff.mpr c16
              subst c16
              have H1 : (float_exact_right.j3 kj12 x7_2 false x9_12 false) = some (r1, r2) := by rw [if_neg (show ¬ (false = true) by decide)] at H; exact H
              clear H
              have H := H1
              clear H1
              have H' := Aside0.mk H
              clear H
              go_wp2
              repeat (go_quiet (fail); try go_wp2)
              go_meet
              case rel => exact ⟨_, (false), (by first | rfl | (simp; done) | (simp [*]; done)), (by first | exact H'), ⟨by have := HJ2.out; have := HJ12.out; first | omega | exact Nat.le_refl _⟩, ⟨by (with_reducible repeat (first | refine blk_drewN ?_ _ | refine blk_drew ?_ | refine blk_alloc ?_ _)); exact BK120.out⟩, ⟨by repeat (first | (with_reducible first | exact HB.out | apply below_alloc | apply pw_below_drewN | apply below_drew1 | refine below_set ?_ GE120.out) | exact HB.out)⟩⟩
          case rest =>
            clear HC15
            try clear c1
            try clear p2
            try clear c6
            try clear c6b0
            try clear p6
            try clear c7
            try clear c7b0
            try clear c7b1
            try clear c8
            try clear c8b0
            try clear c8b1
            try clear c9
            try clear c10
            try clear c11
            try clear c12
            try clear c14
            try clear c14b0
            try clear c16
            try clear hcz5_0
            try clear hcz5_1
            try clear hcz5_2
            try clear hcz5_3
            try clear hfz5_0
            try clear hfz5_1
            try clear hfz5_2
            try clear hfz5_3
            try clear p2
            try clear p6
            obtain ⟨kq, x48_14, rfl, HA, HJ14, BK120, HB⟩ := hcut
            cases kq with
            | zero => exact absurd HA.out (by simp [float_exact_right.j3])
            | succ kj14 =>
              have H := HA.out
              clear HA
              simp only [float_exact_right.j3] at H
              by_cases c17 : x48_14 = true
              · subst c17
                have H1 : (some (x7_2, 3)) = some (r1, r2) := by rw [if_pos rfl] at H; exact H
                clear H
                have H := H1
                clear H1
                simp only [Option.some.injEq, Prod.mk.injEq] at H
                obtain ⟨rfl, rfl⟩ := H
                go_wp2
                repeat (go_quiet (fail); try go_wp2)
                go_ret2
                exact ⟨by first | rfl | (simp [errW_none, errW_some] <;> rfl) | (simp [*, errW_none, errW_some] <;> rfl), by repeat (first | (with_reducible first | exact HB.out | apply below_alloc | apply pw_below_drewN | apply below_drew1 | refine below_set ?_ GE120.out) | exact HB.out)⟩
              · replace c17 := Bool.eq_false_iff.mpr c17
                subst c17
                have H1 : (if x8_12 = true then (some (x7_2, 2)) else (if x9_12 = true then (some (x7_2, 1)) else (some (x7_2, 0)))) = some (r1, r2) := by rw [if_neg (show ¬ (false = true) by decide)] at H; exact H
                clear H
                have H := H1
                clear H1
                by_cases c18 : x8_12 = true
                · subst c18
                  have H1 : (some (x7_2, 2)) = some (r1, r2) := by rw [if_pos rfl] at H; exact H
                  clear H
                  have H := H1
                  clear H1
                  simp only [Option.some.injEq, Prod.mk.injEq] at H
                  obtain ⟨rfl, rfl⟩ := H
                  go_wp2
                  repeat (go_quiet (fail); try go_wp2)
                  go_ret2
                  exact ⟨by first | rfl | (simp [errW_none, errW_some] <;> rfl) | (simp [*, errW_none, errW_some] <;> rfl), by repeat (first | (with_reducible first | exact HB.out | apply below_alloc | apply pw_below_drewN | apply below_drew1 | refine below_set ?_ GE120.out) | exact HB.out)⟩
                · replace c18 := Bool.eq_false_iff.mpr c18
                  subst c18
                  have H1 : (if x9_12 = true then (some (x7_2, 1)) else (some (x7_2, 0))) = some (r1, r2) := by rw [if_neg (show ¬ (false = true) by decide)] at H; exact H
                  clear H
                  have H := H1
                  clear H1
                  by_cases c19 : x9_12 = true
                  · subst c19
                    have H1 : (some (x7_2, 1)) = some (r1, r2) := by rw [if_pos rfl] at H; exact H
                    clear H
                    have H := H1
                    clear H1
                    simp only [Option.some.injEq, Prod.mk.injEq] at H
                    obtain ⟨rfl, rfl⟩ := H
                    go_wp2
                    repeat (go_quiet (fail); try go_wp2)
                    go_ret2
                    exact ⟨by first | rfl | (simp [errW_none, errW_some] <;> rfl) | (simp [*, errW_none, errW_some] <;> rfl), by repeat (first | (with_reducible first | exact HB.out | apply below_alloc | apply pw_below_drewN | apply below_drew1 | refine below_set ?_ GE120.out) | exact HB.out)⟩
                  · replace c19 := Bool.eq_false_iff.mpr c19
                    subst c19
                    have H1 : (some (x7_2, 0)) = some (r1, r2) := by rw [if_neg (show ¬ (false = true) by decide)] at H; exact H
                    clear H
                    have H := H1
                    clear H1
                    simp only [Option.some.injEq, Prod.mk.injEq] at H
                    obtain ⟨rfl, rfl⟩ := H
                    go_wp2
                    repeat (go_quiet (fail); try go_wp2)
                    go_ret2
                    exact ⟨by first | rfl | (simp [errW_none, errW_some] <;> rfl) | (simp [*, errW_none, errW_some] <;> rfl), by repeat (first | (with_reducible first | exact HB.out | apply below_alloc | apply pw_below_drewN | apply below_drew1 | refine below_set ?_ GE120.out) | exact HB.out)⟩

/-! ### float_away: function 67 -/
def float_away.f (a0 : Int) (a1 : Int) (a2 : Bool) (a3 : Int) : Option (Bool) := if a0 = 0 then (if a3 = 3 then (some true) else (if a3 = 2 then (some a2) else (some false))) else (if a0 = 2 then (if a3 > 0 then (some (a1 == 1)) else (some false)) else (if a0 = 3 then (if a3 > 0 then (some (a1 == 0)) else (some false)) else (some false)))
set_option maxHeartbeats 8000000 in
set_option maxRecDepth 100000 in
theorem float_away.calls (a0 : Int) (a1 : Int) (a2 : Bool) (a3 : Int) (r : Bool) (w : World) (h : float_away.f a0 a1 a2 a3 = some r) :
    Calls Try.prog 67 #[.int .i64 a0, .int .i64 a1, .bool a2, .int .i64 a3] w fun e w' => e = .returned (.bool r) ∧ Drawn0 w w' := by
  have H : (if a0 = 0 then (if a3 = 3 then (some true) else (if a3 = 2 then (some a2) else (some false))) else (if a0 = 2 then (if a3 > 0 then (some (a1 == 1)) else (some false)) else (if a0 = 3 then (if a3 > 0 then (some (a1 == 0)) else (some false)) else (some false)))) = some r := h
  clear h
  by_cases c5 : a0 = 0
  · rw [if_pos c5] at H
    have c5b0 : (a0 == 0) = true := beq_iff_eq.mpr c5
    have c5b1 : (a0 != 0) = false := bne_eq_false_iff_eq.mpr c5
    clear c5
    by_cases c6 : a3 = 3
    · rw [if_pos c6] at H
      have c6b0 : (a3 == 3) = true := beq_iff_eq.mpr c6
      have c6b1 : (a3 != 3) = false := bne_eq_false_iff_eq.mpr c6
      clear c6
      obtain rfl := Option.some.inj H
      go_enter Try.func67, Try.ntmps67
      go_wp2
      go_ret
      exact ⟨by first | rfl | (simp; done) | (simp [*]; done), by repeat (first | exact Drawn0.refl _ | apply Drawn0.step)⟩
    · rw [if_neg c6] at H
      have c6b0 : (a3 == 3) = false := beq_eq_false_iff_ne.mpr c6
      have c6b1 : (a3 != 3) = true := bne_iff_ne.mpr c6
      by_cases c7 : a3 = 2
      · rw [if_pos c7] at H
        have c7b0 : (a3 == 2) = true := beq_iff_eq.mpr c7
        have c7b1 : (a3 != 2) = false := bne_eq_false_iff_eq.mpr c7
        clear c7
        obtain rfl := Option.some.inj H
        go_enter Try.func67, Try.ntmps67
        go_wp2
        go_ret
        exact ⟨by first | rfl | (simp; done) | (simp [*]; done), by repeat (first | exact Drawn0.refl _ | apply Drawn0.step)⟩
      · rw [if_neg c7] at H
        have c7b0 : (a3 == 2) = false := beq_eq_false_iff_ne.mpr c7
        have c7b1 : (a3 != 2) = true := bne_iff_ne.mpr c7
        obtain rfl := Option.some.inj H
        go_enter Try.func67, Try.ntmps67
        go_wp2
        go_ret
        exact ⟨by first | rfl | (simp; done) | (simp [*]; done), by repeat (first | exact Drawn0.refl _ | apply Drawn0.step)⟩
  · rw [if_neg c5] at H
    have c5b0 : (a0 == 0) = false := beq_eq_false_iff_ne.mpr c5
    have c5b1 : (a0 != 0) = true := bne_iff_ne.mpr c5
    by_cases c8 : a0 = 2
    · rw [if_pos c8] at H
      have c8b0 : (a0 == 2) = true := beq_iff_eq.mpr c8
      have c8b1 : (a0 != 2) = false := bne_eq_false_iff_eq.mpr c8
      clear c8
      by_cases c9 : a3 > 0
      · rw [if_pos c9] at H
        have c9b0 : decide (0 < a3) = true := decide_eq_true c9
        clear c9
        obtain rfl := Option.some.inj H
        go_enter Try.func67, Try.ntmps67
        go_wp2
        go_ret
        exact ⟨by first | rfl | (simp; done) | (simp [*]; done), by repeat (first | exact Drawn0.refl _ | apply Drawn0.step)⟩
      · rw [if_neg c9] at H
        have c9b0 : decide (0 < a3) = false := decide_eq_false c9
        clear c9
        obtain rfl := Option.some.inj H
        go_enter Try.func67, Try.ntmps67
        go_wp2
        go_ret
        exact ⟨by first | rfl | (simp; done) | (simp [*]; done), by repeat (first | exact Drawn0.refl _ | apply Drawn0.step)⟩
    · rw [if_neg c8] at H
      have c8b0 : (a0 == 2) = false := beq_eq_false_iff_ne.mpr c8
      have c8b1 : (a0 != 2) = true := bne_iff_ne.mpr c8
      by_cases c10 : a0 = 3
      · rw [if_pos c10] at H
        have c10b0 : (a0 == 3) = true := beq_iff_eq.mpr c10
        have c10b1 : (a0 != 3) = false := bne_eq_false_iff_eq.mpr c10
        clear c10
        by_cases c11 : a3 > 0
        · rw [if_pos c11] at H
          have c11b0 : decide (0 < a3) = true := decide_eq_true c11
          clear c11
          obtain rfl := Option.some.inj H
          go_enter Try.func67, Try.ntmps67
          go_wp2
          go_ret
          exact ⟨by first | rfl | (simp; done) | (simp [*]; done), by repeat (first | exact Drawn0.refl _ | apply Drawn0.step)⟩
        · rw [if_neg c11] at H
          have c11b0 : decide (0 < a3) = false := decide_eq_false c11
          clear c11
          obtain rfl := Option.some.inj H
          go_enter Try.func67, Try.ntmps67
          go_wp2
          go_ret
          exact ⟨by first | rfl | (simp; done) | (simp [*]; done), by repeat (first | exact Drawn0.refl _ | apply Drawn0.step)⟩
      · rw [if_neg c10] at H
        have c10b0 : (a0 == 3) = false := beq_eq_false_iff_ne.mpr c10
        have c10b1 : (a0 != 3) = true := bne_iff_ne.mpr c10
        obtain rfl := Option.some.inj H
        go_enter Try.func67, Try.ntmps67
        go_wp2
        go_ret
        exact ⟨by first | rfl | (simp; done) | (simp [*]; done), by repeat (first | exact Drawn0.refl _ | apply Drawn0.step)⟩

/-! ### bits_Len64: function 95 -/
def bits_Len64.f (a0 : Int) : Option (Int) := if 0 ≤ a0 ∧ a0 ≤ 18446744073709551615 then some (Lib.bitLen a0.toNat : Int) else none
theorem bits_Len64.calls (a0 : Int) (r : Int) (w : World) (h : bits_Len64.f a0 = some r) :
    Calls Try.prog 95 #[.int .u64 a0] w fun e w' => e = .returned (.int .i64 r) ∧ Drawn0 w w' := by
  unfold bits_Len64.f at h
  split at h
  · rename_i hb
    obtain rfl := Option.some.inj h
    exact (Try.bits_Len64 a0 w hb.1 hb.2).mono fun e w' ⟨he, hw⟩ => ⟨he, by subst hw; exact Drawn0.refl _⟩
  · cases h

/-! ### float_exact_long: function 88 -/
def float_exact_long.f (a0_0 : Int) (a0_1 : Int) (a0_2 : Int) (a0_3 : Bool) : Option (Int) := if a0_0 = 0 then ((bits_Len64.f a0_1).bind fun t122 => (some t122)) else ((bits_Len64.f a0_0).bind fun t123 => (some (wrap64 (64 + t123))))
set_option maxHeartbeats 8000000 in
set_option maxRecDepth 100000 in
theorem float_exact_long.calls (a0_0 : Int) (a0_1 : Int) (a0_2 : Int) (a0_3 : Bool) (r : Int) (w : World) (h : float_exact_long.f a0_0 a0_1 a0_2 a0_3 = some r) :
    Calls Try.prog 88 #[.agg #[.int .u64 a0_0, .int .u64 a0_1, .int .i64 a0_2, .bool a0_3]] w fun e w' => e = .returned (.int .i64 r) ∧ Below w.heap.size w w' := by
  have hu66 := Try.underlying66
  have HB := Aside0.mk (Below.refl w.heap.size w)
  have H : (if a0_0 = 0 then ((bits_Len64.f a0_1).bind fun t122 => (some t122)) else ((bits_Len64.f a0_0).bind fun t123 => (some (wrap64 (64 + t123))))) = some r := h
  clear h
  by_cases c2 : a0_0 = 0
  · rw [if_pos c2] at H
    have c2b0 : (a0_0 == 0) = true := beq_iff_eq.mpr c2
    have c2b1 : (a0_0 != 0) = false := bne_eq_false_iff_eq.mpr c2
    clear c2
    replace H := Option.bind_eq_some_iff.mp H
    obtain ⟨t122, A30, H⟩ := H
    replace H : (some t122) = some r := H
    have A3 := Aside0.mk A30
    clear A30
    obtain rfl := Option.some.inj H
    go_enter Try.func88, Try.ntmps88
    go_wp2_with (first | ((with_reducible refine gate_dst (N := 1) rfl ?_); refine box_event ?hg (N := 1) ?hd (cs := #[.int .u64 a0_0, .int .u64 a0_1, .int .i64 a0_2, .bool a0_3]) (t := 66) ?hr ?_; (case hd => rfl); (case hg => rfl); (case hr => first | (go_simp; done) | (go_simp; rfl)); intro gb121 hg w4 hbox hb; have n0_ := Aside0.mk (below_step (by repeat (first | (with_reducible first | exact HB.out | apply below_alloc | apply pw_below_drewN | apply below_drew1) | exact HB.out)) hb); have n1_ := Aside0.mk (hbox); have n2_ := Aside0.mk ((by rw [hg]; exact (below_size (by repeat (first | (with_reducible first | exact HB.out | apply below_alloc | apply pw_below_drewN | apply below_drew1) | exact HB.out))) : w.heap.size ≤ gb121)); have n3_ := Aside0.mk ((by rw [hg]; exact (below_size (by repeat (first | (with_reducible first | exact HB.out | apply below_alloc | apply pw_below_drewN | apply below_drew1) | exact HB.out))) : w.heap.size ≤ gb121)); clear HB; have HB := n0_; have BK121 := n1_; have GW121 := n2_; have GE121 := n3_; clear n0_ n1_ n2_ n3_; clear hb hbox hg; have hcz5_0 : w4.cell? ⟨gb121, 0, none⟩ = some (.int .u64 a0_0) := (blk_cell BK121.out 0).trans rfl; have hcz5_1 : w4.cell? ⟨gb121, 1, none⟩ = some (.int .u64 a0_1) := (blk_cell BK121.out 1).trans rfl; have hcz5_2 : w4.cell? ⟨gb121, 2, none⟩ = some (.int .i64 a0_2) := (blk_cell BK121.out 2).trans rfl; have hcz5_3 : w4.cell? ⟨gb121, 3, none⟩ = some (.bool a0_3) := (blk_cell BK121.out 3).trans rfl; have hfz5_0 := blk_frozen BK121.out 0; have hfz5_1 := blk_frozen BK121.out 1; have hfz5_2 := blk_frozen BK121.out 2; have hfz5_3 := blk_frozen BK121.out 3) | ((with_reducible refine gate_callee (f := 95) rfl ?_); refine goesL_ (some 12) rfl rfl Try.func95 (by kernel_rfl) rfl #[.int .u64 a0_1] rfl (by (try simp only [List.map_toArray, List.map_cons, List.map_nil]); first | done | rfl | (simp only [List.length_drop, List.length_take]; rfl)) ?_; (with_reducible refine (bits_Len64.calls a0_1 t122 _ A3.out).mono ?_); rintro e w' ⟨rfl, ⟨nd, rfl⟩⟩; refine ⟨_, rfl, ?_⟩))
    go_ret
    exact ⟨by first | rfl | (simp [errW_none, errW_some] <;> rfl) | (simp [*, errW_none, errW_some] <;> rfl), by repeat (first | (with_reducible first | exact HB.out | apply below_alloc | apply pw_below_drewN | apply below_drew1 | refine below_set ?_ GE121.out) | exact HB.out)⟩
  · rw [if_neg c2] at H
    have c2b0 : (a0_0 == 0) = false := beq_eq_false_iff_ne.mpr c2
    have c2b1 : (a0_0 != 0) = true := bne_iff_ne.mpr c2
    replace H := Option.bind_eq_some_iff.mp H
    obtain ⟨t123, A60, H⟩ := H
    replace H : (some (wrap64 (64 + t123))) = some r := H
    have A6 := Aside0.mk A60
    clear A60
    obtain rfl := Option.some.inj H
    go_enter Try.func88, Try.ntmps88
    go_wp2_with (first | ((with_reducible refine gate_dst (N := 1) rfl ?_); refine box_event ?hg (N := 1) ?hd (cs := #[.int .u64 a0_0, .int .u64 a0_1, .int .i64 a0_2, .bool a0_3]) (t := 66) ?hr ?_; (case hd => rfl); (case hg => rfl); (case hr => first | (go_simp; done) | (go_simp; rfl)); intro gb121 hg w7 hbox hb; have n0_ := Aside0.mk (below_step (by repeat (first | (with_reducible first | exact HB.out | apply below_alloc | apply pw_below_drewN | apply below_drew1) | exact HB.out)) hb); have n1_ := Aside0.mk (hbox); have n2_ := Aside0.mk ((by rw [hg]; exact (below_size (by repeat (first | (with_reducible first | exact HB.out | apply below_alloc | apply pw_below_drewN | apply below_drew1) | exact HB.out))) : w.heap.size ≤ gb121)); have n3_ := Aside0.mk ((by rw [hg]; exact (below_size (by repeat (first | (with_reducible first | exact HB.out | apply below_alloc | apply pw_below_drewN | apply below_drew1) | exact HB.out))) : w.heap.size ≤ gb121)); clear HB; have HB := n0_; have BK121 := n1_; have GW121 := n2_; have GE121 := n3_; clear n0_ n1_ n2_ n3_; clear hb hbox hg; have hcz8_0 : w7.cell? ⟨gb121, 0, none⟩ = some (.int .u64 a0_0) := (blk_cell BK121.out 0).trans rfl; have hcz8_1 : w7.cell? ⟨gb121, 1, none⟩ = some (.int .u64 a0_1) := (blk_cell BK121.out 1).trans rfl; have hcz8_2 : w7.cell? ⟨gb121, 2, none⟩ = some (.int .i64 a0_2) := (blk_cell BK121.out 2).trans rfl; have hcz8_3 : w7.cell? ⟨gb121, 3, none⟩ = some (.bool a0_3) := (blk_cell BK121.out 3).trans rfl; have hfz8_0 := blk_frozen BK121.out 0; have hfz8_1 := blk_frozen BK121.out 1; have hfz8_2 := blk_frozen BK121.out 2; have hfz8_3 := blk_frozen BK121.out 3) | ((with_reducible refine gate_callee (f := 95) rfl ?_); refine goesL_ (some 8) rfl rfl Try.func95 (by kernel_rfl) rfl #[.int .u64 a0_0] rfl (by (try simp only [List.map_toArray, List.map_cons, List.map_nil]); first | done | rfl | (simp only [List.length_drop, List.length_take]; rfl)) ?_; (with_reducible refine (bits_Len64.calls a0_0 t123 _ A6.out).mono ?_); rintro e w' ⟨rfl, ⟨nd, rfl⟩⟩; refine ⟨_, rfl, ?_⟩))
    go_ret
    exact ⟨by first | rfl | (simp [errW_none, errW_some] <;> rfl) | (simp [*, errW_none, errW_some] <;> rfl), by repeat (first | (with_reducible first | exact HB.out | apply below_alloc | apply pw_below_drewN | apply below_drew1 | refine below_set ?_ GE121.out) | exact HB.out)⟩

end Go.Proofs.Ytgpnmifejgdipaa.My
