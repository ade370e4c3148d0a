-- PRINTED by print.py (a twelfth state) out of the translation. Not trusted: Lean checks it.
import Derived.Test.YtgpnmifejgdipaaMy0
namespace Go.Proofs.Ytgpnmifejgdipaa.My
open Go.RowKit Go.Proofs.YtgpnmifejgdipaaW.PrintWords Go.Proofs.YtgpnmifejgdipaaW.PrintLast Go.Proofs.YtgpnmifejgdipaaW.PrintMore
attribute [local go_sem] max2_int min2_int max_two min_two max_three min_three max_four min_four   -- for this text's walks alone
set_option linter.unusedVariables false
set_option linter.unusedSimpArgs false

/-! ### float_shape_place: function 61 -/
def float_shape_place.f (a0_0 : Int) (a0_1 : Int) (a1 : Int) : Option (Int) := if 0 ≤ (wrap64 ((wrap64 (a0_0 + a0_1)) - 1)) then (if (Go.bits .and .u64 (shr .u64 (IntKind.u64.wrap (a1)) (wrap64 ((wrap64 (a0_0 + a0_1)) - 1))) 1) = 1 then (some (wrap64 (-(wrap64 (Go.bits .and .u64 (IntKind.u64.wrap (a1)) (IntKind.u64.wrap ((shl .u64 1 (wrap64 ((wrap64 (a0_0 + a0_1)) - 1))) - 1))))))) else (some (wrap64 (Go.bits .and .u64 (IntKind.u64.wrap (a1)) (IntKind.u64.wrap ((shl .u64 1 (wrap64 ((wrap64 (a0_0 + a0_1)) - 1))) - 1)))))) else (none)
set_option maxHeartbeats 8000000 in
set_option maxRecDepth 100000 in
theorem float_shape_place.calls (a0_0 : Int) (a0_1 : Int) (a1 : Int) (r : Int) (w : World) (h : float_shape_place.f a0_0 a0_1 a1 = some r) :
    Calls Try.prog 61 #[.agg #[.int .i64 a0_0, .int .i64 a0_1], .int .i64 a1] w fun e w' => e = .returned (.int .i64 r) ∧ Below w.heap.size w w' := by
  have hu42 := Try.underlying42
  have HB := Aside0.mk (Below.refl w.heap.size w)
  have H : (if 0 ≤ (wrap64 ((wrap64 (a0_0 + a0_1)) - 1)) then (if (Go.bits .and .u64 (shr .u64 (IntKind.u64.wrap (a1)) (wrap64 ((wrap64 (a0_0 + a0_1)) - 1))) 1) = 1 then (some (wrap64 (-(wrap64 (Go.bits .and .u64 (IntKind.u64.wrap (a1)) (IntKind.u64.wrap ((shl .u64 1 (wrap64 ((wrap64 (a0_0 + a0_1)) - 1))) - 1))))))) else (some (wrap64 (Go.bits .and .u64 (IntKind.u64.wrap (a1)) (IntKind.u64.wrap ((shl .u64 1 (wrap64 ((wrap64 (a0_0 + a0_1)) - 1))) - 1)))))) else (none)) = some r := h
  clear h
  obtain ⟨ji3, hji3⟩ : ∃ j_ : Int, (wrap64 ((wrap64 (a0_0 + a0_1)) - 1)) = j_ := ⟨_, rfl⟩
  replace H : (if 0 ≤ (ji3) then (if (Go.bits .and .u64 (shr .u64 (IntKind.u64.wrap (a1)) (ji3)) 1) = 1 then (some (wrap64 (-(wrap64 (Go.bits .and .u64 (IntKind.u64.wrap (a1)) (IntKind.u64.wrap ((shl .u64 1 (ji3)) - 1))))))) else (some (wrap64 (Go.bits .and .u64 (IntKind.u64.wrap (a1)) (IntKind.u64.wrap ((shl .u64 1 (ji3)) - 1)))))) else (none)) = some r := by first | (rw [hji3] at H; exact H) | (simp only [hji3] at H ⊢; exact H)
  have hji3w : (IntKind.i64.wrap ((wrap64 (a0_0 + a0_1)) - 1)) = ji3 := (i64_w _).trans hji3
  by_cases c4 : 0 ≤ (ji3)
  · rw [if_pos c4] at H
    have c4b0 := eq_true c4
    have c4b1 : decide (0 ≤ (ji3)) = true := decide_eq_true c4
    clear c4
    obtain ⟨ji5, hji5⟩ : ∃ j_ : Int, (shl .u64 1 (ji3)) = j_ := ⟨_, rfl⟩
    replace H : (if (Go.bits .and .u64 (shr .u64 (IntKind.u64.wrap (a1)) (ji3)) 1) = 1 then (some (wrap64 (-(wrap64 (Go.bits .and .u64 (IntKind.u64.wrap (a1)) (IntKind.u64.wrap ((ji5) - 1))))))) else (some (wrap64 (Go.bits .and .u64 (IntKind.u64.wrap (a1)) (IntKind.u64.wrap ((ji5) - 1)))))) = some r := by first | (rw [hji5] at H; exact H) | (simp only [hji5] at H ⊢; exact H)
    have hji5_ : (IntKind.u64.wrap (1 * 2 ^ min (ji3).toNat 64)) = ji5 := hji5
    have hji5z : (ji3) ≤ 64 → (IntKind.u64.wrap (1 * 2 ^ (ji3).toNat)) = ji5 := shl_small hji5
    have hji5u : (IntKind.u64.wrap (2 ^ min (ji3).toNat 64)) = ji5 := by have h_ := hji5_; rw [Int.one_mul] at h_; exact h_
    have hji5v : (ji3) ≤ 64 → (IntKind.u64.wrap (2 ^ (ji3).toNat)) = ji5 := fun hle_ => by have h_ := hji5z hle_; rw [Int.one_mul] at h_; exact h_
    have c6b0 := eq_true (of_decide_eq_true (by first | (with_reducible assumption) | assumption) : 0 ≤ (ji3))
    obtain ⟨ji7, hji7⟩ : ∃ j_ : Int, (shr .u64 (IntKind.u64.wrap (a1)) (ji3)) = j_ := ⟨_, rfl⟩
    replace H : (if (Go.bits .and .u64 (ji7) 1) = 1 then (some (wrap64 (-(wrap64 (Go.bits .and .u64 (IntKind.u64.wrap (a1)) (IntKind.u64.wrap ((ji5) - 1))))))) else (some (wrap64 (Go.bits .and .u64 (IntKind.u64.wrap (a1)) (IntKind.u64.wrap ((ji5) - 1)))))) = some r := by first | (rw [hji7] at H; exact H) | (simp only [hji7] at H ⊢; exact H)
    have hji7_ : ((IntKind.u64.wrap (a1)) / 2 ^ min (ji3).toNat 64) = ji7 := hji7
    have hji7z : (ji3) ≤ 64 → ((IntKind.u64.wrap (a1)) / 2 ^ (ji3).toNat) = ji7 := shr_small hji7
    by_cases c8 : (Go.bits .and .u64 (ji7) 1) = 1
    · rw [if_pos c8] at H
      have c8b0 : ((Go.bits .and .u64 (ji7) 1) == 1) = true := beq_iff_eq.mpr c8
      have c8b1 : ((Go.bits .and .u64 (ji7) 1) != 1) = false := bne_eq_false_iff_eq.mpr c8
      clear c8
      obtain rfl := Option.some.inj H
      go_enter Try.func61, Try.ntmps61
      go_wp2_with (first | ((with_reducible refine gate_dst (N := 2) rfl ?_); refine box_event ?hg (N := 2) ?hd (cs := #[.int .i64 a0_0, .int .i64 a0_1]) (t := 42) ?hr ?_; (case hd => rfl); (case hg => rfl); (case hr => first | (go_simp; done) | (go_simp; rfl)); intro gb465 hg w9 hbox hb; have n0_ := Aside0.mk (below_step (by repeat (first | (with_reducible first | exact HB.out | apply below_alloc | apply pw_below_drewN | apply below_drew1) | exact HB.out)) hb); have n1_ := Aside0.mk (hbox); have n2_ := Aside0.mk ((by rw [hg]; exact (below_size (by repeat (first | (with_reducible first | exact HB.out | apply below_alloc | apply pw_below_drewN | apply below_drew1) | exact HB.out))) : w.heap.size ≤ gb465)); have n3_ := Aside0.mk ((by rw [hg]; exact (below_size (by repeat (first | (with_reducible first | exact HB.out | apply below_alloc | apply pw_below_drewN | apply below_drew1) | exact HB.out))) : w.heap.size ≤ gb465)); clear HB; have HB := n0_; have BK465 := n1_; have GW465 := n2_; have GE465 := n3_; clear n0_ n1_ n2_ n3_; clear hb hbox hg; have hcz10_0 : w9.cell? ⟨gb465, 0, none⟩ = some (.int .i64 a0_0) := (blk_cell BK465.out 0).trans rfl; have hcz10_1 : w9.cell? ⟨gb465, 1, none⟩ = some (.int .i64 a0_1) := (blk_cell BK465.out 1).trans rfl; have hfz10_0 := blk_frozen BK465.out 0; have hfz10_1 := blk_frozen BK465.out 1))
      go_ret
      exact ⟨by first | rfl | (simp [errW_none, errW_some] <;> rfl) | (simp only [← hji3, ← hji5, ← hji7]; first | rfl | (simp [errW_none, errW_some] <;> rfl)) | (simp [*, errW_none, errW_some] <;> rfl), by repeat (first | (with_reducible first | exact HB.out | apply below_alloc | apply pw_below_drewN | apply below_drew1 | refine below_set ?_ GE465.out) | exact HB.out)⟩
    · rw [if_neg c8] at H
      have c8b0 : ((Go.bits .and .u64 (ji7) 1) == 1) = false := beq_eq_false_iff_ne.mpr c8
      have c8b1 : ((Go.bits .and .u64 (ji7) 1) != 1) = true := bne_iff_ne.mpr c8
      obtain rfl := Option.some.inj H
      go_enter Try.func61, Try.ntmps61
      go_wp2_with (first | ((with_reducible refine gate_dst (N := 2) rfl ?_); refine box_event ?hg (N := 2) ?hd (cs := #[.int .i64 a0_0, .int .i64 a0_1]) (t := 42) ?hr ?_; (case hd => rfl); (case hg => rfl); (case hr => first | (go_simp; done) | (go_simp; rfl)); intro gb465 hg w11 hbox hb; have n0_ := Aside0.mk (below_step (by repeat (first | (with_reducible first | exact HB.out | apply below_alloc | apply pw_below_drewN | apply below_drew1) | exact HB.out)) hb); have n1_ := Aside0.mk (hbox); have n2_ := Aside0.mk ((by rw [hg]; exact (below_size (by repeat (first | (with_reducible first | exact HB.out | apply below_alloc | apply pw_below_drewN | apply below_drew1) | exact HB.out))) : w.heap.size ≤ gb465)); have n3_ := Aside0.mk ((by rw [hg]; exact (below_size (by repeat (first | (with_reducible first | exact HB.out | apply below_alloc | apply pw_below_drewN | apply below_drew1) | exact HB.out))) : w.heap.size ≤ gb465)); clear HB; have HB := n0_; have BK465 := n1_; have GW465 := n2_; have GE465 := n3_; clear n0_ n1_ n2_ n3_; clear hb hbox hg; have hcz12_0 : w11.cell? ⟨gb465, 0, none⟩ = some (.int .i64 a0_0) := (blk_cell BK465.out 0).trans rfl; have hcz12_1 : w11.cell? ⟨gb465, 1, none⟩ = some (.int .i64 a0_1) := (blk_cell BK465.out 1).trans rfl; have hfz12_0 := blk_frozen BK465.out 0; have hfz12_1 := blk_frozen BK465.out 1))
      go_ret
      exact ⟨by first | rfl | (simp [errW_none, errW_some] <;> rfl) | (simp only [← hji3, ← hji5, ← hji7]; first | rfl | (simp [errW_none, errW_some] <;> rfl)) | (simp [*, errW_none, errW_some] <;> rfl), by repeat (first | (with_reducible first | exact HB.out | apply below_alloc | apply pw_below_drewN | apply below_drew1 | refine below_set ?_ GE465.out) | exact HB.out)⟩
  · rw [if_neg c4] at H
    exact absurd H (by simp)

end Go.Proofs.Ytgpnmifejgdipaa.My
