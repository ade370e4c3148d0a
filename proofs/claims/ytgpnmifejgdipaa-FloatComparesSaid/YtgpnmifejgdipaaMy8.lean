-- PRINTED by print.py (a twelfth state) out of the translation. Not trusted: Lean checks it.
import Derived.Test.YtgpnmifejgdipaaMy0
import Derived.Test.YtgpnmifejgdipaaMy7
namespace Go.Proofs.Ytgpnmifejgdipaa.My
open Go.RowKit Go.Proofs.YtgpnmifejgdipaaW.PrintWords Go.Proofs.YtgpnmifejgdipaaW.PrintLast Go.Proofs.YtgpnmifejgdipaaW.PrintMore
attribute [local go_sem] max2_int min2_int max_two min_two max_three min_three max_four min_four   -- for this text's walks alone
set_option linter.unusedVariables false
set_option linter.unusedSimpArgs false

/-! ### quadratref01_Valid: function 25 -/
def quadratref01_Valid.f (a0 : Int) (a1 : Int) : Option (Bool) := if a0 = 2 then (if a1 ≥ 0 then (some (decide (a1 < 65536))) else (some false)) else (if a0 = 4 then (if a1 ≥ 0 then (some (decide (a1 < 4294967296))) else (some false)) else (some (a0 == 8)))
set_option maxHeartbeats 8000000 in
set_option maxRecDepth 100000 in
theorem quadratref01_Valid.calls (a0 : Int) (a1 : Int) (r : Bool) (w : World) (h : quadratref01_Valid.f a0 a1 = some r) :
    Calls Try.prog 25 #[.int .i64 a0, .int .i64 a1] w fun e w' => e = .returned (.bool r) ∧ Drawn0 w w' := by
  have H : (if a0 = 2 then (if a1 ≥ 0 then (some (decide (a1 < 65536))) else (some false)) else (if a0 = 4 then (if a1 ≥ 0 then (some (decide (a1 < 4294967296))) else (some false)) else (some (a0 == 8)))) = some r := h
  clear h
  by_cases c3 : a0 = 2
  · rw [if_pos c3] at H
    have c3b0 : (a0 == 2) = true := beq_iff_eq.mpr c3
    have c3b1 : (a0 != 2) = false := bne_eq_false_iff_eq.mpr c3
    clear c3
    by_cases c4 : a1 ≥ 0
    · rw [if_pos c4] at H
      have c4b0 : decide (0 ≤ a1) = true := decide_eq_true c4
      clear c4
      obtain rfl := Option.some.inj H
      go_enter Try.func25, Try.ntmps25
      go_wp2
      go_ret
      exact ⟨by first | rfl | (simp; done) | (simp [*]; done), by repeat (first | exact Drawn0.refl _ | apply Drawn0.step)⟩
    · rw [if_neg c4] at H
      have c4b0 : decide (0 ≤ a1) = false := decide_eq_false c4
      clear c4
      obtain rfl := Option.some.inj H
      go_enter Try.func25, Try.ntmps25
      go_wp2
      go_ret
      exact ⟨by first | rfl | (simp; done) | (simp [*]; done), by repeat (first | exact Drawn0.refl _ | apply Drawn0.step)⟩
  · rw [if_neg c3] at H
    have c3b0 : (a0 == 2) = false := beq_eq_false_iff_ne.mpr c3
    have c3b1 : (a0 != 2) = true := bne_iff_ne.mpr c3
    by_cases c5 : a0 = 4
    · rw [if_pos c5] at H
      have c5b0 : (a0 == 4) = true := beq_iff_eq.mpr c5
      have c5b1 : (a0 != 4) = false := bne_eq_false_iff_eq.mpr c5
      clear c5
      by_cases c6 : a1 ≥ 0
      · rw [if_pos c6] at H
        have c6b0 : decide (0 ≤ a1) = true := decide_eq_true c6
        clear c6
        obtain rfl := Option.some.inj H
        go_enter Try.func25, Try.ntmps25
        go_wp2
        go_ret
        exact ⟨by first | rfl | (simp; done) | (simp [*]; done), by repeat (first | exact Drawn0.refl _ | apply Drawn0.step)⟩
      · rw [if_neg c6] at H
        have c6b0 : decide (0 ≤ a1) = false := decide_eq_false c6
        clear c6
        obtain rfl := Option.some.inj H
        go_enter Try.func25, Try.ntmps25
        go_wp2
        go_ret
        exact ⟨by first | rfl | (simp; done) | (simp [*]; done), by repeat (first | exact Drawn0.refl _ | apply Drawn0.step)⟩
    · rw [if_neg c5] at H
      have c5b0 : (a0 == 4) = false := beq_eq_false_iff_ne.mpr c5
      have c5b1 : (a0 != 4) = true := bne_iff_ne.mpr c5
      obtain rfl := Option.some.inj H
      go_enter Try.func25, Try.ntmps25
      go_wp2
      go_ret
      exact ⟨by first | rfl | (simp; done) | (simp [*]; done), by repeat (first | exact Drawn0.refl _ | apply Drawn0.step)⟩

/-! ### quadratref01_taken: function 43 -/
mutual
def quadratref01_taken.j0 : Nat → Int → Int → Int → Int → Int → Int → Bool → Option (ByteArray × Int × List Int × Int)
  | 0, _, _, _, _, _, _, _ => none
  | k + 1, x0, x5, x6, x8, x9, x10, x43 => if x43 = true then (some ((⟨#[105, 110, 102, 105, 110, 105, 116, 101]⟩ : ByteArray), x10, ([] : List Int), 0)) else (if 0 ≤ x6 then (if x9 = (wrap64 ((shl .i64 1 x6) - 1)) then (some ((⟨#[110, 111, 110, 101]⟩ : ByteArray), 0, ([] : List Int), 0)) else (if x9 = 0 then (quadratref01_taken.j1 k x0 x5 x8 x9 x10 (x8 == 0)) else (quadratref01_taken.j1 k x0 x5 x8 x9 x10 false))) else (none))
def quadratref01_taken.j1 : Nat → Int → Int → Int → Int → Int → Bool → Option (ByteArray × Int × List Int × Int)
  | 0, _, _, _, _, _, _ => none
  | k + 1, x0, x5, x8, x9, x10, x62 => if x62 = true then (some ((⟨#[122, 101, 114, 111]⟩ : ByteArray), x10, ([] : List Int), 0)) else (if x9 = 0 then ((quadratref01_Of.f k x8).bind fun t201 => ((quadratref01_least.f x0).bind fun t204 => (some ((⟨#[102, 105, 110, 105, 116, 101]⟩ : ByteArray), x10, t201, t204)))) else (if 0 ≤ (wrap64 (x5 - 1)) then ((quadratref01_Of.f k (wrap64 ((shl .i64 1 (wrap64 (x5 - 1))) + x8))).bind fun t205 => ((quadratref01_Bias.f x0).bind fun t208 => (some ((⟨#[102, 105, 110, 105, 116, 101]⟩ : ByteArray), x10, t205, wrap64 ((wrap64 ((wrap64 (x9 - t208)) - x5)) + 1))))) else (none)))
end
def quadratref01_taken.f (k : Nat) (a0 : Int) (a1 : Int) : Option (ByteArray × Int × List Int × Int) := (quadratref01_Digits.f a0).bind fun t200 => (if 0 ≤ (wrap64 (t200 - 1)) then (if 0 ≤ (wrap64 ((wrap64 (8 * a0)) - t200)) then (if 0 ≤ (wrap64 ((wrap64 (8 * a0)) - 1)) then (if (wrap64 (Go.bits .and .u64 (shr .u64 (IntKind.u64.wrap (a1)) (wrap64 (t200 - 1))) (IntKind.u64.wrap ((shl .u64 1 (wrap64 ((wrap64 (8 * a0)) - t200))) - 1)))) = (wrap64 ((shl .i64 1 (wrap64 ((wrap64 (8 * a0)) - t200))) - 1)) then (quadratref01_taken.j0 k a0 t200 (wrap64 ((wrap64 (8 * a0)) - t200)) (wrap64 (Go.bits .and .u64 (IntKind.u64.wrap (a1)) (IntKind.u64.wrap ((shl .u64 1 (wrap64 (t200 - 1))) - 1)))) (wrap64 (Go.bits .and .u64 (shr .u64 (IntKind.u64.wrap (a1)) (wrap64 (t200 - 1))) (IntKind.u64.wrap ((shl .u64 1 (wrap64 ((wrap64 (8 * a0)) - t200))) - 1)))) (wrap64 (Go.bits .and .u64 (shr .u64 (IntKind.u64.wrap (a1)) (wrap64 ((wrap64 (8 * a0)) - 1))) 1)) ((wrap64 (Go.bits .and .u64 (IntKind.u64.wrap (a1)) (IntKind.u64.wrap ((shl .u64 1 (wrap64 (t200 - 1))) - 1)))) == 0)) else (quadratref01_taken.j0 k a0 t200 (wrap64 ((wrap64 (8 * a0)) - t200)) (wrap64 (Go.bits .and .u64 (IntKind.u64.wrap (a1)) (IntKind.u64.wrap ((shl .u64 1 (wrap64 (t200 - 1))) - 1)))) (wrap64 (Go.bits .and .u64 (shr .u64 (IntKind.u64.wrap (a1)) (wrap64 (t200 - 1))) (IntKind.u64.wrap ((shl .u64 1 (wrap64 ((wrap64 (8 * a0)) - t200))) - 1)))) (wrap64 (Go.bits .and .u64 (shr .u64 (IntKind.u64.wrap (a1)) (wrap64 ((wrap64 (8 * a0)) - 1))) 1)) false)) else (none)) else (none)) else (none))
theorem quadratref01_taken.mono_l : ∀ k, (∀ y0 y1 y2 y3 y4 y5 y6, LeO (quadratref01_taken.j0 k y0 y1 y2 y3 y4 y5 y6) (quadratref01_taken.j0 (k + 1) y0 y1 y2 y3 y4 y5 y6)) ∧ (∀ y0 y1 y2 y3 y4 y5, LeO (quadratref01_taken.j1 k y0 y1 y2 y3 y4 y5) (quadratref01_taken.j1 (k + 1) y0 y1 y2 y3 y4 y5))
  | 0 => ⟨fun _ _ _ _ _ _ _ r h => by simp [quadratref01_taken.j0] at h, fun _ _ _ _ _ _ r h => by simp [quadratref01_taken.j1] at h⟩
  | k + 1 => by
    obtain ⟨ih0, ih1⟩ := quadratref01_taken.mono_l k
    refine ⟨?_, ?_⟩
    · intro y0 y1 y2 y3 y4 y5 y6
      unfold quadratref01_taken.j0
      repeat' first
      | (with_reducible exact ih0 _ _ _ _ _ _ _)
      | (with_reducible exact ih1 _ _ _ _ _ _)
      | (with_reducible exact quadratref01_Of.mono _ _)
      | (with_reducible exact LeO.refl _)
      | (with_reducible exact LeO.none _)
      | (with_reducible refine LeO.ite ?_ ?_)
      | (with_reducible refine LeO.bind ?_ (fun _ => ?_))
      | exact ih0 _ _ _ _ _ _ _
      | exact ih1 _ _ _ _ _ _
      | exact quadratref01_Of.mono _ _
      | exact LeO.none _
      | refine LeO.ite ?_ ?_
      | refine LeO.bind ?_ (fun _ => ?_)
    · intro y0 y1 y2 y3 y4 y5
      unfold quadratref01_taken.j1
      repeat' first
      | (with_reducible exact ih0 _ _ _ _ _ _ _)
      | (with_reducible exact ih1 _ _ _ _ _ _)
      | (with_reducible exact quadratref01_Of.mono _ _)
      | (with_reducible exact LeO.refl _)
      | (with_reducible exact LeO.none _)
      | (with_reducible refine LeO.ite ?_ ?_)
      | (with_reducible refine LeO.bind ?_ (fun _ => ?_))
      | exact ih0 _ _ _ _ _ _ _
      | exact ih1 _ _ _ _ _ _
      | exact quadratref01_Of.mono _ _
      | exact LeO.none _
      | refine LeO.ite ?_ ?_
      | refine LeO.bind ?_ (fun _ => ?_)
theorem quadratref01_taken.mono : ∀ a0 a1 k, LeO (quadratref01_taken.f k a0 a1) (quadratref01_taken.f (k + 1) a0 a1) := by
  intro a0 a1 k
  obtain ⟨ih0, ih1⟩ := quadratref01_taken.mono_l k
  unfold quadratref01_taken.f
  repeat' first
      | (with_reducible exact ih0 _ _ _ _ _ _ _)
      | (with_reducible exact ih1 _ _ _ _ _ _)
      | (with_reducible exact quadratref01_Of.mono _ _)
      | (with_reducible exact LeO.refl _)
      | (with_reducible exact LeO.none _)
      | (with_reducible refine LeO.ite ?_ ?_)
      | (with_reducible refine LeO.bind ?_ (fun _ => ?_))
      | exact ih0 _ _ _ _ _ _ _
      | exact ih1 _ _ _ _ _ _
      | exact quadratref01_Of.mono _ _
      | exact LeO.none _
      | refine LeO.ite ?_ ?_
      | refine LeO.bind ?_ (fun _ => ?_)
set_option maxHeartbeats 8000000 in
set_option maxRecDepth 100000 in
theorem quadratref01_taken.calls (k : Nat) (a0 : Int) (a1 : Int) (r1 : ByteArray) (r2 : Int) (r3 : List Int) (r4 : Int) (w : World) (h : quadratref01_taken.f k a0 a1 = some (r1, r2, r3, r4)) :
    Calls Try.prog 43 #[.int .i64 a0, .int .i64 a1] w fun e w' => ∃ v2_ : Value, e = .returned (.agg #[.string r1, .int .i64 r2, v2_, .int .i64 r4]) ∧ Kd.R (Kd.int .u8) 5 w' w.heap.size (fun _ => True) v2_ r3 ∧ Below w.heap.size w w' := by
  have hu54 := Try.underlying54
  have HB := Aside0.mk (Below.refl w.heap.size w)
  have H : ((quadratref01_Digits.f a0).bind fun t200 => (if 0 ≤ (wrap64 (t200 - 1)) then (if 0 ≤ (wrap64 ((wrap64 (8 * a0)) - t200)) then (if 0 ≤ (wrap64 ((wrap64 (8 * a0)) - 1)) then (if (wrap64 (Go.bits .and .u64 (shr .u64 (IntKind.u64.wrap (a1)) (wrap64 (t200 - 1))) (IntKind.u64.wrap ((shl .u64 1 (wrap64 ((wrap64 (8 * a0)) - t200))) - 1)))) = (wrap64 ((shl .i64 1 (wrap64 ((wrap64 (8 * a0)) - t200))) - 1)) then (quadratref01_taken.j0 k a0 t200 (wrap64 ((wrap64 (8 * a0)) - t200)) (wrap64 (Go.bits .and .u64 (IntKind.u64.wrap (a1)) (IntKind.u64.wrap ((shl .u64 1 (wrap64 (t200 - 1))) - 1)))) (wrap64 (Go.bits .and .u64 (shr .u64 (IntKind.u64.wrap (a1)) (wrap64 (t200 - 1))) (IntKind.u64.wrap ((shl .u64 1 (wrap64 ((wrap64 (8 * a0)) - t200))) - 1)))) (wrap64 (Go.bits .and .u64 (shr .u64 (IntKind.u64.wrap (a1)) (wrap64 ((wrap64 (8 * a0)) - 1))) 1)) ((wrap64 (Go.bits .and .u64 (IntKind.u64.wrap (a1)) (IntKind.u64.wrap ((shl .u64 1 (wrap64 (t200 - 1))) - 1)))) == 0)) else (quadratref01_taken.j0 k a0 t200 (wrap64 ((wrap64 (8 * a0)) - t200)) (wrap64 (Go.bits .and .u64 (IntKind.u64.wrap (a1)) (IntKind.u64.wrap ((shl .u64 1 (wrap64 (t200 - 1))) - 1)))) (wrap64 (Go.bits .and .u64 (shr .u64 (IntKind.u64.wrap (a1)) (wrap64 (t200 - 1))) (IntKind.u64.wrap ((shl .u64 1 (wrap64 ((wrap64 (8 * a0)) - t200))) - 1)))) (wrap64 (Go.bits .and .u64 (shr .u64 (IntKind.u64.wrap (a1)) (wrap64 ((wrap64 (8 * a0)) - 1))) 1)) false)) else (none)) else (none)) else (none))) = some (r1, r2, r3, r4) := h
  clear h
  replace H := Option.bind_eq_some_iff.mp H
  obtain ⟨t200, A30, H⟩ := H
  replace H : (if 0 ≤ (wrap64 (t200 - 1)) then (if 0 ≤ (wrap64 ((wrap64 (8 * a0)) - t200)) then (if 0 ≤ (wrap64 ((wrap64 (8 * a0)) - 1)) then (if (wrap64 (Go.bits .and .u64 (shr .u64 (IntKind.u64.wrap (a1)) (wrap64 (t200 - 1))) (IntKind.u64.wrap ((shl .u64 1 (wrap64 ((wrap64 (8 * a0)) - t200))) - 1)))) = (wrap64 ((shl .i64 1 (wrap64 ((wrap64 (8 * a0)) - t200))) - 1)) then (quadratref01_taken.j0 k a0 t200 (wrap64 ((wrap64 (8 * a0)) - t200)) (wrap64 (Go.bits .and .u64 (IntKind.u64.wrap (a1)) (IntKind.u64.wrap ((shl .u64 1 (wrap64 (t200 - 1))) - 1)))) (wrap64 (Go.bits .and .u64 (shr .u64 (IntKind.u64.wrap (a1)) (wrap64 (t200 - 1))) (IntKind.u64.wrap ((shl .u64 1 (wrap64 ((wrap64 (8 * a0)) - t200))) - 1)))) (wrap64 (Go.bits .and .u64 (shr .u64 (IntKind.u64.wrap (a1)) (wrap64 ((wrap64 (8 * a0)) - 1))) 1)) ((wrap64 (Go.bits .and .u64 (IntKind.u64.wrap (a1)) (IntKind.u64.wrap ((shl .u64 1 (wrap64 (t200 - 1))) - 1)))) == 0)) else (quadratref01_taken.j0 k a0 t200 (wrap64 ((wrap64 (8 * a0)) - t200)) (wrap64 (Go.bits .and .u64 (IntKind.u64.wrap (a1)) (IntKind.u64.wrap ((shl .u64 1 (wrap64 (t200 - 1))) - 1)))) (wrap64 (Go.bits .and .u64 (shr .u64 (IntKind.u64.wrap (a1)) (wrap64 (t200 - 1))) (IntKind.u64.wrap ((shl .u64 1 (wrap64 ((wrap64 (8 * a0)) - t200))) - 1)))) (wrap64 (Go.bits .and .u64 (shr .u64 (IntKind.u64.wrap (a1)) (wrap64 ((wrap64 (8 * a0)) - 1))) 1)) false)) else (none)) else (none)) else (none)) = some (r1, r2, r3, r4) := H
  have A3 := Aside0.mk A30
  clear A30
  obtain ⟨ji4, hji4⟩ : ∃ j_ : Int, (wrap64 (t200 - 1)) = j_ := ⟨_, rfl⟩
  replace H : (if 0 ≤ (ji4) then (if 0 ≤ (wrap64 ((wrap64 (8 * a0)) - t200)) then (if 0 ≤ (wrap64 ((wrap64 (8 * a0)) - 1)) then (if (wrap64 (Go.bits .and .u64 (shr .u64 (IntKind.u64.wrap (a1)) (ji4)) (IntKind.u64.wrap ((shl .u64 1 (wrap64 ((wrap64 (8 * a0)) - t200))) - 1)))) = (wrap64 ((shl .i64 1 (wrap64 ((wrap64 (8 * a0)) - t200))) - 1)) then (quadratref01_taken.j0 k a0 t200 (wrap64 ((wrap64 (8 * a0)) - t200)) (wrap64 (Go.bits .and .u64 (IntKind.u64.wrap (a1)) (IntKind.u64.wrap ((shl .u64 1 (ji4)) - 1)))) (wrap64 (Go.bits .and .u64 (shr .u64 (IntKind.u64.wrap (a1)) (ji4)) (IntKind.u64.wrap ((shl .u64 1 (wrap64 ((wrap64 (8 * a0)) - t200))) - 1)))) (wrap64 (Go.bits .and .u64 (shr .u64 (IntKind.u64.wrap (a1)) (wrap64 ((wrap64 (8 * a0)) - 1))) 1)) ((wrap64 (Go.bits .and .u64 (IntKind.u64.wrap (a1)) (IntKind.u64.wrap ((shl .u64 1 (ji4)) - 1)))) == 0)) else (quadratref01_taken.j0 k a0 t200 (wrap64 ((wrap64 (8 * a0)) - t200)) (wrap64 (Go.bits .and .u64 (IntKind.u64.wrap (a1)) (IntKind.u64.wrap ((shl .u64 1 (ji4)) - 1)))) (wrap64 (Go.bits .and .u64 (shr .u64 (IntKind.u64.wrap (a1)) (ji4)) (IntKind.u64.wrap ((shl .u64 1 (wrap64 ((wrap64 (8 * a0)) - t200))) - 1)))) (wrap64 (Go.bits .and .u64 (shr .u64 (IntKind.u64.wrap (a1)) (wrap64 ((wrap64 (8 * a0)) - 1))) 1)) false)) else (none)) else (none)) else (none)) = some (r1, r2, r3, r4) := by first | (rw [hji4] at H; exact H) | (simp only [hji4] at H ⊢; exact H)
  (try rw [hji4] at A3)
  have hji4w : (IntKind.i64.wrap (t200 - 1)) = ji4 := (i64_w _).trans hji4
  by_cases c5 : 0 ≤ (ji4)
  · rw [if_pos c5] at H
    have c5b0 := eq_true c5
    have c5b1 : decide (0 ≤ (ji4)) = true := decide_eq_true c5
    clear c5
    obtain ⟨ji6, hji6⟩ : ∃ j_ : Int, (shl .u64 1 (ji4)) = j_ := ⟨_, rfl⟩
    replace H : (if 0 ≤ (wrap64 ((wrap64 (8 * a0)) - t200)) then (if 0 ≤ (wrap64 ((wrap64 (8 * a0)) - 1)) then (if (wrap64 (Go.bits .and .u64 (shr .u64 (IntKind.u64.wrap (a1)) (ji4)) (IntKind.u64.wrap ((shl .u64 1 (wrap64 ((wrap64 (8 * a0)) - t200))) - 1)))) = (wrap64 ((shl .i64 1 (wrap64 ((wrap64 (8 * a0)) - t200))) - 1)) then (quadratref01_taken.j0 k a0 t200 (wrap64 ((wrap64 (8 * a0)) - t200)) (wrap64 (Go.bits .and .u64 (IntKind.u64.wrap (a1)) (IntKind.u64.wrap ((ji6) - 1)))) (wrap64 (Go.bits .and .u64 (shr .u64 (IntKind.u64.wrap (a1)) (ji4)) (IntKind.u64.wrap ((shl .u64 1 (wrap64 ((wrap64 (8 * a0)) - t200))) - 1)))) (wrap64 (Go.bits .and .u64 (shr .u64 (IntKind.u64.wrap (a1)) (wrap64 ((wrap64 (8 * a0)) - 1))) 1)) ((wrap64 (Go.bits .and .u64 (IntKind.u64.wrap (a1)) (IntKind.u64.wrap ((ji6) - 1)))) == 0)) else (quadratref01_taken.j0 k a0 t200 (wrap64 ((wrap64 (8 * a0)) - t200)) (wrap64 (Go.bits .and .u64 (IntKind.u64.wrap (a1)) (IntKind.u64.wrap ((ji6) - 1)))) (wrap64 (Go.bits .and .u64 (shr .u64 (IntKind.u64.wrap (a1)) (ji4)) (IntKind.u64.wrap ((shl .u64 1 (wrap64 ((wrap64 (8 * a0)) - t200))) - 1)))) (wrap64 (Go.bits .and .u64 (shr .u64 (IntKind.u64.wrap (a1)) (wrap64 ((wrap64 (8 * a0)) - 1))) 1)) false)) else (none)) else (none)) = some (r1, r2, r3, r4) := by first | (rw [hji6] at H; exact H) | (simp only [hji6] at H ⊢; exact H)
    (try rw [hji6] at A3)
    have hji6_ : (IntKind.u64.wrap (1 * 2 ^ min (ji4).toNat 64)) = ji6 := hji6
    have hji6z : (ji4) ≤ 64 → (IntKind.u64.wrap (1 * 2 ^ (ji4).toNat)) = ji6 := shl_small hji6
    have hji6u : (IntKind.u64.wrap (2 ^ min (ji4).toNat 64)) = ji6 := by have h_ := hji6_; rw [Int.one_mul] at h_; exact h_
    have hji6v : (ji4) ≤ 64 → (IntKind.u64.wrap (2 ^ (ji4).toNat)) = ji6 := fun hle_ => by have h_ := hji6z hle_; rw [Int.one_mul] at h_; exact h_
    have c7b0 := eq_true (of_decide_eq_true (by first | (with_reducible assumption) | assumption) : 0 ≤ (ji4))
    obtain ⟨ji8, hji8⟩ : ∃ j_ : Int, (shr .u64 (IntKind.u64.wrap (a1)) (ji4)) = j_ := ⟨_, rfl⟩
    replace H : (if 0 ≤ (wrap64 ((wrap64 (8 * a0)) - t200)) then (if 0 ≤ (wrap64 ((wrap64 (8 * a0)) - 1)) then (if (wrap64 (Go.bits .and .u64 (ji8) (IntKind.u64.wrap ((shl .u64 1 (wrap64 ((wrap64 (8 * a0)) - t200))) - 1)))) = (wrap64 ((shl .i64 1 (wrap64 ((wrap64 (8 * a0)) - t200))) - 1)) then (quadratref01_taken.j0 k a0 t200 (wrap64 ((wrap64 (8 * a0)) - t200)) (wrap64 (Go.bits .and .u64 (IntKind.u64.wrap (a1)) (IntKind.u64.wrap ((ji6) - 1)))) (wrap64 (Go.bits .and .u64 (ji8) (IntKind.u64.wrap ((shl .u64 1 (wrap64 ((wrap64 (8 * a0)) - t200))) - 1)))) (wrap64 (Go.bits .and .u64 (shr .u64 (IntKind.u64.wrap (a1)) (wrap64 ((wrap64 (8 * a0)) - 1))) 1)) ((wrap64 (Go.bits .and .u64 (IntKind.u64.wrap (a1)) (IntKind.u64.wrap ((ji6) - 1)))) == 0)) else (quadratref01_taken.j0 k a0 t200 (wrap64 ((wrap64 (8 * a0)) - t200)) (wrap64 (Go.bits .and .u64 (IntKind.u64.wrap (a1)) (IntKind.u64.wrap ((ji6) - 1)))) (wrap64 (Go.bits .and .u64 (ji8) (IntKind.u64.wrap ((shl .u64 1 (wrap64 ((wrap64 (8 * a0)) - t200))) - 1)))) (wrap64 (Go.bits .and .u64 (shr .u64 (IntKind.u64.wrap (a1)) (wrap64 ((wrap64 (8 * a0)) - 1))) 1)) false)) else (none)) else (none)) = some (r1, r2, r3, r4) := by first | (rw [hji8] at H; exact H) | (simp only [hji8] at H ⊢; exact H)
    (try rw [hji8] at A3)
    have hji8_ : ((IntKind.u64.wrap (a1)) / 2 ^ min (ji4).toNat 64) = ji8 := hji8
    have hji8z : (ji4) ≤ 64 → ((IntKind.u64.wrap (a1)) / 2 ^ (ji4).toNat) = ji8 := shr_small hji8
    obtain ⟨ji9, hji9⟩ : ∃ j_ : Int, (wrap64 ((wrap64 (8 * a0)) - t200)) = j_ := ⟨_, rfl⟩
    replace H : (if 0 ≤ (ji9) then (if 0 ≤ (wrap64 ((wrap64 (8 * a0)) - 1)) then (if (wrap64 (Go.bits .and .u64 (ji8) (IntKind.u64.wrap ((shl .u64 1 (ji9)) - 1)))) = (wrap64 ((shl .i64 1 (ji9)) - 1)) then (quadratref01_taken.j0 k a0 t200 ji9 (wrap64 (Go.bits .and .u64 (IntKind.u64.wrap (a1)) (IntKind.u64.wrap ((ji6) - 1)))) (wrap64 (Go.bits .and .u64 (ji8) (IntKind.u64.wrap ((shl .u64 1 (ji9)) - 1)))) (wrap64 (Go.bits .and .u64 (shr .u64 (IntKind.u64.wrap (a1)) (wrap64 ((wrap64 (8 * a0)) - 1))) 1)) ((wrap64 (Go.bits .and .u64 (IntKind.u64.wrap (a1)) (IntKind.u64.wrap ((ji6) - 1)))) == 0)) else (quadratref01_taken.j0 k a0 t200 ji9 (wrap64 (Go.bits .and .u64 (IntKind.u64.wrap (a1)) (IntKind.u64.wrap ((ji6) - 1)))) (wrap64 (Go.bits .and .u64 (ji8) (IntKind.u64.wrap ((shl .u64 1 (ji9)) - 1)))) (wrap64 (Go.bits .and .u64 (shr .u64 (IntKind.u64.wrap (a1)) (wrap64 ((wrap64 (8 * a0)) - 1))) 1)) false)) else (none)) else (none)) = some (r1, r2, r3, r4) := by first | (rw [hji9] at H; exact H) | (simp only [hji9] at H ⊢; exact H)
    (try rw [hji9] at A3)
    have hji9w : (IntKind.i64.wrap ((wrap64 (8 * a0)) - t200)) = ji9 := (i64_w _).trans hji9
    by_cases c10 : 0 ≤ (ji9)
    · rw [if_pos c10] at H
      have c10b0 := eq_true c10
      have c10b1 : decide (0 ≤ (ji9)) = true := decide_eq_true c10
      clear c10
      obtain ⟨ji11, hji11⟩ : ∃ j_ : Int, (shl .u64 1 (ji9)) = j_ := ⟨_, rfl⟩
      replace H : (if 0 ≤ (wrap64 ((wrap64 (8 * a0)) - 1)) then (if (wrap64 (Go.bits .and .u64 (ji8) (IntKind.u64.wrap ((ji11) - 1)))) = (wrap64 ((shl .i64 1 (ji9)) - 1)) then (quadratref01_taken.j0 k a0 t200 ji9 (wrap64 (Go.bits .and .u64 (IntKind.u64.wrap (a1)) (IntKind.u64.wrap ((ji6) - 1)))) (wrap64 (Go.bits .and .u64 (ji8) (IntKind.u64.wrap ((ji11) - 1)))) (wrap64 (Go.bits .and .u64 (shr .u64 (IntKind.u64.wrap (a1)) (wrap64 ((wrap64 (8 * a0)) - 1))) 1)) ((wrap64 (Go.bits .and .u64 (IntKind.u64.wrap (a1)) (IntKind.u64.wrap ((ji6) - 1)))) == 0)) else (quadratref01_taken.j0 k a0 t200 ji9 (wrap64 (Go.bits .and .u64 (IntKind.u64.wrap (a1)) (IntKind.u64.wrap ((ji6) - 1)))) (wrap64 (Go.bits .and .u64 (ji8) (IntKind.u64.wrap ((ji11) - 1)))) (wrap64 (Go.bits .and .u64 (shr .u64 (IntKind.u64.wrap (a1)) (wrap64 ((wrap64 (8 * a0)) - 1))) 1)) false)) else (none)) = some (r1, r2, r3, r4) := by first | (rw [hji11] at H; exact H) | (simp only [hji11] at H ⊢; exact H)
      (try rw [hji11] at A3)
      have hji11_ : (IntKind.u64.wrap (1 * 2 ^ min (ji9).toNat 64)) = ji11 := hji11
      have hji11z : (ji9) ≤ 64 → (IntKind.u64.wrap (1 * 2 ^ (ji9).toNat)) = ji11 := shl_small hji11
      have hji11u : (IntKind.u64.wrap (2 ^ min (ji9).toNat 64)) = ji11 := by have h_ := hji11_; rw [Int.one_mul] at h_; exact h_
      have hji11v : (ji9) ≤ 64 → (IntKind.u64.wrap (2 ^ (ji9).toNat)) = ji11 := fun hle_ => by have h_ := hji11z hle_; rw [Int.one_mul] at h_; exact h_
      obtain ⟨ji12, hji12⟩ : ∃ j_ : Int, (wrap64 ((wrap64 (8 * a0)) - 1)) = j_ := ⟨_, rfl⟩
      replace H : (if 0 ≤ (ji12) then (if (wrap64 (Go.bits .and .u64 (ji8) (IntKind.u64.wrap ((ji11) - 1)))) = (wrap64 ((shl .i64 1 (ji9)) - 1)) then (quadratref01_taken.j0 k a0 t200 ji9 (wrap64 (Go.bits .and .u64 (IntKind.u64.wrap (a1)) (IntKind.u64.wrap ((ji6) - 1)))) (wrap64 (Go.bits .and .u64 (ji8) (IntKind.u64.wrap ((ji11) - 1)))) (wrap64 (Go.bits .and .u64 (shr .u64 (IntKind.u64.wrap (a1)) (ji12)) 1)) ((wrap64 (Go.bits .and .u64 (IntKind.u64.wrap (a1)) (IntKind.u64.wrap ((ji6) - 1)))) == 0)) else (quadratref01_taken.j0 k a0 t200 ji9 (wrap64 (Go.bits .and .u64 (IntKind.u64.wrap (a1)) (IntKind.u64.wrap ((ji6) - 1)))) (wrap64 (Go.bits .and .u64 (ji8) (IntKind.u64.wrap ((ji11) - 1)))) (wrap64 (Go.bits .and .u64 (shr .u64 (IntKind.u64.wrap (a1)) (ji12)) 1)) false)) else (none)) = some (r1, r2, r3, r4) := by first | (rw [hji12] at H; exact H) | (simp only [hji12] at H ⊢; exact H)
      (try rw [hji12] at A3)
      have hji12w : (IntKind.i64.wrap ((wrap64 (8 * a0)) - 1)) = ji12 := (i64_w _).trans hji12
      by_cases c13 : 0 ≤ (ji12)
      · rw [if_pos c13] at H
        have c13b0 := eq_true c13
        have c13b1 : decide (0 ≤ (ji12)) = true := decide_eq_true c13
        clear c13
        obtain ⟨ji14, hji14⟩ : ∃ j_ : Int, (shr .u64 (IntKind.u64.wrap (a1)) (ji12)) = j_ := ⟨_, rfl⟩
        replace H : (if (wrap64 (Go.bits .and .u64 (ji8) (IntKind.u64.wrap ((ji11) - 1)))) = (wrap64 ((shl .i64 1 (ji9)) - 1)) then (quadratref01_taken.j0 k a0 t200 ji9 (wrap64 (Go.bits .and .u64 (IntKind.u64.wrap (a1)) (IntKind.u64.wrap ((ji6) - 1)))) (wrap64 (Go.bits .and .u64 (ji8) (IntKind.u64.wrap ((ji11) - 1)))) (wrap64 (Go.bits .and .u64 (ji14) 1)) ((wrap64 (Go.bits .and .u64 (IntKind.u64.wrap (a1)) (IntKind.u64.wrap ((ji6) - 1)))) == 0)) else (quadratref01_taken.j0 k a0 t200 ji9 (wrap64 (Go.bits .and .u64 (IntKind.u64.wrap (a1)) (IntKind.u64.wrap ((ji6) - 1)))) (wrap64 (Go.bits .and .u64 (ji8) (IntKind.u64.wrap ((ji11) - 1)))) (wrap64 (Go.bits .and .u64 (ji14) 1)) false)) = some (r1, r2, r3, r4) := by first | (rw [hji14] at H; exact H) | (simp only [hji14] at H ⊢; exact H)
        (try rw [hji14] at A3)
        have hji14_ : ((IntKind.u64.wrap (a1)) / 2 ^ min (ji12).toNat 64) = ji14 := hji14
        have hji14z : (ji12) ≤ 64 → ((IntKind.u64.wrap (a1)) / 2 ^ (ji12).toNat) = ji14 := shr_small hji14
        have HC15 := Aside0.mk H
        clear H
        go_enter Try.func43, Try.ntmps43
        go_upto_region 6 with (first | ((with_reducible refine gate_dst (N := 4) rfl ?_); refine box_event ?hg (N := 4) ?hd (cs := #[.string (⟨#[]⟩ : ByteArray), .int .i64 0, .slice none 0 0, .int .i64 0]) (t := 54) ?hr ?_; (case hd => rfl); (case hg => rfl); (case hr => first | (go_simp; done) | (go_simp; rfl)); intro gb199 hg w16 hbox hb; have n0_ := Aside0.mk (below_step (by repeat (first | (with_reducible first | exact HB.out | apply below_alloc | apply pw_below_drewN | apply below_drew1) | exact HB.out)) hb); have n1_ := Aside0.mk (hbox); have n2_ := Aside0.mk ((by rw [hg]; exact (below_size (by repeat (first | (with_reducible first | exact HB.out | apply below_alloc | apply pw_below_drewN | apply below_drew1) | exact HB.out))) : w.heap.size ≤ gb199)); have n3_ := Aside0.mk ((by rw [hg]; exact (below_size (by repeat (first | (with_reducible first | exact HB.out | apply below_alloc | apply pw_below_drewN | apply below_drew1) | exact HB.out))) : w.heap.size ≤ gb199)); clear HB; have HB := n0_; have BK199 := n1_; have GW199 := n2_; have GE199 := n3_; clear n0_ n1_ n2_ n3_; clear hb hbox hg) | (go_at_call 56; (with_reducible refine (quadratref01_Digits.calls a0 t200 _ A3.out).mono ?_); rintro e w' ⟨rfl, ⟨nd, rfl⟩⟩; (try first | exact ⟨rfl, _, World.drewN_drewN _ _ _⟩ | exact ⟨rfl, _, Eq.trans (World.drewN_drewN _ _ _) (congrArg (World.drewN _) (Nat.add_assoc _ _ _))⟩)))
        repeat (go_quiet (first | ((with_reducible refine gate_dst (N := 4) rfl ?_); refine box_event ?hg (N := 4) ?hd (cs := #[.string (⟨#[]⟩ : ByteArray), .int .i64 0, .slice none 0 0, .int .i64 0]) (t := 54) ?hr ?_; (case hd => rfl); (case hg => rfl); (case hr => first | (go_simp; done) | (go_simp; rfl)); intro gb199 hg w16 hbox hb; have n0_ := Aside0.mk (below_step (by repeat (first | (with_reducible first | exact HB.out | apply below_alloc | apply pw_below_drewN | apply below_drew1) | exact HB.out)) hb); have n1_ := Aside0.mk (hbox); have n2_ := Aside0.mk ((by rw [hg]; exact (below_size (by repeat (first | (with_reducible first | exact HB.out | apply below_alloc | apply pw_below_drewN | apply below_drew1) | exact HB.out))) : w.heap.size ≤ gb199)); have n3_ := Aside0.mk ((by rw [hg]; exact (below_size (by repeat (first | (with_reducible first | exact HB.out | apply below_alloc | apply pw_below_drewN | apply below_drew1) | exact HB.out))) : w.heap.size ≤ gb199)); clear HB; have HB := n0_; have BK199 := n1_; have GW199 := n2_; have GE199 := n3_; clear n0_ n1_ n2_ n3_; clear hb hbox hg) | (go_at_call 56; (with_reducible refine (quadratref01_Digits.calls a0 t200 _ A3.out).mono ?_); rintro e w' ⟨rfl, ⟨nd, rfl⟩⟩; (try first | exact ⟨rfl, _, World.drewN_drewN _ _ _⟩ | exact ⟨rfl, _, Eq.trans (World.drewN_drewN _ _ _) (congrArg (World.drewN _) (Nat.add_assoc _ _ _))⟩))); go_upto_region 6 with (first | ((with_reducible refine gate_dst (N := 4) rfl ?_); refine box_event ?hg (N := 4) ?hd (cs := #[.string (⟨#[]⟩ : ByteArray), .int .i64 0, .slice none 0 0, .int .i64 0]) (t := 54) ?hr ?_; (case hd => rfl); (case hg => rfl); (case hr => first | (go_simp; done) | (go_simp; rfl)); intro gb199 hg w16 hbox hb; have n0_ := Aside0.mk (below_step (by repeat (first | (with_reducible first | exact HB.out | apply below_alloc | apply pw_below_drewN | apply below_drew1) | exact HB.out)) hb); have n1_ := Aside0.mk (hbox); have n2_ := Aside0.mk ((by rw [hg]; exact (below_size (by repeat (first | (with_reducible first | exact HB.out | apply below_alloc | apply pw_below_drewN | apply below_drew1) | exact HB.out))) : w.heap.size ≤ gb199)); have n3_ := Aside0.mk ((by rw [hg]; exact (below_size (by repeat (first | (with_reducible first | exact HB.out | apply below_alloc | apply pw_below_drewN | apply below_drew1) | exact HB.out))) : w.heap.size ≤ gb199)); clear HB; have HB := n0_; have BK199 := n1_; have GW199 := n2_; have GE199 := n3_; clear n0_ n1_ n2_ n3_; clear hb hbox hg) | (go_at_call 56; (with_reducible refine (quadratref01_Digits.calls a0 t200 _ A3.out).mono ?_); rintro e w' ⟨rfl, ⟨nd, rfl⟩⟩; (try first | exact ⟨rfl, _, World.drewN_drewN _ _ _⟩ | exact ⟨rfl, _, Eq.trans (World.drewN_drewN _ _ _) (congrArg (World.drewN _) (Nat.add_assoc _ _ _))⟩))))
        (try simp only [Act.put, List.setIfInBounds_toArray, List.set_cons_zero, List.set_cons_succ])
        go_cut [43] (fun v43 wc => ∃ (kq : Nat) (x43_14 : Bool), v43 = .bool x43_14 ∧ Aside0 (quadratref01_taken.j0 kq a0 t200 ji9 (wrap64 (Go.bits .and .u64 (IntKind.u64.wrap (a1)) (IntKind.u64.wrap ((ji6) - 1)))) (wrap64 (Go.bits .and .u64 (ji8) (IntKind.u64.wrap ((ji11) - 1)))) (wrap64 (Go.bits .and .u64 (ji14) 1)) x43_14 = some (r1, r2, r3, r4)) ∧ Aside0 (kq ≤ k) ∧ Aside0 (wc.heap[gb199]? = some (.cells #[.string (⟨#[]⟩ : ByteArray), .int .i64 0, (.slice none 0 0), .int .i64 0] 54 (0, 0))) ∧ Aside0 (Below w.heap.size w wc))
        case first =>
          have H := HC15.out
          clear HC15
          have c17b0 := eq_true (of_decide_eq_true (by first | (with_reducible assumption) | assumption) : 0 ≤ (ji9))
          obtain ⟨ji18, hji18⟩ : ∃ j_ : Int, (shl .i64 1 (ji9)) = j_ := ⟨_, rfl⟩
          replace H : (if (wrap64 (Go.bits .and .u64 (ji8) (IntKind.u64.wrap ((ji11) - 1)))) = (wrap64 ((ji18) - 1)) then (quadratref01_taken.j0 k a0 t200 ji9 (wrap64 (Go.bits .and .u64 (IntKind.u64.wrap (a1)) (IntKind.u64.wrap ((ji6) - 1)))) (wrap64 (Go.bits .and .u64 (ji8) (IntKind.u64.wrap ((ji11) - 1)))) (wrap64 (Go.bits .and .u64 (ji14) 1)) ((wrap64 (Go.bits .and .u64 (IntKind.u64.wrap (a1)) (IntKind.u64.wrap ((ji6) - 1)))) == 0)) else (quadratref01_taken.j0 k a0 t200 ji9 (wrap64 (Go.bits .and .u64 (IntKind.u64.wrap (a1)) (IntKind.u64.wrap ((ji6) - 1)))) (wrap64 (Go.bits .and .u64 (ji8) (IntKind.u64.wrap ((ji11) - 1)))) (wrap64 (Go.bits .and .u64 (ji14) 1)) false)) = some (r1, r2, r3, r4) := by first | (rw [hji18] at H; exact H) | (simp only [hji18] at H ⊢; exact H)
          have hji18_ : (IntKind.i64.wrap (1 * 2 ^ min (ji9).toNat 64)) = ji18 := hji18
          have hji18z : (ji9) ≤ 64 → (IntKind.i64.wrap (1 * 2 ^ (ji9).toNat)) = ji18 := shl_small hji18
          have hji18u : (IntKind.i64.wrap (2 ^ min (ji9).toNat 64)) = ji18 := by have h_ := hji18_; rw [Int.one_mul] at h_; exact h_
          have hji18v : (ji9) ≤ 64 → (IntKind.i64.wrap (2 ^ (ji9).toNat)) = ji18 := fun hle_ => by have h_ := hji18z hle_; rw [Int.one_mul] at h_; exact h_
          have hji18y : (wrap64 (1 * 2 ^ min (ji9).toNat 64)) = ji18 := (i64_w _).symm.trans hji18_
          have hji18x : (ji9) ≤ 64 → (wrap64 (1 * 2 ^ (ji9).toNat)) = ji18 := fun h_ => (i64_w _).symm.trans (hji18z h_)
          by_cases c19 : (wrap64 (Go.bits .and .u64 (ji8) (IntKind.u64.wrap ((ji11) - 1)))) = (wrap64 ((ji18) - 1))
          · rw [if_pos c19] at H
            have c19b0 : ((wrap64 (Go.bits .and .u64 (ji8) (IntKind.u64.wrap ((ji11) - 1)))) == (wrap64 ((ji18) - 1))) = true := beq_iff_eq.mpr c19
            have c19b1 : ((wrap64 (Go.bits .and .u64 (ji8) (IntKind.u64.wrap ((ji11) - 1)))) != (wrap64 ((ji18) - 1))) = false := bne_eq_false_iff_eq.mpr c19
            clear c19
            (first | rw [c19b0] | (simp only [i64_w, i32_w]; rw [c19b0]) | skip)
            have H' := Aside0.mk H
            clear H
            go_wp2
            repeat (go_quiet (fail); try go_wp2)
            go_meet
            case rel => exact ⟨_, (((wrap64 (Go.bits .and .u64 (IntKind.u64.wrap (a1)) (IntKind.u64.wrap ((ji6) - 1)))) == 0)), (by first | rfl | (simp; done) | (simp only [← hji6] <;> (first | rfl | simp)) | (simp [*]; done)), (by first | exact H' | (simp only [hji4, hji6, hji8, hji9, hji11, hji12, hji14, hji18] at H' ⊢; exact H')), ⟨by first | omega | exact Nat.le_refl _⟩, ⟨by (with_reducible repeat (first | refine blk_drewN ?_ _ | refine blk_drew ?_ | refine blk_alloc ?_ _)); exact BK199.out⟩, ⟨by repeat (first | (with_reducible first | exact HB.out | apply below_alloc | apply pw_below_drewN | apply below_drew1 | refine below_set ?_ GE199.out) | exact HB.out)⟩⟩
          · rw [if_neg c19] at H
            have c19b0 : ((wrap64 (Go.bits .and .u64 (ji8) (IntKind.u64.wrap ((ji11) - 1)))) == (wrap64 ((ji18) - 1))) = false := beq_eq_false_iff_ne.mpr c19
            have c19b1 : ((wrap64 (Go.bits .and .u64 (ji8) (IntKind.u64.wrap ((ji11) - 1)))) != (wrap64 ((ji18) - 1))) = true := bne_iff_ne.mpr c19
            (first | rw [c19b0] | (simp only [i64_w, i32_w]; rw [c19b0]) | skip)
            have H' := Aside0.mk H
            clear H
            go_wp2
            repeat (go_quiet (fail); try go_wp2)
            go_meet
            case rel => exact ⟨_, (false), (by first | rfl | (simp; done) | (simp [*]; done)), (by first | exact H' | (simp only [hji4, hji6, hji8, hji9, hji11, hji12, hji14, hji18] at H' ⊢; exact H')), ⟨by first | omega | exact Nat.le_refl _⟩, ⟨by (with_reducible repeat (first | refine blk_drewN ?_ _ | refine blk_drew ?_ | refine blk_alloc ?_ _)); exact BK199.out⟩, ⟨by repeat (first | (with_reducible first | exact HB.out | apply below_alloc | apply pw_below_drewN | apply below_drew1 | refine below_set ?_ GE199.out) | exact HB.out)⟩⟩
        case rest =>
          clear HC15
          try clear c1
          try clear p2
          try clear c4
          try clear c5
          try clear c5b0
          try clear c5b1
          try clear p6
          try clear c7
          try clear c7b0
          try clear c10
          try clear c10b0
          try clear c10b1
          try clear c13
          try clear c13b0
          try clear c13b1
          try clear c17
          try clear c17b0
          try clear c19
          try clear c19b0
          try clear c19b1
          obtain ⟨kq, x43_14, rfl, HA, HJ14, BK199, HB⟩ := hcut
          cases kq with
          | zero => exact absurd HA.out (by simp [quadratref01_taken.j0])
          | succ kj14 =>
            have H := HA.out
            clear HA
            simp only [quadratref01_taken.j0] at H
            by_cases c20 : x43_14 = true
            · subst c20
              have H1 : (some ((⟨#[105, 110, 102, 105, 110, 105, 116, 101]⟩ : ByteArray), (wrap64 (Go.bits .and .u64 (ji14) 1)), ([] : List Int), 0)) = some (r1, r2, r3, r4) := by rw [if_pos rfl] at H; exact H
              clear H
              have H := H1
              clear H1
              simp only [Option.some.injEq, Prod.mk.injEq] at H
              obtain ⟨rfl, rfl, rfl, rfl⟩ := H
              have hcz21_0 : wc.cell? ⟨gb199, 0, none⟩ = some (.string (⟨#[]⟩ : ByteArray)) := (blk_cell BK199.out 0).trans rfl
              have hcz21_1 : wc.cell? ⟨gb199, 1, none⟩ = some (.int .i64 0) := (blk_cell BK199.out 1).trans rfl
              have hcz21_2 : wc.cell? ⟨gb199, 2, none⟩ = some (.slice none 0 0) := (blk_cell BK199.out 2).trans rfl
              have hcz21_3 : wc.cell? ⟨gb199, 3, none⟩ = some (.int .i64 0) := (blk_cell BK199.out 3).trans rfl
              have hfz21_0 := blk_frozen BK199.out 0
              have hfz21_1 := blk_frozen BK199.out 1
              have hfz21_2 := blk_frozen BK199.out 2
              have hfz21_3 := blk_frozen BK199.out 3
              go_wp2
              repeat (go_quiet (fail); try go_wp2)
              refine bodyPost_ret (results_cell_row rfl _ _ gb199 54 #[.string (⟨#[105, 110, 102, 105, 110, 105, 116, 101]⟩ : ByteArray), .int .i64 (wrap64 (Go.bits .and .u64 (ji14) 1)), .slice none 0 0, .int .i64 0] (0, 0) _ rfl (by (with_reducible repeat (first | refine blk_drewN ?_ _ | refine blk_drew ?_ | refine blk_alloc ?_ _)); refine blk_put (cs := #[.string (⟨#[105, 110, 102, 105, 110, 105, 116, 101]⟩ : ByteArray), .int .i64 (wrap64 (Go.bits .and .u64 (ji14) 1)), .slice none 0 0, .int .i64 0]) ?_ 3 _ rfl; (with_reducible repeat (first | refine blk_drewN ?_ _ | refine blk_drew ?_ | refine blk_alloc ?_ _)); refine blk_put (cs := #[.string (⟨#[105, 110, 102, 105, 110, 105, 116, 101]⟩ : ByteArray), .int .i64 (wrap64 (Go.bits .and .u64 (ji14) 1)), .slice none 0 0, .int .i64 0]) ?_ 2 _ rfl; (with_reducible repeat (first | refine blk_drewN ?_ _ | refine blk_drew ?_ | refine blk_alloc ?_ _)); refine blk_put (cs := #[.string (⟨#[105, 110, 102, 105, 110, 105, 116, 101]⟩ : ByteArray), .int .i64 0, .slice none 0 0, .int .i64 0]) ?_ 1 _ rfl; (with_reducible repeat (first | refine blk_drewN ?_ _ | refine blk_drew ?_ | refine blk_alloc ?_ _)); refine blk_put (cs := #[.string (⟨#[]⟩ : ByteArray), .int .i64 0, .slice none 0 0, .int .i64 0]) ?_ 0 _ rfl; (with_reducible repeat (first | refine blk_drewN ?_ _ | refine blk_drew ?_ | refine blk_alloc ?_ _)); exact BK199.out) Try.underlying54 rfl (by kernel_rfl)) rfl ?_
              exact ⟨_, by first | rfl | (simp [errW_none, errW_some] <;> rfl) | (simp only [← hji4, ← hji6, ← hji8, ← hji9, ← hji11, ← hji12, ← hji14]; first | rfl | (simp [errW_none, errW_some] <;> rfl)) | (simp [*, errW_none, errW_some] <;> rfl), by first | exact Kd.R_nil _ _ _ _ _ | exact Kd.N_nil _ _ _ _ _ | exact Kd.V_nil _ _ _ _ _ | exact Kd.Q_nil _ _ _ _ _ | exact Kd.S_nil _ _ _ _ _, by repeat (first | (with_reducible first | exact HB.out | apply below_alloc | apply pw_below_drewN | apply below_drew1 | refine below_set ?_ GE199.out) | exact HB.out)⟩
            · replace c20 := Bool.eq_false_iff.mpr c20
              subst c20
              have H1 : (if 0 ≤ ji9 then (if (wrap64 (Go.bits .and .u64 (ji8) (IntKind.u64.wrap ((ji11) - 1)))) = (wrap64 ((shl .i64 1 ji9) - 1)) then (some ((⟨#[110, 111, 110, 101]⟩ : ByteArray), 0, ([] : List Int), 0)) else (if (wrap64 (Go.bits .and .u64 (ji8) (IntKind.u64.wrap ((ji11) - 1)))) = 0 then (quadratref01_taken.j1 kj14 a0 t200 (wrap64 (Go.bits .and .u64 (IntKind.u64.wrap (a1)) (IntKind.u64.wrap ((ji6) - 1)))) (wrap64 (Go.bits .and .u64 (ji8) (IntKind.u64.wrap ((ji11) - 1)))) (wrap64 (Go.bits .and .u64 (ji14) 1)) ((wrap64 (Go.bits .and .u64 (IntKind.u64.wrap (a1)) (IntKind.u64.wrap ((ji6) - 1)))) == 0)) else (quadratref01_taken.j1 kj14 a0 t200 (wrap64 (Go.bits .and .u64 (IntKind.u64.wrap (a1)) (IntKind.u64.wrap ((ji6) - 1)))) (wrap64 (Go.bits .and .u64 (ji8) (IntKind.u64.wrap ((ji11) - 1)))) (wrap64 (Go.bits .and .u64 (ji14) 1)) false))) else (none)) = some (r1, r2, r3, r4) := by rw [if_neg (show ¬ (false = true) by decide)] at H; exact H
              clear H
              have H := H1
              clear H1
              by_cases c22 : 0 ≤ ji9
              · rw [if_pos c22] at H
                have c22b0 := eq_true c22
                have c22b1 : decide (0 ≤ ji9) = true := decide_eq_true c22
                clear c22
                obtain ⟨ji23, hji23⟩ : ∃ j_ : Int, (shl .i64 1 ji9) = j_ := ⟨_, rfl⟩
                replace H : (if (wrap64 (Go.bits .and .u64 (ji8) (IntKind.u64.wrap ((ji11) - 1)))) = (wrap64 ((ji23) - 1)) then (some ((⟨#[110, 111, 110, 101]⟩ : ByteArray), 0, ([] : List Int), 0)) else (if (wrap64 (Go.bits .and .u64 (ji8) (IntKind.u64.wrap ((ji11) - 1)))) = 0 then (quadratref01_taken.j1 kj14 a0 t200 (wrap64 (Go.bits .and .u64 (IntKind.u64.wrap (a1)) (IntKind.u64.wrap ((ji6) - 1)))) (wrap64 (Go.bits .and .u64 (ji8) (IntKind.u64.wrap ((ji11) - 1)))) (wrap64 (Go.bits .and .u64 (ji14) 1)) ((wrap64 (Go.bits .and .u64 (IntKind.u64.wrap (a1)) (IntKind.u64.wrap ((ji6) - 1)))) == 0)) else (quadratref01_taken.j1 kj14 a0 t200 (wrap64 (Go.bits .and .u64 (IntKind.u64.wrap (a1)) (IntKind.u64.wrap ((ji6) - 1)))) (wrap64 (Go.bits .and .u64 (ji8) (IntKind.u64.wrap ((ji11) - 1)))) (wrap64 (Go.bits .and .u64 (ji14) 1)) false))) = some (r1, r2, r3, r4) := by first | (rw [hji23] at H; exact H) | (simp only [hji23] at H ⊢; exact H)
                have hji23_ : (IntKind.i64.wrap (1 * 2 ^ min ji9.toNat 64)) = ji23 := hji23
                have hji23z : ji9 ≤ 64 → (IntKind.i64.wrap (1 * 2 ^ ji9.toNat)) = ji23 := shl_small hji23
                have hji23u : (IntKind.i64.wrap (2 ^ min ji9.toNat 64)) = ji23 := by have h_ := hji23_; rw [Int.one_mul] at h_; exact h_
                have hji23v : ji9 ≤ 64 → (IntKind.i64.wrap (2 ^ ji9.toNat)) = ji23 := fun hle_ => by have h_ := hji23z hle_; rw [Int.one_mul] at h_; exact h_
                have hji23y : (wrap64 (1 * 2 ^ min ji9.toNat 64)) = ji23 := (i64_w _).symm.trans hji23_
                have hji23x : ji9 ≤ 64 → (wrap64 (1 * 2 ^ ji9.toNat)) = ji23 := fun h_ => (i64_w _).symm.trans (hji23z h_)
                by_cases c24 : (wrap64 (Go.bits .and .u64 (ji8) (IntKind.u64.wrap ((ji11) - 1)))) = (wrap64 ((ji23) - 1))
                · rw [if_pos c24] at H
                  have c24b0 : ((wrap64 (Go.bits .and .u64 (ji8) (IntKind.u64.wrap ((ji11) - 1)))) == (wrap64 ((ji23) - 1))) = true := beq_iff_eq.mpr c24
                  have c24b1 : ((wrap64 (Go.bits .and .u64 (ji8) (IntKind.u64.wrap ((ji11) - 1)))) != (wrap64 ((ji23) - 1))) = false := bne_eq_false_iff_eq.mpr c24
                  clear c24
                  simp only [Option.some.injEq, Prod.mk.injEq] at H
                  obtain ⟨rfl, rfl, rfl, rfl⟩ := H
                  have hcz25_0 : wc.cell? ⟨gb199, 0, none⟩ = some (.string (⟨#[]⟩ : ByteArray)) := (blk_cell BK199.out 0).trans rfl
                  have hcz25_1 : wc.cell? ⟨gb199, 1, none⟩ = some (.int .i64 0) := (blk_cell BK199.out 1).trans rfl
                  have hcz25_2 : wc.cell? ⟨gb199, 2, none⟩ = some (.slice none 0 0) := (blk_cell BK199.out 2).trans rfl
                  have hcz25_3 : wc.cell? ⟨gb199, 3, none⟩ = some (.int .i64 0) := (blk_cell BK199.out 3).trans rfl
                  have hfz25_0 := blk_frozen BK199.out 0
                  have hfz25_1 := blk_frozen BK199.out 1
                  have hfz25_2 := blk_frozen BK199.out 2
                  have hfz25_3 := blk_frozen BK199.out 3
                  go_wp2
                  repeat (go_quiet (fail); try go_wp2)
                  refine bodyPost_ret (results_cell_row rfl _ _ gb199 54 #[.string (⟨#[110, 111, 110, 101]⟩ : ByteArray), .int .i64 0, .slice none 0 0, .int .i64 0] (0, 0) _ rfl (by (with_reducible repeat (first | refine blk_drewN ?_ _ | refine blk_drew ?_ | refine blk_alloc ?_ _)); refine blk_put (cs := #[.string (⟨#[110, 111, 110, 101]⟩ : ByteArray), .int .i64 0, .slice none 0 0, .int .i64 0]) ?_ 3 _ rfl; (with_reducible repeat (first | refine blk_drewN ?_ _ | refine blk_drew ?_ | refine blk_alloc ?_ _)); refine blk_put (cs := #[.string (⟨#[110, 111, 110, 101]⟩ : ByteArray), .int .i64 0, .slice none 0 0, .int .i64 0]) ?_ 2 _ rfl; (with_reducible repeat (first | refine blk_drewN ?_ _ | refine blk_drew ?_ | refine blk_alloc ?_ _)); refine blk_put (cs := #[.string (⟨#[110, 111, 110, 101]⟩ : ByteArray), .int .i64 0, .slice none 0 0, .int .i64 0]) ?_ 1 _ rfl; (with_reducible repeat (first | refine blk_drewN ?_ _ | refine blk_drew ?_ | refine blk_alloc ?_ _)); refine blk_put (cs := #[.string (⟨#[]⟩ : ByteArray), .int .i64 0, .slice none 0 0, .int .i64 0]) ?_ 0 _ rfl; (with_reducible repeat (first | refine blk_drewN ?_ _ | refine blk_drew ?_ | refine blk_alloc ?_ _)); exact BK199.out) Try.underlying54 rfl (by kernel_rfl)) rfl ?_
                  exact ⟨_, by first | rfl | (simp [errW_none, errW_some] <;> rfl) | (simp only [← hji4, ← hji6, ← hji8, ← hji9, ← hji11, ← hji12, ← hji14, ← hji23]; first | rfl | (simp [errW_none, errW_some] <;> rfl)) | (simp [*, errW_none, errW_some] <;> rfl), by first | exact Kd.R_nil _ _ _ _ _ | exact Kd.N_nil _ _ _ _ _ | exact Kd.V_nil _ _ _ _ _ | exact Kd.Q_nil _ _ _ _ _ | exact Kd.S_nil _ _ _ _ _, by repeat (first | (with_reducible first | exact HB.out | apply below_alloc | apply pw_below_drewN | apply below_drew1 | refine below_set ?_ GE199.out) | exact HB.out)⟩
                · rw [if_neg c24] at H
                  have c24b0 : ((wrap64 (Go.bits .and .u64 (ji8) (IntKind.u64.wrap ((ji11) - 1)))) == (wrap64 ((ji23) - 1))) = false := beq_eq_false_iff_ne.mpr c24
                  have c24b1 : ((wrap64 (Go.bits .and .u64 (ji8) (IntKind.u64.wrap ((ji11) - 1)))) != (wrap64 ((ji23) - 1))) = true := bne_iff_ne.mpr c24
                  have HC26 := Aside0.mk H
                  clear H
                  go_upto_region 10 with (fail)
                  repeat (go_quiet (fail); go_upto_region 10 with (fail))
                  go_cut [62] (fun v62 wc => ∃ (kq : Nat) (x62_25 : Bool), v62 = .bool x62_25 ∧ Aside0 (quadratref01_taken.j1 kq a0 t200 (wrap64 (Go.bits .and .u64 (IntKind.u64.wrap (a1)) (IntKind.u64.wrap ((ji6) - 1)))) (wrap64 (Go.bits .and .u64 (ji8) (IntKind.u64.wrap ((ji11) - 1)))) (wrap64 (Go.bits .and .u64 (ji14) 1)) x62_25 = some (r1, r2, r3, r4)) ∧ Aside0 (kq ≤ kj14) ∧ Aside0 (wc.heap[gb199]? = some (.cells #[.string (⟨#[]⟩ : ByteArray), .int .i64 0, (.slice none 0 0), .int .i64 0] 54 (0, 0))) ∧ Aside0 (Below w.heap.size w wc))
                  case first =>
                    have H := HC26.out
                    clear HC26
                    by_cases c27 : (wrap64 (Go.bits .and .u64 (ji8) (IntKind.u64.wrap ((ji11) - 1)))) = 0
                    · rw [if_pos c27] at H
                      have c27b0 : ((wrap64 (Go.bits .and .u64 (ji8) (IntKind.u64.wrap ((ji11) - 1)))) == 0) = true := beq_iff_eq.mpr c27
                      have c27b1 : ((wrap64 (Go.bits .and .u64 (ji8) (IntKind.u64.wrap ((ji11) - 1)))) != 0) = false := bne_eq_false_iff_eq.mpr c27
                      clear c27
                      (first | rw [c27b0] | (simp only [i64_w, i32_w]; rw [c27b0]) | skip)
                      have H' := Aside0.mk H
                      clear H
                      go_wp2
                      repeat (go_quiet (fail); try go_wp2)
                      go_meet
                      case rel => exact ⟨_, (((wrap64 (Go.bits .and .u64 (IntKind.u64.wrap (a1)) (IntKind.u64.wrap ((ji6) - 1)))) == 0)), (by first | rfl | (simp; done) | (simp only [← hji6] <;> (first | rfl | simp)) | (simp [*]; done)), (by first | exact H' | (simp only [hji4, hji6, hji8, hji9, hji11, hji12, hji14, hji23] at H' ⊢; exact H')), ⟨by have := HJ14.out; first | omega | exact Nat.le_refl _⟩, ⟨by (with_reducible repeat (first | refine blk_drewN ?_ _ | refine blk_drew ?_ | refine blk_alloc ?_ _)); exact BK199.out⟩, ⟨by repeat (first | (with_reducible first | exact HB.out | apply below_alloc | apply pw_below_drewN | apply below_drew1 | refine below_set ?_ GE199.out) | exact HB.out)⟩⟩
                    · rw [if_neg c27] at H
                      have c27b0 : ((wrap64 (Go.bits .and .u64 (ji8) (IntKind.u64.wrap ((ji11) - 1)))) == 0) = false := beq_eq_false_iff_ne.mpr c27
                      have c27b1 : ((wrap64 (Go.bits .and .u64 (ji8) (IntKind.u64.wrap ((ji11) - 1)))) != 0) = true := bne_iff_ne.mpr c27
                      (first | rw [c27b0] | (simp only [i64_w, i32_w]; rw [c27b0]) | skip)
                      have H' := Aside0.mk H
                      clear H
                      go_wp2
                      repeat (go_quiet (fail); try go_wp2)
                      go_meet
                      case rel => exact ⟨_, (false), (by first | rfl | (simp; done) | (simp [*]; done)), (by first | exact H' | (simp only [hji4, hji6, hji8, hji9, hji11, hji12, hji14, hji23] at H' ⊢; exact H')), ⟨by have := HJ14.out; first | omega | exact Nat.le_refl _⟩, ⟨by (with_reducible repeat (first | refine blk_drewN ?_ _ | refine blk_drew ?_ | refine blk_alloc ?_ _)); exact BK199.out⟩, ⟨by repeat (first | (with_reducible first | exact HB.out | apply below_alloc | apply pw_below_drewN | apply below_drew1 | refine below_set ?_ GE199.out) | exact HB.out)⟩⟩
                  case rest =>
                    clear HC26
                    try clear c1
                    try clear c2
                    try clear p2
                    try clear c4
                    try clear c5
                    try clear c5b0
                    try clear c5b1
                    try clear p6
                    try clear c7
                    try clear c7b0
                    try clear c10
                    try clear c10b0
                    try clear c10b1
                    try clear c13
                    try clear c13b0
                    try clear c13b1
                    try clear c17
                    try clear c17b0
                    try clear c19
                    try clear c19b0
                    try clear c19b1
                    try clear c20
                    try clear c22
                    try clear c22b0
                    try clear c22b1
                    try clear c24
                    try clear c24b0
                    try clear c24b1
                    try clear c27
                    try clear c27b0
                    try clear c27b1
                    try clear hcz21_0
                    try clear hcz21_1
                    try clear hcz21_2
                    try clear hcz21_3
                    try clear hcz25_0
                    try clear hcz25_1
                    try clear hcz25_2
                    try clear hcz25_3
                    try clear hfz21_0
                    try clear hfz21_1
                    try clear hfz21_2
                    try clear hfz21_3
                    try clear hfz25_0
                    try clear hfz25_1
                    try clear hfz25_2
                    try clear hfz25_3
                    try clear p2
                    try clear p6
                    obtain ⟨kq, x62_25, rfl, HA, HJ25, BK199, HB⟩ := hcut
                    cases kq with
                    | zero => exact absurd HA.out (by simp [quadratref01_taken.j1])
                    | succ kj25 =>
                      have H := HA.out
                      clear HA
                      simp only [quadratref01_taken.j1] at H
                      by_cases c28 : x62_25 = true
                      · subst c28
                        have H1 : (some ((⟨#[122, 101, 114, 111]⟩ : ByteArray), (wrap64 (Go.bits .and .u64 (ji14) 1)), ([] : List Int), 0)) = some (r1, r2, r3, r4) := by rw [if_pos rfl] at H; exact H
                        clear H
                        have H := H1
                        clear H1
                        simp only [Option.some.injEq, Prod.mk.injEq] at H
                        obtain ⟨rfl, rfl, rfl, rfl⟩ := H
                        have hcz29_0 : wc.cell? ⟨gb199, 0, none⟩ = some (.string (⟨#[]⟩ : ByteArray)) := (blk_cell BK199.out 0).trans rfl
                        have hcz29_1 : wc.cell? ⟨gb199, 1, none⟩ = some (.int .i64 0) := (blk_cell BK199.out 1).trans rfl
                        have hcz29_2 : wc.cell? ⟨gb199, 2, none⟩ = some (.slice none 0 0) := (blk_cell BK199.out 2).trans rfl
                        have hcz29_3 : wc.cell? ⟨gb199, 3, none⟩ = some (.int .i64 0) := (blk_cell BK199.out 3).trans rfl
                        have hfz29_0 := blk_frozen BK199.out 0
                        have hfz29_1 := blk_frozen BK199.out 1
                        have hfz29_2 := blk_frozen BK199.out 2
                        have hfz29_3 := blk_frozen BK199.out 3
                        go_wp2
                        repeat (go_quiet (fail); try go_wp2)
                        refine bodyPost_ret (results_cell_row rfl _ _ gb199 54 #[.string (⟨#[122, 101, 114, 111]⟩ : ByteArray), .int .i64 (wrap64 (Go.bits .and .u64 (ji14) 1)), .slice none 0 0, .int .i64 0] (0, 0) _ rfl (by (with_reducible repeat (first | refine blk_drewN ?_ _ | refine blk_drew ?_ | refine blk_alloc ?_ _)); refine blk_put (cs := #[.string (⟨#[122, 101, 114, 111]⟩ : ByteArray), .int .i64 (wrap64 (Go.bits .and .u64 (ji14) 1)), .slice none 0 0, .int .i64 0]) ?_ 3 _ rfl; (with_reducible repeat (first | refine blk_drewN ?_ _ | refine blk_drew ?_ | refine blk_alloc ?_ _)); refine blk_put (cs := #[.string (⟨#[122, 101, 114, 111]⟩ : ByteArray), .int .i64 (wrap64 (Go.bits .and .u64 (ji14) 1)), .slice none 0 0, .int .i64 0]) ?_ 2 _ rfl; (with_reducible repeat (first | refine blk_drewN ?_ _ | refine blk_drew ?_ | refine blk_alloc ?_ _)); refine blk_put (cs := #[.string (⟨#[122, 101, 114, 111]⟩ : ByteArray), .int .i64 0, .slice none 0 0, .int .i64 0]) ?_ 1 _ rfl; (with_reducible repeat (first | refine blk_drewN ?_ _ | refine blk_drew ?_ | refine blk_alloc ?_ _)); refine blk_put (cs := #[.string (⟨#[]⟩ : ByteArray), .int .i64 0, .slice none 0 0, .int .i64 0]) ?_ 0 _ rfl; (with_reducible repeat (first | refine blk_drewN ?_ _ | refine blk_drew ?_ | refine blk_alloc ?_ _)); exact BK199.out) Try.underlying54 rfl (by kernel_rfl)) rfl ?_
                        exact ⟨_, by first | rfl | (simp [errW_none, errW_some] <;> rfl) | (simp only [← hji4, ← hji6, ← hji8, ← hji9, ← hji11, ← hji12, ← hji14, ← hji23]; first | rfl | (simp [errW_none, errW_some] <;> rfl)) | (simp [*, errW_none, errW_some] <;> rfl), by first | exact Kd.R_nil _ _ _ _ _ | exact Kd.N_nil _ _ _ _ _ | exact Kd.V_nil _ _ _ _ _ | exact Kd.Q_nil _ _ _ _ _ | exact Kd.S_nil _ _ _ _ _, by repeat (first | (with_reducible first | exact HB.out | apply below_alloc | apply pw_below_drewN | apply below_drew1 | refine below_set ?_ GE199.out) | exact HB.out)⟩
                      · replace c28 := Bool.eq_false_iff.mpr c28
                        subst c28
                        have H1 : (if (wrap64 (Go.bits .and .u64 (ji8) (IntKind.u64.wrap ((ji11) - 1)))) = 0 then ((quadratref01_Of.f kj25 (wrap64 (Go.bits .and .u64 (IntKind.u64.wrap (a1)) (IntKind.u64.wrap ((ji6) - 1))))).bind fun t201 => ((quadratref01_least.f a0).bind fun t204 => (some ((⟨#[102, 105, 110, 105, 116, 101]⟩ : ByteArray), (wrap64 (Go.bits .and .u64 (ji14) 1)), t201, t204)))) else (if 0 ≤ (wrap64 (t200 - 1)) then ((quadratref01_Of.f kj25 (wrap64 ((shl .i64 1 (wrap64 (t200 - 1))) + (wrap64 (Go.bits .and .u64 (IntKind.u64.wrap (a1)) (IntKind.u64.wrap ((ji6) - 1))))))).bind fun t205 => ((quadratref01_Bias.f a0).bind fun t208 => (some ((⟨#[102, 105, 110, 105, 116, 101]⟩ : ByteArray), (wrap64 (Go.bits .and .u64 (ji14) 1)), t205, wrap64 ((wrap64 ((wrap64 ((wrap64 (Go.bits .and .u64 (ji8) (IntKind.u64.wrap ((ji11) - 1)))) - t208)) - t200)) + 1))))) else (none))) = some (r1, r2, r3, r4) := by rw [if_neg (show ¬ (false = true) by decide)] at H; exact H
                        clear H
                        have H := H1
                        clear H1
                        by_cases c30 : (wrap64 (Go.bits .and .u64 (ji8) (IntKind.u64.wrap ((ji11) - 1)))) = 0
                        · rw [if_pos c30] at H
                          have c30b0 : ((wrap64 (Go.bits .and .u64 (ji8) (IntKind.u64.wrap ((ji11) - 1)))) == 0) = true := beq_iff_eq.mpr c30
                          have c30b1 : ((wrap64 (Go.bits .and .u64 (ji8) (IntKind.u64.wrap ((ji11) - 1)))) != 0) = false := bne_eq_false_iff_eq.mpr c30
                          clear c30
                          replace H := Option.bind_eq_some_iff.mp H
                          obtain ⟨t201, A310, H⟩ := H
                          replace H : ((quadratref01_least.f a0).bind fun t204 => (some ((⟨#[102, 105, 110, 105, 116, 101]⟩ : ByteArray), (wrap64 (Go.bits .and .u64 (ji14) 1)), t201, t204))) = some (r1, r2, r3, r4) := H
                          have A31 := Aside0.mk A310
                          clear A310
                          replace H := Option.bind_eq_some_iff.mp H
                          obtain ⟨t204, A320, H⟩ := H
                          replace H : (some ((⟨#[102, 105, 110, 105, 116, 101]⟩ : ByteArray), (wrap64 (Go.bits .and .u64 (ji14) 1)), t201, t204)) = some (r1, r2, r3, r4) := H
                          have A32 := Aside0.mk A320
                          clear A320
                          simp only [Option.some.injEq, Prod.mk.injEq] at H
                          obtain ⟨rfl, rfl, rfl, rfl⟩ := H
                          go_wp2_with (first | (go_at_call 58; (with_reducible refine (quadratref01_Of.calls kj25 (wrap64 (Go.bits .and .u64 (IntKind.u64.wrap (a1)) (IntKind.u64.wrap ((ji6) - 1)))) t201 _ A31.out).mono ?_); rintro e w33 ⟨v202, rfl, ho0, hb⟩; have n0_ := Aside0.mk (Kd.R_lower ho0 (below_size (by repeat (first | (with_reducible first | exact HB.out | apply below_alloc | apply pw_below_drewN | apply below_drew1 | refine below_set ?_ GE199.out) | exact HB.out)))); have n1_ := Aside0.mk (blk_below (g := gb199) (o := .cells #[.string (⟨#[]⟩ : ByteArray), .int .i64 0, .slice none 0 0, .int .i64 0] 54 (0, 0)) (by (with_reducible repeat (first | refine blk_drewN ?_ _ | refine blk_drew ?_ | refine blk_alloc ?_ _)); exact BK199.out) hb); have n2_ := Aside0.mk (below_step (by repeat (first | (with_reducible first | exact HB.out | apply below_alloc | apply pw_below_drewN | apply below_drew1 | refine below_set ?_ GE199.out) | exact HB.out)) hb); clear BK199; clear HB; have HO203 := n0_; have BK199 := n1_; have HB := n2_; clear n0_ n1_ n2_; (try clear hb); (try clear hb2); (try clear hk); (try clear hi); (try clear ho0)) | (go_at_call 82; (with_reducible refine (quadratref01_least.calls a0 t204 _ A32.out).mono ?_); rintro e w' ⟨rfl, ⟨nd, rfl⟩⟩; (try first | exact ⟨rfl, _, World.drewN_drewN _ _ _⟩ | exact ⟨rfl, _, Eq.trans (World.drewN_drewN _ _ _) (congrArg (World.drewN _) (Nat.add_assoc _ _ _))⟩); obtain ⟨Ao34, co34, eo34⟩ := Kd.R_slice HO203.out; subst eo34; have hcz35_0 : w33.cell? ⟨gb199, 0, none⟩ = some (.string (⟨#[]⟩ : ByteArray)) := (blk_cell BK199.out 0).trans rfl; have hcz35_1 : w33.cell? ⟨gb199, 1, none⟩ = some (.int .i64 0) := (blk_cell BK199.out 1).trans rfl; have hcz35_2 : w33.cell? ⟨gb199, 2, none⟩ = some (.slice none 0 0) := (blk_cell BK199.out 2).trans rfl; have hcz35_3 : w33.cell? ⟨gb199, 3, none⟩ = some (.int .i64 0) := (blk_cell BK199.out 3).trans rfl; have hfz35_0 := blk_frozen BK199.out 0; have hfz35_1 := blk_frozen BK199.out 1; have hfz35_2 := blk_frozen BK199.out 2; have hfz35_3 := blk_frozen BK199.out 3))
                          repeat (go_quiet (first | (go_at_call 58; (with_reducible refine (quadratref01_Of.calls kj25 (wrap64 (Go.bits .and .u64 (IntKind.u64.wrap (a1)) (IntKind.u64.wrap ((ji6) - 1)))) t201 _ A31.out).mono ?_); rintro e w33 ⟨v202, rfl, ho0, hb⟩; have n0_ := Aside0.mk (Kd.R_lower ho0 (below_size (by repeat (first | (with_reducible first | exact HB.out | apply below_alloc | apply pw_below_drewN | apply below_drew1 | refine below_set ?_ GE199.out) | exact HB.out)))); have n1_ := Aside0.mk (blk_below (g := gb199) (o := .cells #[.string (⟨#[]⟩ : ByteArray), .int .i64 0, .slice none 0 0, .int .i64 0] 54 (0, 0)) (by (with_reducible repeat (first | refine blk_drewN ?_ _ | refine blk_drew ?_ | refine blk_alloc ?_ _)); exact BK199.out) hb); have n2_ := Aside0.mk (below_step (by repeat (first | (with_reducible first | exact HB.out | apply below_alloc | apply pw_below_drewN | apply below_drew1 | refine below_set ?_ GE199.out) | exact HB.out)) hb); clear BK199; clear HB; have HO203 := n0_; have BK199 := n1_; have HB := n2_; clear n0_ n1_ n2_; (try clear hb); (try clear hb2); (try clear hk); (try clear hi); (try clear ho0)) | (go_at_call 82; (with_reducible refine (quadratref01_least.calls a0 t204 _ A32.out).mono ?_); rintro e w' ⟨rfl, ⟨nd, rfl⟩⟩; (try first | exact ⟨rfl, _, World.drewN_drewN _ _ _⟩ | exact ⟨rfl, _, Eq.trans (World.drewN_drewN _ _ _) (congrArg (World.drewN _) (Nat.add_assoc _ _ _))⟩); obtain ⟨Ao34, co34, eo34⟩ := Kd.R_slice HO203.out; subst eo34; have hcz35_0 : w33.cell? ⟨gb199, 0, none⟩ = some (.string (⟨#[]⟩ : ByteArray)) := (blk_cell BK199.out 0).trans rfl; have hcz35_1 : w33.cell? ⟨gb199, 1, none⟩ = some (.int .i64 0) := (blk_cell BK199.out 1).trans rfl; have hcz35_2 : w33.cell? ⟨gb199, 2, none⟩ = some (.slice none 0 0) := (blk_cell BK199.out 2).trans rfl; have hcz35_3 : w33.cell? ⟨gb199, 3, none⟩ = some (.int .i64 0) := (blk_cell BK199.out 3).trans rfl; have hfz35_0 := blk_frozen BK199.out 0; have hfz35_1 := blk_frozen BK199.out 1; have hfz35_2 := blk_frozen BK199.out 2; have hfz35_3 := blk_frozen BK199.out 3)); try go_wp2_with (first | (go_at_call 58; (with_reducible refine (quadratref01_Of.calls kj25 (wrap64 (Go.bits .and .u64 (IntKind.u64.wrap (a1)) (IntKind.u64.wrap ((ji6) - 1)))) t201 _ A31.out).mono ?_); rintro e w33 ⟨v202, rfl, ho0, hb⟩; have n0_ := Aside0.mk (Kd.R_lower ho0 (below_size (by repeat (first | (with_reducible first | exact HB.out | apply below_alloc | apply pw_below_drewN | apply below_drew1 | refine below_set ?_ GE199.out) | exact HB.out)))); have n1_ := Aside0.mk (blk_below (g := gb199) (o := .cells #[.string (⟨#[]⟩ : ByteArray), .int .i64 0, .slice none 0 0, .int .i64 0] 54 (0, 0)) (by (with_reducible repeat (first | refine blk_drewN ?_ _ | refine blk_drew ?_ | refine blk_alloc ?_ _)); exact BK199.out) hb); have n2_ := Aside0.mk (below_step (by repeat (first | (with_reducible first | exact HB.out | apply below_alloc | apply pw_below_drewN | apply below_drew1 | refine below_set ?_ GE199.out) | exact HB.out)) hb); clear BK199; clear HB; have HO203 := n0_; have BK199 := n1_; have HB := n2_; clear n0_ n1_ n2_; (try clear hb); (try clear hb2); (try clear hk); (try clear hi); (try clear ho0)) | (go_at_call 82; (with_reducible refine (quadratref01_least.calls a0 t204 _ A32.out).mono ?_); rintro e w' ⟨rfl, ⟨nd, rfl⟩⟩; (try first | exact ⟨rfl, _, World.drewN_drewN _ _ _⟩ | exact ⟨rfl, _, Eq.trans (World.drewN_drewN _ _ _) (congrArg (World.drewN _) (Nat.add_assoc _ _ _))⟩); obtain ⟨Ao34, co34, eo34⟩ := Kd.R_slice HO203.out; subst eo34; have hcz35_0 : w33.cell? ⟨gb199, 0, none⟩ = some (.string (⟨#[]⟩ : ByteArray)) := (blk_cell BK199.out 0).trans rfl; have hcz35_1 : w33.cell? ⟨gb199, 1, none⟩ = some (.int .i64 0) := (blk_cell BK199.out 1).trans rfl; have hcz35_2 : w33.cell? ⟨gb199, 2, none⟩ = some (.slice none 0 0) := (blk_cell BK199.out 2).trans rfl; have hcz35_3 : w33.cell? ⟨gb199, 3, none⟩ = some (.int .i64 0) := (blk_cell BK199.out 3).trans rfl; have hfz35_0 := blk_frozen BK199.out 0; have hfz35_1 := blk_frozen BK199.out 1; have hfz35_2 := blk_frozen BK199.out 2; have hfz35_3 := blk_frozen BK199.out 3)))
                          refine bodyPost_ret (results_cell_row rfl _ _ gb199 54 #[.string (⟨#[102, 105, 110, 105, 116, 101]⟩ : ByteArray), .int .i64 (wrap64 (Go.bits .and .u64 (ji14) 1)), .slice Ao34 t201.length co34, .int .i64 t204] (0, 0) _ rfl (by (with_reducible repeat (first | refine blk_drewN ?_ _ | refine blk_drew ?_ | refine blk_alloc ?_ _)); refine blk_put (cs := #[.string (⟨#[102, 105, 110, 105, 116, 101]⟩ : ByteArray), .int .i64 (wrap64 (Go.bits .and .u64 (ji14) 1)), .slice Ao34 t201.length co34, .int .i64 0]) ?_ 3 _ rfl; (with_reducible repeat (first | refine blk_drewN ?_ _ | refine blk_drew ?_ | refine blk_alloc ?_ _)); refine blk_put (cs := #[.string (⟨#[102, 105, 110, 105, 116, 101]⟩ : ByteArray), .int .i64 (wrap64 (Go.bits .and .u64 (ji14) 1)), .slice none 0 0, .int .i64 0]) ?_ 2 _ rfl; (with_reducible repeat (first | refine blk_drewN ?_ _ | refine blk_drew ?_ | refine blk_alloc ?_ _)); refine blk_put (cs := #[.string (⟨#[102, 105, 110, 105, 116, 101]⟩ : ByteArray), .int .i64 0, .slice none 0 0, .int .i64 0]) ?_ 1 _ rfl; (with_reducible repeat (first | refine blk_drewN ?_ _ | refine blk_drew ?_ | refine blk_alloc ?_ _)); refine blk_put (cs := #[.string (⟨#[]⟩ : ByteArray), .int .i64 0, .slice none 0 0, .int .i64 0]) ?_ 0 _ rfl; (with_reducible repeat (first | refine blk_drewN ?_ _ | refine blk_drew ?_ | refine blk_alloc ?_ _)); exact BK199.out) Try.underlying54 rfl (by kernel_rfl)) rfl ?_
                          exact ⟨_, by first | rfl | (simp [errW_none, errW_some] <;> rfl) | (simp only [← hji4, ← hji6, ← hji8, ← hji9, ← hji11, ← hji12, ← hji14, ← hji23]; first | rfl | (simp [errW_none, errW_some] <;> rfl)) | (simp [*, errW_none, errW_some] <;> rfl), by (with_reducible repeat (first | apply Kd.R_alloc | apply Kd.R_drewN | apply Kd.R_drew)); exact Kd.R_mono (Kd.R_far (p := ⟨gb199, 3, none⟩) (Kd.R_far (p := ⟨gb199, 2, none⟩) (Kd.R_far (p := ⟨gb199, 1, none⟩) (Kd.R_far (p := ⟨gb199, 0, none⟩) (Kd.R_types HO203.out BK199.out (by decide)) (fun _ hk => hk.2) (.string (⟨#[102, 105, 110, 105, 116, 101]⟩ : ByteArray))) (fun _ hk => hk.2) (.int .i64 (wrap64 (Go.bits .and .u64 (ji14) 1)))) (fun _ hk => hk.2) (.slice Ao34 t201.length co34)) (fun _ hk => hk.2) (.int .i64 t204)) (fun _ hk => trivial), by repeat (first | (with_reducible first | exact HB.out | apply below_alloc | apply pw_below_drewN | apply below_drew1 | refine below_set ?_ GE199.out) | exact HB.out)⟩
                        · rw [if_neg c30] at H
                          have c30b0 : ((wrap64 (Go.bits .and .u64 (ji8) (IntKind.u64.wrap ((ji11) - 1)))) == 0) = false := beq_eq_false_iff_ne.mpr c30
                          have c30b1 : ((wrap64 (Go.bits .and .u64 (ji8) (IntKind.u64.wrap ((ji11) - 1)))) != 0) = true := bne_iff_ne.mpr c30
                          replace H : (if 0 ≤ (ji4) then ((quadratref01_Of.f kj25 (wrap64 ((shl .i64 1 (ji4)) + (wrap64 (Go.bits .and .u64 (IntKind.u64.wrap (a1)) (IntKind.u64.wrap ((ji6) - 1))))))).bind fun t205 => ((quadratref01_Bias.f a0).bind fun t208 => (some ((⟨#[102, 105, 110, 105, 116, 101]⟩ : ByteArray), (wrap64 (Go.bits .and .u64 (ji14) 1)), t205, wrap64 ((wrap64 ((wrap64 ((wrap64 (Go.bits .and .u64 (ji8) (IntKind.u64.wrap ((ji11) - 1)))) - t208)) - t200)) + 1))))) else (none)) = some (r1, r2, r3, r4) := by first | (rw [hji4] at H; exact H) | (simp only [hji4] at H ⊢; exact H)
                          by_cases c37 : 0 ≤ (ji4)
                          · rw [if_pos c37] at H
                            have c37b0 := eq_true c37
                            have c37b1 : decide (0 ≤ (ji4)) = true := decide_eq_true c37
                            clear c37
                            obtain ⟨ji38, hji38⟩ : ∃ j_ : Int, (shl .i64 1 (ji4)) = j_ := ⟨_, rfl⟩
                            replace H : ((quadratref01_Of.f kj25 (wrap64 ((ji38) + (wrap64 (Go.bits .and .u64 (IntKind.u64.wrap (a1)) (IntKind.u64.wrap ((ji6) - 1))))))).bind fun t205 => ((quadratref01_Bias.f a0).bind fun t208 => (some ((⟨#[102, 105, 110, 105, 116, 101]⟩ : ByteArray), (wrap64 (Go.bits .and .u64 (ji14) 1)), t205, wrap64 ((wrap64 ((wrap64 ((wrap64 (Go.bits .and .u64 (ji8) (IntKind.u64.wrap ((ji11) - 1)))) - t208)) - t200)) + 1))))) = some (r1, r2, r3, r4) := by first | (rw [hji38] at H; exact H) | (simp only [hji38] at H ⊢; exact H)
                            have hji38_ : (IntKind.i64.wrap (1 * 2 ^ min (ji4).toNat 64)) = ji38 := hji38
                            have hji38z : (ji4) ≤ 64 → (IntKind.i64.wrap (1 * 2 ^ (ji4).toNat)) = ji38 := shl_small hji38
                            have hji38u : (IntKind.i64.wrap (2 ^ min (ji4).toNat 64)) = ji38 := by have h_ := hji38_; rw [Int.one_mul] at h_; exact h_
                            have hji38v : (ji4) ≤ 64 → (IntKind.i64.wrap (2 ^ (ji4).toNat)) = ji38 := fun hle_ => by have h_ := hji38z hle_; rw [Int.one_mul] at h_; exact h_
                            have hji38y : (wrap64 (1 * 2 ^ min (ji4).toNat 64)) = ji38 := (i64_w _).symm.trans hji38_
                            have hji38x : (ji4) ≤ 64 → (wrap64 (1 * 2 ^ (ji4).toNat)) = ji38 := fun h_ => (i64_w _).symm.trans (hji38z h_)
                            replace H := Option.bind_eq_some_iff.mp H
                            obtain ⟨t205, A390, H⟩ := H
                            replace H : ((quadratref01_Bias.f a0).bind fun t208 => (some ((⟨#[102, 105, 110, 105, 116, 101]⟩ : ByteArray), (wrap64 (Go.bits .and .u64 (ji14) 1)), t205, wrap64 ((wrap64 ((wrap64 ((wrap64 (Go.bits .and .u64 (ji8) (IntKind.u64.wrap ((ji11) - 1)))) - t208)) - t200)) + 1)))) = some (r1, r2, r3, r4) := H
                            have A39 := Aside0.mk A390
                            clear A390
                            replace H := Option.bind_eq_some_iff.mp H
                            obtain ⟨t208, A400, H⟩ := H
                            replace H : (some ((⟨#[102, 105, 110, 105, 116, 101]⟩ : ByteArray), (wrap64 (Go.bits .and .u64 (ji14) 1)), t205, wrap64 ((wrap64 ((wrap64 ((wrap64 (Go.bits .and .u64 (ji8) (IntKind.u64.wrap ((ji11) - 1)))) - t208)) - t200)) + 1))) = some (r1, r2, r3, r4) := H
                            have A40 := Aside0.mk A400
                            clear A400
                            simp only [Option.some.injEq, Prod.mk.injEq] at H
                            obtain ⟨rfl, rfl, rfl, rfl⟩ := H
                            go_wp2_with (first | (go_at_call 58; (with_reducible refine (quadratref01_Of.calls kj25 (wrap64 ((ji38) + (wrap64 (Go.bits .and .u64 (IntKind.u64.wrap (a1)) (IntKind.u64.wrap ((ji6) - 1)))))) t205 _ A39.out).mono ?_); rintro e w41 ⟨v206, rfl, ho0, hb⟩; have n0_ := Aside0.mk (Kd.R_lower ho0 (below_size (by repeat (first | (with_reducible first | exact HB.out | apply below_alloc | apply pw_below_drewN | apply below_drew1 | refine below_set ?_ GE199.out) | exact HB.out)))); have n1_ := Aside0.mk (blk_below (g := gb199) (o := .cells #[.string (⟨#[]⟩ : ByteArray), .int .i64 0, .slice none 0 0, .int .i64 0] 54 (0, 0)) (by (with_reducible repeat (first | refine blk_drewN ?_ _ | refine blk_drew ?_ | refine blk_alloc ?_ _)); exact BK199.out) hb); have n2_ := Aside0.mk (below_step (by repeat (first | (with_reducible first | exact HB.out | apply below_alloc | apply pw_below_drewN | apply below_drew1 | refine below_set ?_ GE199.out) | exact HB.out)) hb); clear BK199; clear HB; have HO207 := n0_; have BK199 := n1_; have HB := n2_; clear n0_ n1_ n2_; (try clear hb); (try clear hb2); (try clear hk); (try clear hi); (try clear ho0)) | (go_at_call 83; (with_reducible refine (quadratref01_Bias.calls a0 t208 _ A40.out).mono ?_); rintro e w' ⟨rfl, ⟨nd, rfl⟩⟩; (try first | exact ⟨rfl, _, World.drewN_drewN _ _ _⟩ | exact ⟨rfl, _, Eq.trans (World.drewN_drewN _ _ _) (congrArg (World.drewN _) (Nat.add_assoc _ _ _))⟩); obtain ⟨Ao42, co42, eo42⟩ := Kd.R_slice HO207.out; subst eo42; have hcz43_0 : w41.cell? ⟨gb199, 0, none⟩ = some (.string (⟨#[]⟩ : ByteArray)) := (blk_cell BK199.out 0).trans rfl; have hcz43_1 : w41.cell? ⟨gb199, 1, none⟩ = some (.int .i64 0) := (blk_cell BK199.out 1).trans rfl; have hcz43_2 : w41.cell? ⟨gb199, 2, none⟩ = some (.slice none 0 0) := (blk_cell BK199.out 2).trans rfl; have hcz43_3 : w41.cell? ⟨gb199, 3, none⟩ = some (.int .i64 0) := (blk_cell BK199.out 3).trans rfl; have hfz43_0 := blk_frozen BK199.out 0; have hfz43_1 := blk_frozen BK199.out 1; have hfz43_2 := blk_frozen BK199.out 2; have hfz43_3 := blk_frozen BK199.out 3))
                            repeat (go_quiet (first | (go_at_call 58; (with_reducible refine (quadratref01_Of.calls kj25 (wrap64 ((ji38) + (wrap64 (Go.bits .and .u64 (IntKind.u64.wrap (a1)) (IntKind.u64.wrap ((ji6) - 1)))))) t205 _ A39.out).mono ?_); rintro e w41 ⟨v206, rfl, ho0, hb⟩; have n0_ := Aside0.mk (Kd.R_lower ho0 (below_size (by repeat (first | (with_reducible first | exact HB.out | apply below_alloc | apply pw_below_drewN | apply below_drew1 | refine below_set ?_ GE199.out) | exact HB.out)))); have n1_ := Aside0.mk (blk_below (g := gb199) (o := .cells #[.string (⟨#[]⟩ : ByteArray), .int .i64 0, .slice none 0 0, .int .i64 0] 54 (0, 0)) (by (with_reducible repeat (first | refine blk_drewN ?_ _ | refine blk_drew ?_ | refine blk_alloc ?_ _)); exact BK199.out) hb); have n2_ := Aside0.mk (below_step (by repeat (first | (with_reducible first | exact HB.out | apply below_alloc | apply pw_below_drewN | apply below_drew1 | refine below_set ?_ GE199.out) | exact HB.out)) hb); clear BK199; clear HB; have HO207 := n0_; have BK199 := n1_; have HB := n2_; clear n0_ n1_ n2_; (try clear hb); (try clear hb2); (try clear hk); (try clear hi); (try clear ho0)) | (go_at_call 83; (with_reducible refine (quadratref01_Bias.calls a0 t208 _ A40.out).mono ?_); rintro e w' ⟨rfl, ⟨nd, rfl⟩⟩; (try first | exact ⟨rfl, _, World.drewN_drewN _ _ _⟩ | exact ⟨rfl, _, Eq.trans (World.drewN_drewN _ _ _) (congrArg (World.drewN _) (Nat.add_assoc _ _ _))⟩); obtain ⟨Ao42, co42, eo42⟩ := Kd.R_slice HO207.out; subst eo42; have hcz43_0 : w41.cell? ⟨gb199, 0, none⟩ = some (.string (⟨#[]⟩ : ByteArray)) := (blk_cell BK199.out 0).trans rfl; have hcz43_1 : w41.cell? ⟨gb199, 1, none⟩ = some (.int .i64 0) := (blk_cell BK199.out 1).trans rfl; have hcz43_2 : w41.cell? ⟨gb199, 2, none⟩ = some (.slice none 0 0) := (blk_cell BK199.out 2).trans rfl; have hcz43_3 : w41.cell? ⟨gb199, 3, none⟩ = some (.int .i64 0) := (blk_cell BK199.out 3).trans rfl; have hfz43_0 := blk_frozen BK199.out 0; have hfz43_1 := blk_frozen BK199.out 1; have hfz43_2 := blk_frozen BK199.out 2; have hfz43_3 := blk_frozen BK199.out 3)); try go_wp2_with (first | (go_at_call 58; (with_reducible refine (quadratref01_Of.calls kj25 (wrap64 ((ji38) + (wrap64 (Go.bits .and .u64 (IntKind.u64.wrap (a1)) (IntKind.u64.wrap ((ji6) - 1)))))) t205 _ A39.out).mono ?_); rintro e w41 ⟨v206, rfl, ho0, hb⟩; have n0_ := Aside0.mk (Kd.R_lower ho0 (below_size (by repeat (first | (with_reducible first | exact HB.out | apply below_alloc | apply pw_below_drewN | apply below_drew1 | refine below_set ?_ GE199.out) | exact HB.out)))); have n1_ := Aside0.mk (blk_below (g := gb199) (o := .cells #[.string (⟨#[]⟩ : ByteArray), .int .i64 0, .slice none 0 0, .int .i64 0] 54 (0, 0)) (by (with_reducible repeat (first | refine blk_drewN ?_ _ | refine blk_drew ?_ | refine blk_alloc ?_ _)); exact BK199.out) hb); have n2_ := Aside0.mk (below_step (by repeat (first | (with_reducible first | exact HB.out | apply below_alloc | apply pw_below_drewN | apply below_drew1 | refine below_set ?_ GE199.out) | exact HB.out)) hb); clear BK199; clear HB; have HO207 := n0_; have BK199 := n1_; have HB := n2_; clear n0_ n1_ n2_; (try clear hb); (try clear hb2); (try clear hk); (try clear hi); (try clear ho0)) | (go_at_call 83; (with_reducible refine (quadratref01_Bias.calls a0 t208 _ A40.out).mono ?_); rintro e w' ⟨rfl, ⟨nd, rfl⟩⟩; (try first | exact ⟨rfl, _, World.drewN_drewN _ _ _⟩ | exact ⟨rfl, _, Eq.trans (World.drewN_drewN _ _ _) (congrArg (World.drewN _) (Nat.add_assoc _ _ _))⟩); obtain ⟨Ao42, co42, eo42⟩ := Kd.R_slice HO207.out; subst eo42; have hcz43_0 : w41.cell? ⟨gb199, 0, none⟩ = some (.string (⟨#[]⟩ : ByteArray)) := (blk_cell BK199.out 0).trans rfl; have hcz43_1 : w41.cell? ⟨gb199, 1, none⟩ = some (.int .i64 0) := (blk_cell BK199.out 1).trans rfl; have hcz43_2 : w41.cell? ⟨gb199, 2, none⟩ = some (.slice none 0 0) := (blk_cell BK199.out 2).trans rfl; have hcz43_3 : w41.cell? ⟨gb199, 3, none⟩ = some (.int .i64 0) := (blk_cell BK199.out 3).trans rfl; have hfz43_0 := blk_frozen BK199.out 0; have hfz43_1 := blk_frozen BK199.out 1; have hfz43_2 := blk_frozen BK199.out 2; have hfz43_3 := blk_frozen BK199.out 3)))
                            refine bodyPost_ret (results_cell_row rfl _ _ gb199 54 #[.string (⟨#[102, 105, 110, 105, 116, 101]⟩ : ByteArray), .int .i64 (wrap64 (Go.bits .and .u64 (ji14) 1)), .slice Ao42 t205.length co42, .int .i64 (wrap64 ((wrap64 ((wrap64 ((wrap64 (Go.bits .and .u64 (ji8) (IntKind.u64.wrap ((ji11) - 1)))) - t208)) - t200)) + 1))] (0, 0) _ rfl (by (with_reducible repeat (first | refine blk_drewN ?_ _ | refine blk_drew ?_ | refine blk_alloc ?_ _)); refine blk_put (cs := #[.string (⟨#[102, 105, 110, 105, 116, 101]⟩ : ByteArray), .int .i64 (wrap64 (Go.bits .and .u64 (ji14) 1)), .slice Ao42 t205.length co42, .int .i64 0]) ?_ 3 _ rfl; (with_reducible repeat (first | refine blk_drewN ?_ _ | refine blk_drew ?_ | refine blk_alloc ?_ _)); refine blk_put (cs := #[.string (⟨#[102, 105, 110, 105, 116, 101]⟩ : ByteArray), .int .i64 (wrap64 (Go.bits .and .u64 (ji14) 1)), .slice none 0 0, .int .i64 0]) ?_ 2 _ rfl; (with_reducible repeat (first | refine blk_drewN ?_ _ | refine blk_drew ?_ | refine blk_alloc ?_ _)); refine blk_put (cs := #[.string (⟨#[102, 105, 110, 105, 116, 101]⟩ : ByteArray), .int .i64 0, .slice none 0 0, .int .i64 0]) ?_ 1 _ rfl; (with_reducible repeat (first | refine blk_drewN ?_ _ | refine blk_drew ?_ | refine blk_alloc ?_ _)); refine blk_put (cs := #[.string (⟨#[]⟩ : ByteArray), .int .i64 0, .slice none 0 0, .int .i64 0]) ?_ 0 _ rfl; (with_reducible repeat (first | refine blk_drewN ?_ _ | refine blk_drew ?_ | refine blk_alloc ?_ _)); exact BK199.out) Try.underlying54 rfl (by kernel_rfl)) rfl ?_
                            exact ⟨_, by first | rfl | (simp [errW_none, errW_some] <;> rfl) | (simp only [← hji4, ← hji6, ← hji8, ← hji9, ← hji11, ← hji12, ← hji14, ← hji23, ← hji4, ← hji38]; first | rfl | (simp [errW_none, errW_some] <;> rfl)) | (simp [*, errW_none, errW_some] <;> rfl), by (with_reducible repeat (first | apply Kd.R_alloc | apply Kd.R_drewN | apply Kd.R_drew)); exact Kd.R_mono (Kd.R_far (p := ⟨gb199, 3, none⟩) (Kd.R_far (p := ⟨gb199, 2, none⟩) (Kd.R_far (p := ⟨gb199, 1, none⟩) (Kd.R_far (p := ⟨gb199, 0, none⟩) (Kd.R_types HO207.out BK199.out (by decide)) (fun _ hk => hk.2) (.string (⟨#[102, 105, 110, 105, 116, 101]⟩ : ByteArray))) (fun _ hk => hk.2) (.int .i64 (wrap64 (Go.bits .and .u64 (ji14) 1)))) (fun _ hk => hk.2) (.slice Ao42 t205.length co42)) (fun _ hk => hk.2) (.int .i64 (wrap64 ((wrap64 ((wrap64 ((wrap64 (Go.bits .and .u64 (ji8) (IntKind.u64.wrap ((ji11) - 1)))) - t208)) - t200)) + 1)))) (fun _ hk => trivial), by repeat (first | (with_reducible first | exact HB.out | apply below_alloc | apply pw_below_drewN | apply below_drew1 | refine below_set ?_ GE199.out) | exact HB.out)⟩
                          · rw [if_neg c37] at H
                            exact absurd H (by simp)
              · rw [if_neg c22] at H
                exact absurd H (by simp)
      · rw [if_neg c13] at H
        exact absurd H (by simp)
    · rw [if_neg c10] at H
      exact absurd H (by simp)
  · rw [if_neg c5] at H
    exact absurd H (by simp)

end Go.Proofs.Ytgpnmifejgdipaa.My
