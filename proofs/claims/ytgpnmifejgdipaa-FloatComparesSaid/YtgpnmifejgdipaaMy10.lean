-- PRINTED by print.py (a twelfth state) out of the translation. Not trusted: Lean checks it.
import Derived.Test.YtgpnmifejgdipaaMy0
import Derived.Test.YtgpnmifejgdipaaMy7
namespace Go.Proofs.Ytgpnmifejgdipaa.My
open Go.RowKit Go.Proofs.YtgpnmifejgdipaaW.PrintWords Go.Proofs.YtgpnmifejgdipaaW.PrintLast Go.Proofs.YtgpnmifejgdipaaW.PrintMore
attribute [local go_sem] max2_int min2_int max_two min_two max_three min_three max_four min_four   -- for this text's walks alone
set_option linter.unusedVariables false
set_option linter.unusedSimpArgs false

/-! ### quadratref01_bits: function 65 -/
def quadratref01_bits.f (a0 : Int) (a1 : Int) (a2 : Int) (a3 : Int) : Option (Int) := (quadratref01_Digits.f a0).bind fun t209 => (if 0 ≤ (wrap64 ((wrap64 (8 * a0)) - 1)) then (if 0 ≤ (wrap64 (t209 - 1)) then (some (wrap64 (Go.bits .or .u64 (Go.bits .or .u64 (shl .u64 (IntKind.u64.wrap (a1)) (wrap64 ((wrap64 (8 * a0)) - 1))) (shl .u64 (IntKind.u64.wrap (a2)) (wrap64 (t209 - 1)))) (IntKind.u64.wrap (a3))))) else (none)) else (none))
set_option maxHeartbeats 8000000 in
set_option maxRecDepth 100000 in
theorem quadratref01_bits.calls (a0 : Int) (a1 : Int) (a2 : Int) (a3 : Int) (r : Int) (w : World) (h : quadratref01_bits.f a0 a1 a2 a3 = some r) :
    Calls Try.prog 65 #[.int .i64 a0, .int .i64 a1, .int .i64 a2, .int .i64 a3] w fun e w' => e = .returned (.int .i64 r) ∧ Drawn0 w w' := by
  have H : ((quadratref01_Digits.f a0).bind fun t209 => (if 0 ≤ (wrap64 ((wrap64 (8 * a0)) - 1)) then (if 0 ≤ (wrap64 (t209 - 1)) then (some (wrap64 (Go.bits .or .u64 (Go.bits .or .u64 (shl .u64 (IntKind.u64.wrap (a1)) (wrap64 ((wrap64 (8 * a0)) - 1))) (shl .u64 (IntKind.u64.wrap (a2)) (wrap64 (t209 - 1)))) (IntKind.u64.wrap (a3))))) else (none)) else (none))) = some r := h
  clear h
  replace H := Option.bind_eq_some_iff.mp H
  obtain ⟨t209, A50, H⟩ := H
  replace H : (if 0 ≤ (wrap64 ((wrap64 (8 * a0)) - 1)) then (if 0 ≤ (wrap64 (t209 - 1)) then (some (wrap64 (Go.bits .or .u64 (Go.bits .or .u64 (shl .u64 (IntKind.u64.wrap (a1)) (wrap64 ((wrap64 (8 * a0)) - 1))) (shl .u64 (IntKind.u64.wrap (a2)) (wrap64 (t209 - 1)))) (IntKind.u64.wrap (a3))))) else (none)) else (none)) = some r := H
  have A5 := Aside0.mk A50
  clear A50
  obtain ⟨ji6, hji6⟩ : ∃ j_ : Int, (wrap64 ((wrap64 (8 * a0)) - 1)) = j_ := ⟨_, rfl⟩
  replace H : (if 0 ≤ (ji6) then (if 0 ≤ (wrap64 (t209 - 1)) then (some (wrap64 (Go.bits .or .u64 (Go.bits .or .u64 (shl .u64 (IntKind.u64.wrap (a1)) (ji6)) (shl .u64 (IntKind.u64.wrap (a2)) (wrap64 (t209 - 1)))) (IntKind.u64.wrap (a3))))) else (none)) else (none)) = some r := by first | (rw [hji6] at H; exact H) | (simp only [hji6] at H ⊢; exact H)
  (try rw [hji6] at A5)
  have hji6w : (IntKind.i64.wrap ((wrap64 (8 * a0)) - 1)) = ji6 := (i64_w _).trans hji6
  by_cases c7 : 0 ≤ (ji6)
  · rw [if_pos c7] at H
    have c7b0 := eq_true c7
    have c7b1 : decide (0 ≤ (ji6)) = true := decide_eq_true c7
    clear c7
    obtain ⟨ji8, hji8⟩ : ∃ j_ : Int, (shl .u64 (IntKind.u64.wrap (a1)) (ji6)) = j_ := ⟨_, rfl⟩
    replace H : (if 0 ≤ (wrap64 (t209 - 1)) then (some (wrap64 (Go.bits .or .u64 (Go.bits .or .u64 (ji8) (shl .u64 (IntKind.u64.wrap (a2)) (wrap64 (t209 - 1)))) (IntKind.u64.wrap (a3))))) else (none)) = some r := by first | (rw [hji8] at H; exact H) | (simp only [hji8] at H ⊢; exact H)
    (try rw [hji8] at A5)
    have hji8_ : (IntKind.u64.wrap ((IntKind.u64.wrap (a1)) * 2 ^ min (ji6).toNat 64)) = ji8 := hji8
    have hji8z : (ji6) ≤ 64 → (IntKind.u64.wrap ((IntKind.u64.wrap (a1)) * 2 ^ (ji6).toNat)) = ji8 := shl_small hji8
    obtain ⟨ji9, hji9⟩ : ∃ j_ : Int, (wrap64 (t209 - 1)) = j_ := ⟨_, rfl⟩
    replace H : (if 0 ≤ (ji9) then (some (wrap64 (Go.bits .or .u64 (Go.bits .or .u64 (ji8) (shl .u64 (IntKind.u64.wrap (a2)) (ji9))) (IntKind.u64.wrap (a3))))) else (none)) = some r := by first | (rw [hji9] at H; exact H) | (simp only [hji9] at H ⊢; exact H)
    (try rw [hji9] at A5)
    have hji9w : (IntKind.i64.wrap (t209 - 1)) = ji9 := (i64_w _).trans hji9
    by_cases c10 : 0 ≤ (ji9)
    · rw [if_pos c10] at H
      have c10b0 := eq_true c10
      have c10b1 : decide (0 ≤ (ji9)) = true := decide_eq_true c10
      clear c10
      obtain ⟨ji11, hji11⟩ : ∃ j_ : Int, (shl .u64 (IntKind.u64.wrap (a2)) (ji9)) = j_ := ⟨_, rfl⟩
      replace H : (some (wrap64 (Go.bits .or .u64 (Go.bits .or .u64 (ji8) (ji11)) (IntKind.u64.wrap (a3))))) = some r := by first | (rw [hji11] at H; exact H) | (simp only [hji11] at H ⊢; exact H)
      (try rw [hji11] at A5)
      have hji11_ : (IntKind.u64.wrap ((IntKind.u64.wrap (a2)) * 2 ^ min (ji9).toNat 64)) = ji11 := hji11
      have hji11z : (ji9) ≤ 64 → (IntKind.u64.wrap ((IntKind.u64.wrap (a2)) * 2 ^ (ji9).toNat)) = ji11 := shl_small hji11
      obtain rfl := Option.some.inj H
      go_enter Try.func65, Try.ntmps65
      go_wp2_with (first | (go_at_call 56; (with_reducible refine (quadratref01_Digits.calls a0 t209 _ A5.out).mono ?_); rintro e w' ⟨rfl, ⟨nd, rfl⟩⟩; (try first | exact ⟨rfl, _, World.drewN_drewN _ _ _⟩ | exact ⟨rfl, _, Eq.trans (World.drewN_drewN _ _ _) (congrArg (World.drewN _) (Nat.add_assoc _ _ _))⟩)))
      repeat (go_quiet (first | (go_at_call 56; (with_reducible refine (quadratref01_Digits.calls a0 t209 _ A5.out).mono ?_); rintro e w' ⟨rfl, ⟨nd, rfl⟩⟩; (try first | exact ⟨rfl, _, World.drewN_drewN _ _ _⟩ | exact ⟨rfl, _, Eq.trans (World.drewN_drewN _ _ _) (congrArg (World.drewN _) (Nat.add_assoc _ _ _))⟩))); try go_wp2_with (first | (go_at_call 56; (with_reducible refine (quadratref01_Digits.calls a0 t209 _ A5.out).mono ?_); rintro e w' ⟨rfl, ⟨nd, rfl⟩⟩; (try first | exact ⟨rfl, _, World.drewN_drewN _ _ _⟩ | exact ⟨rfl, _, Eq.trans (World.drewN_drewN _ _ _) (congrArg (World.drewN _) (Nat.add_assoc _ _ _))⟩))))
      go_ret
      exact ⟨by first | rfl | (simp; done) | (simp only [← hji6, ← hji8, ← hji9, ← hji11] <;> (first | rfl | simp)) | (simp [*]; done), by repeat (first | exact Drawn0.refl _ | apply Drawn0.step)⟩
    · rw [if_neg c10] at H
      exact absurd H (by simp)
  · rw [if_neg c7] at H
    exact absurd H (by simp)

/-! ### quadratref01_all: function 84 -/
def quadratref01_all.f (a0 : Int) : Option (Int) := (quadratref01_Digits.f a0).bind fun t210 => (if 0 ≤ (wrap64 ((wrap64 (8 * a0)) - t210)) then (some (wrap64 ((shl .i64 1 (wrap64 ((wrap64 (8 * a0)) - t210))) - 1))) else (none))
set_option maxHeartbeats 8000000 in
set_option maxRecDepth 100000 in
theorem quadratref01_all.calls (a0 : Int) (r : Int) (w : World) (h : quadratref01_all.f a0 = some r) :
    Calls Try.prog 84 #[.int .i64 a0] w fun e w' => e = .returned (.int .i64 r) ∧ Drawn0 w w' := by
  have H : ((quadratref01_Digits.f a0).bind fun t210 => (if 0 ≤ (wrap64 ((wrap64 (8 * a0)) - t210)) then (some (wrap64 ((shl .i64 1 (wrap64 ((wrap64 (8 * a0)) - t210))) - 1))) else (none))) = some r := h
  clear h
  replace H := Option.bind_eq_some_iff.mp H
  obtain ⟨t210, A20, H⟩ := H
  replace H : (if 0 ≤ (wrap64 ((wrap64 (8 * a0)) - t210)) then (some (wrap64 ((shl .i64 1 (wrap64 ((wrap64 (8 * a0)) - t210))) - 1))) else (none)) = some r := H
  have A2 := Aside0.mk A20
  clear A20
  obtain ⟨ji3, hji3⟩ : ∃ j_ : Int, (wrap64 ((wrap64 (8 * a0)) - t210)) = j_ := ⟨_, rfl⟩
  replace H : (if 0 ≤ (ji3) then (some (wrap64 ((shl .i64 1 (ji3)) - 1))) else (none)) = some r := by first | (rw [hji3] at H; exact H) | (simp only [hji3] at H ⊢; exact H)
  (try rw [hji3] at A2)
  have hji3w : (IntKind.i64.wrap ((wrap64 (8 * a0)) - t210)) = ji3 := (i64_w _).trans hji3
  by_cases c4 : 0 ≤ (ji3)
  · rw [if_pos c4] at H
    have c4b0 := eq_true c4
    have c4b1 : decide (0 ≤ (ji3)) = true := decide_eq_true c4
    clear c4
    obtain ⟨ji5, hji5⟩ : ∃ j_ : Int, (shl .i64 1 (ji3)) = j_ := ⟨_, rfl⟩
    replace H : (some (wrap64 ((ji5) - 1))) = some r := by first | (rw [hji5] at H; exact H) | (simp only [hji5] at H ⊢; exact H)
    (try rw [hji5] at A2)
    have hji5_ : (IntKind.i64.wrap (1 * 2 ^ min (ji3).toNat 64)) = ji5 := hji5
    have hji5z : (ji3) ≤ 64 → (IntKind.i64.wrap (1 * 2 ^ (ji3).toNat)) = ji5 := shl_small hji5
    have hji5u : (IntKind.i64.wrap (2 ^ min (ji3).toNat 64)) = ji5 := by have h_ := hji5_; rw [Int.one_mul] at h_; exact h_
    have hji5v : (ji3) ≤ 64 → (IntKind.i64.wrap (2 ^ (ji3).toNat)) = ji5 := fun hle_ => by have h_ := hji5z hle_; rw [Int.one_mul] at h_; exact h_
    have hji5y : (wrap64 (1 * 2 ^ min (ji3).toNat 64)) = ji5 := (i64_w _).symm.trans hji5_
    have hji5x : (ji3) ≤ 64 → (wrap64 (1 * 2 ^ (ji3).toNat)) = ji5 := fun h_ => (i64_w _).symm.trans (hji5z h_)
    obtain rfl := Option.some.inj H
    go_enter Try.func84, Try.ntmps84
    go_wp2_with (first | ((with_reducible refine gate_callee (f := 56) rfl ?_); refine goesL_ (some 6) rfl rfl Try.func56 (by kernel_rfl) rfl #[.int .i64 a0] rfl (by (try simp only [List.map_toArray, List.map_cons, List.map_nil]); first | done | rfl | (simp only [List.length_drop, List.length_take]; rfl)) ?_; (with_reducible refine (quadratref01_Digits.calls a0 t210 _ A2.out).mono ?_); rintro e w' ⟨rfl, ⟨nd, rfl⟩⟩; refine ⟨_, rfl, ?_⟩))
    go_ret
    exact ⟨by first | rfl | (simp; done) | (simp only [← hji3, ← hji5] <;> (first | rfl | simp)) | (simp [*]; done), by repeat (first | exact Drawn0.refl _ | apply Drawn0.step)⟩
  · rw [if_neg c4] at H
    exact absurd H (by simp)

end Go.Proofs.Ytgpnmifejgdipaa.My
