-- stub of the definitions, for quick work on the plain part
import Derived.Test.YtgpnmifejgdipaaMy0
namespace Go.Proofs.Ytgpnmifejgdipaa.My
open Go.RowKit Go.Proofs.YtgpnmifejgdipaaW.PrintWords Go.Proofs.YtgpnmifejgdipaaW.PrintLast Go.Proofs.YtgpnmifejgdipaaW.PrintMore
set_option linter.unusedVariables false
set_option linter.unusedSimpArgs false
def float_of.f (a0 : Int) : Option (Int × Int × Bool) := if a0 = 2 then (some (11, 5, true)) else (if a0 = 4 then (some (24, 8, true)) else (if a0 = 8 then (some (53, 11, true)) else (some (0, 0, false))))
def float_shape_top.f (a0_0 : Int) (a0_1 : Int) : Option (Int) := if 0 ≤ a0_1 then (some (IntKind.u64.wrap ((shl .u64 1 a0_1) - 1))) else (none)
def float_shape_bias.f (a0_0 : Int) (a0_1 : Int) : Option (Int) := if 0 ≤ (wrap64 (a0_1 - 1)) then (some (wrap64 ((shl .i64 1 (wrap64 (a0_1 - 1))) - 1))) else (none)
def float_shape_least.f (a0_0 : Int) (a0_1 : Int) : Option (Int) := (float_shape_bias.f a0_0 a0_1).bind fun t105 => (some (wrap64 ((wrap64 (2 - t105)) - a0_0)))
mutual
def float_shape_read.j0 : Nat → Int → Int → Bool → Int → Int → Option (Int × Int × Int × Int × Bool)
  | 0, _, _, _, _, _ => none
  | k + 1, x6, x7, x25, x107000, x107001 => if x25 = true then (some (0, 0, 0, 0, false)) else (if 0 ≤ (wrap64 (x7 - 1)) then (if 0 ≤ (wrap64 (x107000 - 1)) then ((float_shape_top.f x107000 x107001).bind fun t109 => ((float_shape_top.f x107000 x107001).bind fun t110 => (if (Go.bits .and .u64 (shr .u64 x6 (wrap64 (x107000 - 1))) t109) = t110 then (float_shape_read.j1 k (Go.bits .and .u64 (shr .u64 x6 (wrap64 (x107000 - 1))) t109) (Go.bits .and .u64 x6 (IntKind.u64.wrap ((shl .u64 1 (wrap64 (x107000 - 1))) - 1))) ((Go.bits .and .u64 x6 (IntKind.u64.wrap ((shl .u64 1 (wrap64 (x107000 - 1))) - 1))) == 0) x107000 x107001 0 (wrap64 (Go.bits .and .u64 (shr .u64 x6 (wrap64 (x7 - 1))) 1)) 0 0) else (float_shape_read.j1 k (Go.bits .and .u64 (shr .u64 x6 (wrap64 (x107000 - 1))) t109) (Go.bits .and .u64 x6 (IntKind.u64.wrap ((shl .u64 1 (wrap64 (x107000 - 1))) - 1))) false x107000 x107001 0 (wrap64 (Go.bits .and .u64 (shr .u64 x6 (wrap64 (x7 - 1))) 1)) 0 0)))) else (none)) else (none))
def float_shape_read.j1 : Nat → Int → Int → Bool → Int → Int → Int → Int → Int → Int → Option (Int × Int × Int × Int × Bool)
  | 0, _, _, _, _, _, _, _, _, _ => none
  | k + 1, x9, x10, x67, x107000, x107001, x109000, x109001, x109002, x109003 => if x67 = true then (some (2, x109001, x109002, x109003, true)) else ((float_shape_top.f x107000 x107001).bind fun t111 => (if x9 = t111 then (some (3, x109001, x109002, x109003, true)) else (if x9 = 0 then (float_shape_read.j2 k x9 x10 (x10 == 0) x107000 x107001 x109000 x109001 x109002 x109003) else (float_shape_read.j2 k x9 x10 false x107000 x107001 x109000 x109001 x109002 x109003))))
def float_shape_read.j2 : Nat → Int → Int → Bool → Int → Int → Int → Int → Int → Int → Option (Int × Int × Int × Int × Bool)
  | 0, _, _, _, _, _, _, _, _, _ => none
  | k + 1, x9, x10, x83, x107000, x107001, x109000, x109001, x109002, x109003 => if x83 = true then (some (0, x109001, x109002, x109003, true)) else (if x9 = 0 then ((float_shape_least.f x107000 x107001).bind fun t112 => (some (1, x109001, x10, t112, true))) else (if 0 ≤ (wrap64 (x107000 - 1)) then ((float_shape_bias.f x107000 x107001).bind fun t113 => (some (1, x109001, Go.bits .or .u64 x10 (shl .u64 1 (wrap64 (x107000 - 1))), wrap64 ((wrap64 ((wrap64 ((wrap64 (x9)) - t113)) - x107000)) + 1), true))) else (none)))
end
def float_shape_read.f (k : Nat) (a0_0 : Int) (a0_1 : Int) (a1 : Int) : Option (Int × Int × Int × Int × Bool) := if (wrap64 (a0_0 + a0_1)) < 64 then (if 0 ≤ (wrap64 (a0_0 + a0_1)) then (float_shape_read.j0 k (IntKind.u64.wrap (a1)) (wrap64 (a0_0 + a0_1)) ((shr .u64 (IntKind.u64.wrap (a1)) (wrap64 (a0_0 + a0_1))) != 0) a0_0 a0_1) else (none)) else (float_shape_read.j0 k (IntKind.u64.wrap (a1)) (wrap64 (a0_0 + a0_1)) false a0_0 a0_1)
theorem float_shape_read.mono_l : ∀ k, (∀ y0 y1 y2 y3 y4, LeO (float_shape_read.j0 k y0 y1 y2 y3 y4) (float_shape_read.j0 (k + 1) y0 y1 y2 y3 y4)) ∧ (∀ y0 y1 y2 y3 y4 y5 y6 y7 y8, LeO (float_shape_read.j1 k y0 y1 y2 y3 y4 y5 y6 y7 y8) (float_shape_read.j1 (k + 1) y0 y1 y2 y3 y4 y5 y6 y7 y8)) ∧ (∀ y0 y1 y2 y3 y4 y5 y6 y7 y8, LeO (float_shape_read.j2 k y0 y1 y2 y3 y4 y5 y6 y7 y8) (float_shape_read.j2 (k + 1) y0 y1 y2 y3 y4 y5 y6 y7 y8))
  | 0 => ⟨fun _ _ _ _ _ r h => by simp [float_shape_read.j0] at h, fun _ _ _ _ _ _ _ _ _ r h => by simp [float_shape_read.j1] at h, fun _ _ _ _ _ _ _ _ _ r h => by simp [float_shape_read.j2] at h⟩
  | k + 1 => by
    obtain ⟨ih0, ih1, ih2⟩ := float_shape_read.mono_l k
    refine ⟨?_, ?_, ?_⟩
    · intro y0 y1 y2 y3 y4
      unfold float_shape_read.j0
      repeat' first
      | (with_reducible exact ih0 _ _ _ _ _)
      | (with_reducible exact ih1 _ _ _ _ _ _ _ _ _)
      | (with_reducible exact ih2 _ _ _ _ _ _ _ _ _)
      | (with_reducible exact LeO.refl _)
      | (with_reducible exact LeO.none _)
      | (with_reducible refine LeO.ite ?_ ?_)
      | (with_reducible refine LeO.bind ?_ (fun _ => ?_))
      | exact ih0 _ _ _ _ _
      | exact ih1 _ _ _ _ _ _ _ _ _
      | exact ih2 _ _ _ _ _ _ _ _ _
      | exact LeO.none _
      | refine LeO.ite ?_ ?_
      | refine LeO.bind ?_ (fun _ => ?_)
    · intro y0 y1 y2 y3 y4 y5 y6 y7 y8
      unfold float_shape_read.j1
      repeat' first
      | (with_reducible exact ih0 _ _ _ _ _)
      | (with_reducible exact ih1 _ _ _ _ _ _ _ _ _)
      | (with_reducible exact ih2 _ _ _ _ _ _ _ _ _)
      | (with_reducible exact LeO.refl _)
      | (with_reducible exact LeO.none _)
      | (with_reducible refine LeO.ite ?_ ?_)
      | (with_reducible refine LeO.bind ?_ (fun _ => ?_))
      | exact ih0 _ _ _ _ _
      | exact ih1 _ _ _ _ _ _ _ _ _
      | exact ih2 _ _ _ _ _ _ _ _ _
      | exact LeO.none _
      | refine LeO.ite ?_ ?_
      | refine LeO.bind ?_ (fun _ => ?_)
    · intro y0 y1 y2 y3 y4 y5 y6 y7 y8
      unfold float_shape_read.j2
      repeat' first
      | (with_reducible exact ih0 _ _ _ _ _)
      | (with_reducible exact ih1 _ _ _ _ _ _ _ _ _)
      | (with_reducible exact ih2 _ _ _ _ _ _ _ _ _)
      | (with_reducible exact LeO.refl _)
      | (with_reducible exact LeO.none _)
      | (with_reducible refine LeO.ite ?_ ?_)
      | (with_reducible refine LeO.bind ?_ (fun _ => ?_))
      | exact ih0 _ _ _ _ _
      | exact ih1 _ _ _ _ _ _ _ _ _
      | exact ih2 _ _ _ _ _ _ _ _ _
      | exact LeO.none _
      | refine LeO.ite ?_ ?_
      | refine LeO.bind ?_ (fun _ => ?_)
theorem float_shape_read.mono : ∀ a0 a1 a2 k, LeO (float_shape_read.f k a0 a1 a2) (float_shape_read.f (k + 1) a0 a1 a2) := by
  intro a0 a1 a2 k
  obtain ⟨ih0, ih1, ih2⟩ := float_shape_read.mono_l k
  unfold float_shape_read.f
  repeat' first
      | (with_reducible exact ih0 _ _ _ _ _)
      | (with_reducible exact ih1 _ _ _ _ _ _ _ _ _)
      | (with_reducible exact ih2 _ _ _ _ _ _ _ _ _)
      | (with_reducible exact LeO.refl _)
      | (with_reducible exact LeO.none _)
      | (with_reducible refine LeO.ite ?_ ?_)
      | (with_reducible refine LeO.bind ?_ (fun _ => ?_))
      | exact ih0 _ _ _ _ _
      | exact ih1 _ _ _ _ _ _ _ _ _
      | exact ih2 _ _ _ _ _ _ _ _ _
      | exact LeO.none _
      | refine LeO.ite ?_ ?_
      | refine LeO.bind ?_ (fun _ => ?_)
def float_two.f (k : Nat) (a0 a1 a2 a3 : Int) : Option (Int × Int × Int × Int × Int × Int × Int × Int × Int × Int × Bool) :=
  (float_of.f a0).bind fun s => if s.2.2 = false then some (s.1, s.2.1, 0, 0, 0, 0, 0, 0, 0, 0, false) else if a1 < 0 then some (s.1, s.2.1, 0, 0, 0, 0, 0, 0, 0, 0, false) else if 4 ≤ a1 then some (s.1, s.2.1, 0, 0, 0, 0, 0, 0, 0, 0, false)
    else (float_shape_read.f k s.1 s.2.1 a2).bind fun x => (float_shape_read.f k s.1 s.2.1 a3).bind fun y => some (s.1, s.2.1, x.1, x.2.1, x.2.2.1, x.2.2.2.1, y.1, y.2.1, y.2.2.1, y.2.2.2.1, x.2.2.2.2 && y.2.2.2.2)
theorem float_two.mono : ∀ a0 a1 a2 a3 k, LeO (float_two.f k a0 a1 a2 a3) (float_two.f (k + 1) a0 a1 a2 a3) := by
  intro a0 a1 a2 a3 k
  unfold float_two.f
  refine LeO.bind (LeO.refl _) (fun _ => ?_)
  refine LeO.ite (LeO.refl _) ?_
  refine LeO.ite (LeO.refl _) ?_
  refine LeO.ite (LeO.refl _) ?_
  refine LeO.bind (float_shape_read.mono _ _ _ _) (fun _ => ?_)
  refine LeO.bind (float_shape_read.mono _ _ _ _) (fun _ => LeO.refl _)
def float_shape_pack.f (a0_0 : Int) (a0_1 : Int) (a1 : Int) (a2 : Int) (a3 : Int) : Option (Int) := if 0 ≤ (wrap64 ((wrap64 (a0_0 + a0_1)) - 1)) then (if 0 ≤ (wrap64 (a0_0 - 1)) then (some (wrap64 (Go.bits .or .u64 (Go.bits .or .u64 (shl .u64 (IntKind.u64.wrap (a1)) (wrap64 ((wrap64 (a0_0 + a0_1)) - 1))) (shl .u64 a2 (wrap64 (a0_0 - 1)))) a3))) else (none)) else (none)
def float_shape_zero.f (a0_0 : Int) (a0_1 : Int) (a1 : Int) : Option (Int) := (float_shape_pack.f a0_0 a0_1 a1 0 0).bind fun t116 => (some t116)
def float_shape_infinite.f (a0_0 : Int) (a0_1 : Int) (a1 : Int) : Option (Int) := (float_shape_top.f a0_0 a0_1).bind fun t118 => ((float_shape_pack.f a0_0 a0_1 a1 t118 0).bind fun t119 => (some t119))
mutual
def float_exact_right.j1 : Nat → Int → Int → Bool → Bool → Option (Int × Int)
  | 0, _, _, _, _ => none
  | k + 1, x1, x7, x8, x9 => if x1 > 0 then (float_exact_right.j2 k x7 false true) else (float_exact_right.j2 k x7 x8 x9)
def float_exact_right.j2 : Nat → Int → Bool → Bool → Option (Int × Int)
  | 0, _, _, _ => none
  | k + 1, x7, x8, x9 => if x8 = true then (float_exact_right.j3 k x7 x8 x9 x9) else (float_exact_right.j3 k x7 x8 x9 false)
def float_exact_right.j3 : Nat → Int → Bool → Bool → Bool → Option (Int × Int)
  | 0, _, _, _, _ => none
  | k + 1, x7, x8, x9, x48 => if x48 = true then (some (x7, 3)) else (if x8 = true then (some (x7, 2)) else (if x9 = true then (some (x7, 1)) else (some (x7, 0))))
def float_exact_right.l0 : Nat → Int → Int → Int → Bool → Bool → Option (Int × Int)
  | 0, _, _, _, _, _ => none
  | k + 1, x1, x6, x7, x8, x9 => if x1 > 0 then (if x6 = 0 then (if x7 = 0 then (if x8 = true then (if x9 = true then (float_exact_right.l0 k (wrap64 (x1 - 1)) (x6 / 2) (Go.bits .or .u64 (x7 / 2) (IntKind.u64.wrap (x6 * 9223372036854775808))) ((Go.bits .and .u64 x7 1) == 1) true) else (float_exact_right.l0 k (wrap64 (x1 - 1)) (x6 / 2) (Go.bits .or .u64 (x7 / 2) (IntKind.u64.wrap (x6 * 9223372036854775808))) ((Go.bits .and .u64 x7 1) == 1) x8)) else (float_exact_right.j1 k x1 x7 x8 x9)) else (if x9 = true then (float_exact_right.l0 k (wrap64 (x1 - 1)) (x6 / 2) (Go.bits .or .u64 (x7 / 2) (IntKind.u64.wrap (x6 * 9223372036854775808))) ((Go.bits .and .u64 x7 1) == 1) true) else (float_exact_right.l0 k (wrap64 (x1 - 1)) (x6 / 2) (Go.bits .or .u64 (x7 / 2) (IntKind.u64.wrap (x6 * 9223372036854775808))) ((Go.bits .and .u64 x7 1) == 1) x8))) else (if x9 = true then (float_exact_right.l0 k (wrap64 (x1 - 1)) (x6 / 2) (Go.bits .or .u64 (x7 / 2) (IntKind.u64.wrap (x6 * 9223372036854775808))) ((Go.bits .and .u64 x7 1) == 1) true) else (float_exact_right.l0 k (wrap64 (x1 - 1)) (x6 / 2) (Go.bits .or .u64 (x7 / 2) (IntKind.u64.wrap (x6 * 9223372036854775808))) ((Go.bits .and .u64 x7 1) == 1) x8))) else (float_exact_right.j1 k x1 x7 x8 x9)
end
def float_exact_right.f (k : Nat) (a0_0 : Int) (a0_1 : Int) (a0_2 : Int) (a0_3 : Bool) (a1 : Int) : Option (Int × Int) := float_exact_right.l0 k a1 a0_0 a0_1 false a0_3
theorem float_exact_right.mono_l : ∀ k, (∀ y0 y1 y2 y3, LeO (float_exact_right.j1 k y0 y1 y2 y3) (float_exact_right.j1 (k + 1) y0 y1 y2 y3)) ∧ (∀ y0 y1 y2, LeO (float_exact_right.j2 k y0 y1 y2) (float_exact_right.j2 (k + 1) y0 y1 y2)) ∧ (∀ y0 y1 y2 y3, LeO (float_exact_right.j3 k y0 y1 y2 y3) (float_exact_right.j3 (k + 1) y0 y1 y2 y3)) ∧ (∀ y0 y1 y2 y3 y4, LeO (float_exact_right.l0 k y0 y1 y2 y3 y4) (float_exact_right.l0 (k + 1) y0 y1 y2 y3 y4))
  | 0 => ⟨fun _ _ _ _ r h => by simp [float_exact_right.j1] at h, fun _ _ _ r h => by simp [float_exact_right.j2] at h, fun _ _ _ _ r h => by simp [float_exact_right.j3] at h, fun _ _ _ _ _ r h => by simp [float_exact_right.l0] at h⟩
  | k + 1 => by
    obtain ⟨ih0, ih1, ih2, ih3⟩ := float_exact_right.mono_l k
    refine ⟨?_, ?_, ?_, ?_⟩
    · intro y0 y1 y2 y3
      unfold float_exact_right.j1
      repeat' first
      | (with_reducible exact ih0 _ _ _ _)
      | (with_reducible exact ih1 _ _ _)
      | (with_reducible exact ih2 _ _ _ _)
      | (with_reducible exact ih3 _ _ _ _ _)
      | (with_reducible exact LeO.refl _)
      | (with_reducible exact LeO.none _)
      | (with_reducible refine LeO.ite ?_ ?_)
      | (with_reducible refine LeO.bind ?_ (fun _ => ?_))
      | exact ih0 _ _ _ _
      | exact ih1 _ _ _
      | exact ih2 _ _ _ _
      | exact ih3 _ _ _ _ _
      | exact LeO.none _
      | refine LeO.ite ?_ ?_
      | refine LeO.bind ?_ (fun _ => ?_)
    · intro y0 y1 y2
      unfold float_exact_right.j2
      repeat' first
      | (with_reducible exact ih0 _ _ _ _)
      | (with_reducible exact ih1 _ _ _)
      | (with_reducible exact ih2 _ _ _ _)
      | (with_reducible exact ih3 _ _ _ _ _)
      | (with_reducible exact LeO.refl _)
      | (with_reducible exact LeO.none _)
      | (with_reducible refine LeO.ite ?_ ?_)
      | (with_reducible refine LeO.bind ?_ (fun _ => ?_))
      | exact ih0 _ _ _ _
      | exact ih1 _ _ _
      | exact ih2 _ _ _ _
      | exact ih3 _ _ _ _ _
      | exact LeO.none _
      | refine LeO.ite ?_ ?_
      | refine LeO.bind ?_ (fun _ => ?_)
    · intro y0 y1 y2 y3
      unfold float_exact_right.j3
      repeat' first
      | (with_reducible exact ih0 _ _ _ _)
      | (with_reducible exact ih1 _ _ _)
      | (with_reducible exact ih2 _ _ _ _)
      | (with_reducible exact ih3 _ _ _ _ _)
      | (with_reducible exact LeO.refl _)
      | (with_reducible exact LeO.none _)
      | (with_reducible refine LeO.ite ?_ ?_)
      | (with_reducible refine LeO.bind ?_ (fun _ => ?_))
      | exact ih0 _ _ _ _
      | exact ih1 _ _ _
      | exact ih2 _ _ _ _
      | exact ih3 _ _ _ _ _
      | exact LeO.none _
      | refine LeO.ite ?_ ?_
      | refine LeO.bind ?_ (fun _ => ?_)
    · intro y0 y1 y2 y3 y4
      unfold float_exact_right.l0
      repeat' first
      | (with_reducible exact ih0 _ _ _ _)
      | (with_reducible exact ih1 _ _ _)
      | (with_reducible exact ih2 _ _ _ _)
      | (with_reducible exact ih3 _ _ _ _ _)
      | (with_reducible exact LeO.refl _)
      | (with_reducible exact LeO.none _)
      | (with_reducible refine LeO.ite ?_ ?_)
      | (with_reducible refine LeO.bind ?_ (fun _ => ?_))
      | exact ih0 _ _ _ _
      | exact ih1 _ _ _
      | exact ih2 _ _ _ _
      | exact ih3 _ _ _ _ _
      | exact LeO.none _
      | refine LeO.ite ?_ ?_
      | refine LeO.bind ?_ (fun _ => ?_)
theorem float_exact_right.mono : ∀ a0 a1 a2 a3 a4 k, LeO (float_exact_right.f k a0 a1 a2 a3 a4) (float_exact_right.f (k + 1) a0 a1 a2 a3 a4) := by
  intro a0 a1 a2 a3 a4 k
  obtain ⟨ih0, ih1, ih2, ih3⟩ := float_exact_right.mono_l k
  unfold float_exact_right.f
  repeat' first
      | (with_reducible exact ih0 _ _ _ _)
      | (with_reducible exact ih1 _ _ _)
      | (with_reducible exact ih2 _ _ _ _)
      | (with_reducible exact ih3 _ _ _ _ _)
      | (with_reducible exact LeO.refl _)
      | (with_reducible exact LeO.none _)
      | (with_reducible refine LeO.ite ?_ ?_)
      | (with_reducible refine LeO.bind ?_ (fun _ => ?_))
      | exact ih0 _ _ _ _
      | exact ih1 _ _ _
      | exact ih2 _ _ _ _
      | exact ih3 _ _ _ _ _
      | exact LeO.none _
      | refine LeO.ite ?_ ?_
      | refine LeO.bind ?_ (fun _ => ?_)
def float_away.f (a0 : Int) (a1 : Int) (a2 : Bool) (a3 : Int) : Option (Bool) := if a0 = 0 then (if a3 = 3 then (some true) else (if a3 = 2 then (some a2) else (some false))) else (if a0 = 2 then (if a3 > 0 then (some (a1 == 1)) else (some false)) else (if a0 = 3 then (if a3 > 0 then (some (a1 == 0)) else (some false)) else (some false)))
def bits_Len64.f (a0 : Int) : Option (Int) := if 0 ≤ a0 ∧ a0 ≤ 18446744073709551615 then some (Lib.bitLen a0.toNat : Int) else none
def float_exact_long.f (a0_0 : Int) (a0_1 : Int) (a0_2 : Int) (a0_3 : Bool) : Option (Int) := if a0_0 = 0 then ((bits_Len64.f a0_1).bind fun t122 => (some t122)) else ((bits_Len64.f a0_0).bind fun t123 => (some (wrap64 (64 + t123))))
def float_shape_greatest.f (a0_0 : Int) (a0_1 : Int) (a1 : Int) : Option (Int) := (float_shape_top.f a0_0 a0_1).bind fun t125 => (if 0 ≤ (wrap64 (a0_0 - 1)) then ((float_shape_pack.f a0_0 a0_1 a1 (IntKind.u64.wrap (t125 - 1)) (IntKind.u64.wrap ((shl .u64 1 (wrap64 (a0_0 - 1))) - 1))).bind fun t126 => (some t126)) else (none))
mutual
def float_shape_round.j0 : Nat → Int → Int → Int → Int → Int → Int → Int → Int → Int → Option (Int × Int)
  | 0, _, _, _, _, _, _, _, _, _ => none
  | k + 1, x1, x2, x9, x10, x11, x12, x13, x128000, x128001 => if x13 > 0 then ((float_shape_least.f x128000 x128001).bind fun t133 => (if x10 < (wrap64 ((wrap64 (t133 + x128000)) - 1)) then (float_shape_round.j1 k x1 x2 (Go.bits .or .i64 16 8) x11 x12 x13 x128000 x128001) else (float_shape_round.j1 k x1 x2 16 x11 x12 x13 x128000 x128001))) else (float_shape_round.j1 k x1 x2 x9 x11 x12 x13 x128000 x128001)
def float_shape_round.j1 : Nat → Int → Int → Int → Int → Int → Int → Int → Int → Option (Int × Int)
  | 0, _, _, _, _, _, _, _, _ => none
  | k + 1, x1, x2, x9, x11, x12, x13, x128000, x128001 => (float_away.f x1 x2 ((Go.bits .and .u64 x12 1) == 1) x13).bind fun t134 => (if t134 = true then (float_shape_round.j2 k x1 x2 x9 x11 (IntKind.u64.wrap (x12 + 1)) x128000 x128001) else (float_shape_round.j2 k x1 x2 x9 x11 x12 x128000 x128001))
def float_shape_round.j2 : Nat → Int → Int → Int → Int → Int → Int → Int → Option (Int × Int)
  | 0, _, _, _, _, _, _, _ => none
  | k + 1, x1, x2, x9, x11, x12, x128000, x128001 => if 0 ≤ x128000 then (if x12 = (shl .u64 1 x128000) then (float_shape_round.j3 k x1 x2 x9 (wrap64 (x11 + 1)) (x12 / 2) x128000 x128001) else (float_shape_round.j3 k x1 x2 x9 x11 x12 x128000 x128001)) else (none)
def float_shape_round.j3 : Nat → Int → Int → Int → Int → Int → Int → Int → Option (Int × Int)
  | 0, _, _, _, _, _, _, _ => none
  | k + 1, x1, x2, x9, x11, x12, x128000, x128001 => if 0 ≤ (wrap64 (x128000 - 1)) then (if x12 < (shl .u64 1 (wrap64 (x128000 - 1))) then ((float_shape_pack.f x128000 x128001 x2 0 x12).bind fun t135 => (some (t135, x9))) else ((float_shape_bias.f x128000 x128001).bind fun t136 => ((float_shape_top.f x128000 x128001).bind fun t137 => (if (wrap64 ((wrap64 ((wrap64 (x11 + x128000)) - 1)) + t136)) < (wrap64 (t137)) then ((float_shape_pack.f x128000 x128001 x2 (IntKind.u64.wrap (wrap64 ((wrap64 ((wrap64 (x11 + x128000)) - 1)) + t136))) (Go.bits .and .u64 x12 (IntKind.u64.wrap ((shl .u64 1 (wrap64 (x128000 - 1))) - 1)))).bind fun t138 => (some (t138, x9))) else (if x1 = 1 then (float_shape_round.j4 k x2 true x128000 x128001) else (if x1 = 2 then (if x2 = 0 then (float_shape_round.j4 k x2 true x128000 x128001) else (if x1 = 3 then (float_shape_round.j4 k x2 (x2 == 1) x128000 x128001) else (float_shape_round.j4 k x2 false x128000 x128001))) else (if x1 = 3 then (float_shape_round.j4 k x2 (x2 == 1) x128000 x128001) else (float_shape_round.j4 k x2 false x128000 x128001)))))))) else (none)
def float_shape_round.j4 : Nat → Int → Bool → Int → Int → Option (Int × Int)
  | 0, _, _, _, _ => none
  | k + 1, x2, x133, x128000, x128001 => if x133 = true then ((float_shape_greatest.f x128000 x128001 x2).bind fun t139 => (some (t139, 20))) else ((float_shape_infinite.f x128000 x128001 x2).bind fun t140 => (some (t140, 20)))
end
def float_shape_round.f (k : Nat) (a0_0 : Int) (a0_1 : Int) (a1 : Int) (a2 : Int) (a3_0 : Int) (a3_1 : Int) (a3_2 : Int) (a3_3 : Bool) : Option (Int × Int) := (float_exact_long.f a3_0 a3_1 a3_2 a3_3).bind fun t129 => ((float_shape_least.f a0_0 a0_1).bind fun t130 => (if (mx (wrap64 ((wrap64 ((wrap64 ((wrap64 (a3_2 + t129)) - 1)) - a0_0)) + 1)) t130) ≤ a3_2 then (if 0 ≤ (wrap64 (a3_2 - (mx (wrap64 ((wrap64 ((wrap64 ((wrap64 (a3_2 + t129)) - 1)) - a0_0)) + 1)) t130))) then (float_shape_round.j0 k a1 a2 0 (wrap64 ((wrap64 (a3_2 + t129)) - 1)) (mx (wrap64 ((wrap64 ((wrap64 ((wrap64 (a3_2 + t129)) - 1)) - a0_0)) + 1)) t130) (shl .u64 a3_1 (wrap64 (a3_2 - (mx (wrap64 ((wrap64 ((wrap64 ((wrap64 (a3_2 + t129)) - 1)) - a0_0)) + 1)) t130)))) 0 a0_0 a0_1) else (none)) else ((float_exact_right.f k a3_0 a3_1 a3_2 a3_3 (wrap64 ((mx (wrap64 ((wrap64 ((wrap64 ((wrap64 (a3_2 + t129)) - 1)) - a0_0)) + 1)) t130) - a3_2))).bind fun bt131 => (float_shape_round.j0 k a1 a2 0 (wrap64 ((wrap64 (a3_2 + t129)) - 1)) (mx (wrap64 ((wrap64 ((wrap64 ((wrap64 (a3_2 + t129)) - 1)) - a0_0)) + 1)) t130) bt131.1 bt131.2 a0_0 a0_1))))
theorem float_shape_round.mono_l : ∀ k, (∀ y0 y1 y2 y3 y4 y5 y6 y7 y8, LeO (float_shape_round.j0 k y0 y1 y2 y3 y4 y5 y6 y7 y8) (float_shape_round.j0 (k + 1) y0 y1 y2 y3 y4 y5 y6 y7 y8)) ∧ (∀ y0 y1 y2 y3 y4 y5 y6 y7, LeO (float_shape_round.j1 k y0 y1 y2 y3 y4 y5 y6 y7) (float_shape_round.j1 (k + 1) y0 y1 y2 y3 y4 y5 y6 y7)) ∧ (∀ y0 y1 y2 y3 y4 y5 y6, LeO (float_shape_round.j2 k y0 y1 y2 y3 y4 y5 y6) (float_shape_round.j2 (k + 1) y0 y1 y2 y3 y4 y5 y6)) ∧ (∀ y0 y1 y2 y3 y4 y5 y6, LeO (float_shape_round.j3 k y0 y1 y2 y3 y4 y5 y6) (float_shape_round.j3 (k + 1) y0 y1 y2 y3 y4 y5 y6)) ∧ (∀ y0 y1 y2 y3, LeO (float_shape_round.j4 k y0 y1 y2 y3) (float_shape_round.j4 (k + 1) y0 y1 y2 y3))
  | 0 => ⟨fun _ _ _ _ _ _ _ _ _ r h => by simp [float_shape_round.j0] at h, fun _ _ _ _ _ _ _ _ r h => by simp [float_shape_round.j1] at h, fun _ _ _ _ _ _ _ r h => by simp [float_shape_round.j2] at h, fun _ _ _ _ _ _ _ r h => by simp [float_shape_round.j3] at h, fun _ _ _ _ r h => by simp [float_shape_round.j4] at h⟩
  | k + 1 => by
    obtain ⟨ih0, ih1, ih2, ih3, ih4⟩ := float_shape_round.mono_l k
    refine ⟨?_, ?_, ?_, ?_, ?_⟩
    · intro y0 y1 y2 y3 y4 y5 y6 y7 y8
      unfold float_shape_round.j0
      repeat' first
      | (with_reducible exact ih0 _ _ _ _ _ _ _ _ _)
      | (with_reducible exact ih1 _ _ _ _ _ _ _ _)
      | (with_reducible exact ih2 _ _ _ _ _ _ _)
      | (with_reducible exact ih3 _ _ _ _ _ _ _)
      | (with_reducible exact ih4 _ _ _ _)
      | (with_reducible exact float_exact_right.mono _ _ _ _ _ _)
      | (with_reducible exact LeO.refl _)
      | (with_reducible exact LeO.none _)
      | (with_reducible refine LeO.ite ?_ ?_)
      | (with_reducible refine LeO.bind ?_ (fun _ => ?_))
      | exact ih0 _ _ _ _ _ _ _ _ _
      | exact ih1 _ _ _ _ _ _ _ _
      | exact ih2 _ _ _ _ _ _ _
      | exact ih3 _ _ _ _ _ _ _
      | exact ih4 _ _ _ _
      | exact float_exact_right.mono _ _ _ _ _ _
      | exact LeO.none _
      | refine LeO.ite ?_ ?_
      | refine LeO.bind ?_ (fun _ => ?_)
    · intro y0 y1 y2 y3 y4 y5 y6 y7
      unfold float_shape_round.j1
      repeat' first
      | (with_reducible exact ih0 _ _ _ _ _ _ _ _ _)
      | (with_reducible exact ih1 _ _ _ _ _ _ _ _)
      | (with_reducible exact ih2 _ _ _ _ _ _ _)
      | (with_reducible exact ih3 _ _ _ _ _ _ _)
      | (with_reducible exact ih4 _ _ _ _)
      | (with_reducible exact float_exact_right.mono _ _ _ _ _ _)
      | (with_reducible exact LeO.refl _)
      | (with_reducible exact LeO.none _)
      | (with_reducible refine LeO.ite ?_ ?_)
      | (with_reducible refine LeO.bind ?_ (fun _ => ?_))
      | exact ih0 _ _ _ _ _ _ _ _ _
      | exact ih1 _ _ _ _ _ _ _ _
      | exact ih2 _ _ _ _ _ _ _
      | exact ih3 _ _ _ _ _ _ _
      | exact ih4 _ _ _ _
      | exact float_exact_right.mono _ _ _ _ _ _
      | exact LeO.none _
      | refine LeO.ite ?_ ?_
      | refine LeO.bind ?_ (fun _ => ?_)
    · intro y0 y1 y2 y3 y4 y5 y6
      unfold float_shape_round.j2
      repeat' first
      | (with_reducible exact ih0 _ _ _ _ _ _ _ _ _)
      | (with_reducible exact ih1 _ _ _ _ _ _ _ _)
      | (with_reducible exact ih2 _ _ _ _ _ _ _)
      | (with_reducible exact ih3 _ _ _ _ _ _ _)
      | (with_reducible exact ih4 _ _ _ _)
      | (with_reducible exact float_exact_right.mono _ _ _ _ _ _)
      | (with_reducible exact LeO.refl _)
      | (with_reducible exact LeO.none _)
      | (with_reducible refine LeO.ite ?_ ?_)
      | (with_reducible refine LeO.bind ?_ (fun _ => ?_))
      | exact ih0 _ _ _ _ _ _ _ _ _
      | exact ih1 _ _ _ _ _ _ _ _
      | exact ih2 _ _ _ _ _ _ _
      | exact ih3 _ _ _ _ _ _ _
      | exact ih4 _ _ _ _
      | exact float_exact_right.mono _ _ _ _ _ _
      | exact LeO.none _
      | refine LeO.ite ?_ ?_
      | refine LeO.bind ?_ (fun _ => ?_)
    · intro y0 y1 y2 y3 y4 y5 y6
      unfold float_shape_round.j3
      repeat' first
      | (with_reducible exact ih0 _ _ _ _ _ _ _ _ _)
      | (with_reducible exact ih1 _ _ _ _ _ _ _ _)
      | (with_reducible exact ih2 _ _ _ _ _ _ _)
      | (with_reducible exact ih3 _ _ _ _ _ _ _)
      | (with_reducible exact ih4 _ _ _ _)
      | (with_reducible exact float_exact_right.mono _ _ _ _ _ _)
      | (with_reducible exact LeO.refl _)
      | (with_reducible exact LeO.none _)
      | (with_reducible refine LeO.ite ?_ ?_)
      | (with_reducible refine LeO.bind ?_ (fun _ => ?_))
      | exact ih0 _ _ _ _ _ _ _ _ _
      | exact ih1 _ _ _ _ _ _ _ _
      | exact ih2 _ _ _ _ _ _ _
      | exact ih3 _ _ _ _ _ _ _
      | exact ih4 _ _ _ _
      | exact float_exact_right.mono _ _ _ _ _ _
      | exact LeO.none _
      | refine LeO.ite ?_ ?_
      | refine LeO.bind ?_ (fun _ => ?_)
    · intro y0 y1 y2 y3
      unfold float_shape_round.j4
      repeat' first
      | (with_reducible exact ih0 _ _ _ _ _ _ _ _ _)
      | (with_reducible exact ih1 _ _ _ _ _ _ _ _)
      | (with_reducible exact ih2 _ _ _ _ _ _ _)
      | (with_reducible exact ih3 _ _ _ _ _ _ _)
      | (with_reducible exact ih4 _ _ _ _)
      | (with_reducible exact float_exact_right.mono _ _ _ _ _ _)
      | (with_reducible exact LeO.refl _)
      | (with_reducible exact LeO.none _)
      | (with_reducible refine LeO.ite ?_ ?_)
      | (with_reducible refine LeO.bind ?_ (fun _ => ?_))
      | exact ih0 _ _ _ _ _ _ _ _ _
      | exact ih1 _ _ _ _ _ _ _ _
      | exact ih2 _ _ _ _ _ _ _
      | exact ih3 _ _ _ _ _ _ _
      | exact ih4 _ _ _ _
      | exact float_exact_right.mono _ _ _ _ _ _
      | exact LeO.none _
      | refine LeO.ite ?_ ?_
      | refine LeO.bind ?_ (fun _ => ?_)
theorem float_shape_round.mono : ∀ a0 a1 a2 a3 a4 a5 a6 a7 k, LeO (float_shape_round.f k a0 a1 a2 a3 a4 a5 a6 a7) (float_shape_round.f (k + 1) a0 a1 a2 a3 a4 a5 a6 a7) := by
  intro a0 a1 a2 a3 a4 a5 a6 a7 k
  obtain ⟨ih0, ih1, ih2, ih3, ih4⟩ := float_shape_round.mono_l k
  unfold float_shape_round.f
  repeat' first
      | (with_reducible exact ih0 _ _ _ _ _ _ _ _ _)
      | (with_reducible exact ih1 _ _ _ _ _ _ _ _)
      | (with_reducible exact ih2 _ _ _ _ _ _ _)
      | (with_reducible exact ih3 _ _ _ _ _ _ _)
      | (with_reducible exact ih4 _ _ _ _)
      | (with_reducible exact float_exact_right.mono _ _ _ _ _ _)
      | (with_reducible exact LeO.refl _)
      | (with_reducible exact LeO.none _)
      | (with_reducible refine LeO.ite ?_ ?_)
      | (with_reducible refine LeO.bind ?_ (fun _ => ?_))
      | exact ih0 _ _ _ _ _ _ _ _ _
      | exact ih1 _ _ _ _ _ _ _ _
      | exact ih2 _ _ _ _ _ _ _
      | exact ih3 _ _ _ _ _ _ _
      | exact ih4 _ _ _ _
      | exact float_exact_right.mono _ _ _ _ _ _
      | exact LeO.none _
      | refine LeO.ite ?_ ?_
      | refine LeO.bind ?_ (fun _ => ?_)
def float_shape_quiet.f (a0_0 : Int) (a0_1 : Int) : Option (Int) := (float_shape_top.f a0_0 a0_1).bind fun t142 => (if 0 ≤ (wrap64 (a0_0 - 2)) then ((float_shape_pack.f a0_0 a0_1 0 t142 (shl .u64 1 (wrap64 (a0_0 - 2)))).bind fun t143 => (some t143)) else (none))
def float_shape_none.f (a0_0 : Int) (a0_1 : Int) (a1 : Int) : Option (Int) := if a1 = 2 then ((float_shape_zero.f a0_0 a0_1 1).bind fun t145 => (some t145)) else ((float_shape_zero.f a0_0 a0_1 0).bind fun t146 => (some t146))
def float_left.f (a0 : Int) (a1 : Int) : Option (Int × Int) := if a1 ≥ 64 then (if 0 ≤ (wrap64 (a1 - 64)) then (some (shl .u64 a0 (wrap64 (a1 - 64)), 0)) else (none)) else (if 0 ≤ (wrap64 (64 - a1)) then (if 0 ≤ a1 then (some (shr .u64 a0 (wrap64 (64 - a1)), shl .u64 a0 a1)) else (none)) else (none))
mutual
def float_shape_sum.j0 : Nat → Int → Int → Bool → Int → Int → Int → Int → Int → Int → Int → Int → Int → Int → Option (Int × Int)
  | 0, _, _, _, _, _, _, _, _, _, _, _, _, _ => none
  | k + 1, x1, x10, x11, x148000, x148001, x149000, x149001, x149002, x149003, x150000, x150001, x150002, x150003 => (float_left.f x149002 x10).bind fun bt151 => (if x11 = true then (float_shape_sum.j1 k x1 x11 0 x148000 x148001 x149000 x149001 x149002 x149003 x150000 x150001 x150002 x150003 bt151.1 bt151.2 (wrap64 (x149003 - x10)) true) else (float_shape_sum.j1 k x1 x11 x150002 x148000 x148001 x149000 x149001 x149002 x149003 x150000 x150001 x150002 x150003 bt151.1 bt151.2 (wrap64 (x149003 - x10)) false))
def float_shape_sum.j1 : Nat → Int → Bool → Int → Int → Int → Int → Int → Int → Int → Int → Int → Int → Int → Int → Int → Int → Bool → Option (Int × Int)
  | 0, _, _, _, _, _, _, _, _, _, _, _, _, _, _, _, _, _ => none
  | k + 1, x1, x11, x13, x148000, x148001, x149000, x149001, x149002, x149003, x150000, x150001, x150002, x150003, x151000, x151001, x151002, x151003 => if x149001 = x150001 then ((float_shape_round.f k x148000 x148001 x1 x149001 (IntKind.u64.wrap (x151000 + (addC x151001 x13 0))) (addS x151001 x13 0) x151002 x151003).bind fun bt153 => (some (bt153.1, bt153.2))) else (if x11 = true then (float_shape_sum.j2 k x1 1 x148000 x148001 x149000 x149001 x149002 x149003 x150000 x150001 x150002 x150003 x151000 x151001 x151002 x151003) else (float_shape_sum.j2 k x1 x13 x148000 x148001 x149000 x149001 x149002 x149003 x150000 x150001 x150002 x150003 x151000 x151001 x151002 x151003))
def float_shape_sum.j2 : Nat → Int → Int → Int → Int → Int → Int → Int → Int → Int → Int → Int → Int → Int → Int → Int → Bool → Option (Int × Int)
  | 0, _, _, _, _, _, _, _, _, _, _, _, _, _, _, _, _ => none
  | k + 1, x1, x13, x148000, x148001, x149000, x149001, x149002, x149003, x150000, x150001, x150002, x150003, x151000, x151001, x151002, x151003 => if 0 ≤ (subB x151001 x13 0) then (if (subB x151001 x13 0) ≤ 1 then (if (subB x151000 0 (subB x151001 x13 0)) = 1 then (if 0 ≤ (subB 0 (subS x151001 x13 0) 0) then (if (subB 0 (subS x151001 x13 0) 0) ≤ 1 then (float_shape_sum.j3 k x1 (subS 0 (subS x151001 x13 0) 0) (subS 0 (subS x151000 0 (subB x151001 x13 0)) (subB 0 (subS x151001 x13 0) 0)) x150001 x148000 x148001 x151000 x151001 x151002 x151003) else (none)) else (none)) else (float_shape_sum.j3 k x1 (subS x151001 x13 0) (subS x151000 0 (subB x151001 x13 0)) x149001 x148000 x148001 x151000 x151001 x151002 x151003)) else (none)) else (none)
def float_shape_sum.j3 : Nat → Int → Int → Int → Int → Int → Int → Int → Int → Int → Bool → Option (Int × Int)
  | 0, _, _, _, _, _, _, _, _, _, _ => none
  | k + 1, x1, x15, x17, x18, x148000, x148001, x151000, x151001, x151002, x151003 => if x17 = 0 then (float_shape_sum.j4 k x1 x15 x17 x18 (x15 == 0) x148000 x148001 x151000 x151001 x151002 x151003) else (float_shape_sum.j4 k x1 x15 x17 x18 false x148000 x148001 x151000 x151001 x151002 x151003)
def float_shape_sum.j4 : Nat → Int → Int → Int → Int → Bool → Int → Int → Int → Int → Int → Bool → Option (Int × Int)
  | 0, _, _, _, _, _, _, _, _, _, _, _ => none
  | k + 1, x1, x15, x17, x18, x110, x148000, x148001, x151000, x151001, x151002, x151003 => if x110 = true then ((float_shape_none.f x148000 x148001 x1).bind fun t155 => (some (t155, 0))) else ((float_shape_round.f k x148000 x148001 x1 x18 x17 x15 x151002 x151003).bind fun bt156 => (some (bt156.1, bt156.2)))
end
def float_shape_sum.f (k : Nat) (a0_0 : Int) (a0_1 : Int) (a1 : Int) (a2_0 : Int) (a2_1 : Int) (a2_2 : Int) (a2_3 : Int) (a3_0 : Int) (a3_1 : Int) (a3_2 : Int) (a3_3 : Int) : Option (Int × Int) := if (wrap64 (a2_3 - a3_3)) > 70 then (float_shape_sum.j0 k a1 70 (decide ((wrap64 (a2_3 - a3_3)) > 70)) a0_0 a0_1 a2_0 a2_1 a2_2 a2_3 a3_0 a3_1 a3_2 a3_3) else (float_shape_sum.j0 k a1 (wrap64 (a2_3 - a3_3)) (decide ((wrap64 (a2_3 - a3_3)) > 70)) a0_0 a0_1 a2_0 a2_1 a2_2 a2_3 a3_0 a3_1 a3_2 a3_3)
theorem float_shape_sum.mono_l : ∀ k, (∀ y0 y1 y2 y3 y4 y5 y6 y7 y8 y9 y10 y11 y12, LeO (float_shape_sum.j0 k y0 y1 y2 y3 y4 y5 y6 y7 y8 y9 y10 y11 y12) (float_shape_sum.j0 (k + 1) y0 y1 y2 y3 y4 y5 y6 y7 y8 y9 y10 y11 y12)) ∧ (∀ y0 y1 y2 y3 y4 y5 y6 y7 y8 y9 y10 y11 y12 y13 y14 y15 y16, LeO (float_shape_sum.j1 k y0 y1 y2 y3 y4 y5 y6 y7 y8 y9 y10 y11 y12 y13 y14 y15 y16) (float_shape_sum.j1 (k + 1) y0 y1 y2 y3 y4 y5 y6 y7 y8 y9 y10 y11 y12 y13 y14 y15 y16)) ∧ (∀ y0 y1 y2 y3 y4 y5 y6 y7 y8 y9 y10 y11 y12 y13 y14 y15, LeO (float_shape_sum.j2 k y0 y1 y2 y3 y4 y5 y6 y7 y8 y9 y10 y11 y12 y13 y14 y15) (float_shape_sum.j2 (k + 1) y0 y1 y2 y3 y4 y5 y6 y7 y8 y9 y10 y11 y12 y13 y14 y15)) ∧ (∀ y0 y1 y2 y3 y4 y5 y6 y7 y8 y9, LeO (float_shape_sum.j3 k y0 y1 y2 y3 y4 y5 y6 y7 y8 y9) (float_shape_sum.j3 (k + 1) y0 y1 y2 y3 y4 y5 y6 y7 y8 y9)) ∧ (∀ y0 y1 y2 y3 y4 y5 y6 y7 y8 y9 y10, LeO (float_shape_sum.j4 k y0 y1 y2 y3 y4 y5 y6 y7 y8 y9 y10) (float_shape_sum.j4 (k + 1) y0 y1 y2 y3 y4 y5 y6 y7 y8 y9 y10))
  | 0 => ⟨fun _ _ _ _ _ _ _ _ _ _ _ _ _ r h => by simp [float_shape_sum.j0] at h, fun _ _ _ _ _ _ _ _ _ _ _ _ _ _ _ _ _ r h => by simp [float_shape_sum.j1] at h, fun _ _ _ _ _ _ _ _ _ _ _ _ _ _ _ _ r h => by simp [float_shape_sum.j2] at h, fun _ _ _ _ _ _ _ _ _ _ r h => by simp [float_shape_sum.j3] at h, fun _ _ _ _ _ _ _ _ _ _ _ r h => by simp [float_shape_sum.j4] at h⟩
  | k + 1 => by
    obtain ⟨ih0, ih1, ih2, ih3, ih4⟩ := float_shape_sum.mono_l k
    refine ⟨?_, ?_, ?_, ?_, ?_⟩
    · intro y0 y1 y2 y3 y4 y5 y6 y7 y8 y9 y10 y11 y12
      unfold float_shape_sum.j0
      repeat' first
      | (with_reducible exact ih0 _ _ _ _ _ _ _ _ _ _ _ _ _)
      | (with_reducible exact ih1 _ _ _ _ _ _ _ _ _ _ _ _ _ _ _ _ _)
      | (with_reducible exact ih2 _ _ _ _ _ _ _ _ _ _ _ _ _ _ _ _)
      | (with_reducible exact ih3 _ _ _ _ _ _ _ _ _ _)
      | (with_reducible exact ih4 _ _ _ _ _ _ _ _ _ _ _)
      | (with_reducible exact float_shape_round.mono _ _ _ _ _ _ _ _ _)
      | (with_reducible exact LeO.refl _)
      | (with_reducible exact LeO.none _)
      | (with_reducible refine LeO.ite ?_ ?_)
      | (with_reducible refine LeO.bind ?_ (fun _ => ?_))
      | exact ih0 _ _ _ _ _ _ _ _ _ _ _ _ _
      | exact ih1 _ _ _ _ _ _ _ _ _ _ _ _ _ _ _ _ _
      | exact ih2 _ _ _ _ _ _ _ _ _ _ _ _ _ _ _ _
      | exact ih3 _ _ _ _ _ _ _ _ _ _
      | exact ih4 _ _ _ _ _ _ _ _ _ _ _
      | exact float_shape_round.mono _ _ _ _ _ _ _ _ _
      | exact LeO.none _
      | refine LeO.ite ?_ ?_
      | refine LeO.bind ?_ (fun _ => ?_)
    · intro y0 y1 y2 y3 y4 y5 y6 y7 y8 y9 y10 y11 y12 y13 y14 y15 y16
      unfold float_shape_sum.j1
      repeat' first
      | (with_reducible exact ih0 _ _ _ _ _ _ _ _ _ _ _ _ _)
      | (with_reducible exact ih1 _ _ _ _ _ _ _ _ _ _ _ _ _ _ _ _ _)
      | (with_reducible exact ih2 _ _ _ _ _ _ _ _ _ _ _ _ _ _ _ _)
      | (with_reducible exact ih3 _ _ _ _ _ _ _ _ _ _)
      | (with_reducible exact ih4 _ _ _ _ _ _ _ _ _ _ _)
      | (with_reducible exact float_shape_round.mono _ _ _ _ _ _ _ _ _)
      | (with_reducible exact LeO.refl _)
      | (with_reducible exact LeO.none _)
      | (with_reducible refine LeO.ite ?_ ?_)
      | (with_reducible refine LeO.bind ?_ (fun _ => ?_))
      | exact ih0 _ _ _ _ _ _ _ _ _ _ _ _ _
      | exact ih1 _ _ _ _ _ _ _ _ _ _ _ _ _ _ _ _ _
      | exact ih2 _ _ _ _ _ _ _ _ _ _ _ _ _ _ _ _
      | exact ih3 _ _ _ _ _ _ _ _ _ _
      | exact ih4 _ _ _ _ _ _ _ _ _ _ _
      | exact float_shape_round.mono _ _ _ _ _ _ _ _ _
      | exact LeO.none _
      | refine LeO.ite ?_ ?_
      | refine LeO.bind ?_ (fun _ => ?_)
    · intro y0 y1 y2 y3 y4 y5 y6 y7 y8 y9 y10 y11 y12 y13 y14 y15
      unfold float_shape_sum.j2
      repeat' first
      | (with_reducible exact ih0 _ _ _ _ _ _ _ _ _ _ _ _ _)
      | (with_reducible exact ih1 _ _ _ _ _ _ _ _ _ _ _ _ _ _ _ _ _)
      | (with_reducible exact ih2 _ _ _ _ _ _ _ _ _ _ _ _ _ _ _ _)
      | (with_reducible exact ih3 _ _ _ _ _ _ _ _ _ _)
      | (with_reducible exact ih4 _ _ _ _ _ _ _ _ _ _ _)
      | (with_reducible exact float_shape_round.mono _ _ _ _ _ _ _ _ _)
      | (with_reducible exact LeO.refl _)
      | (with_reducible exact LeO.none _)
      | (with_reducible refine LeO.ite ?_ ?_)
      | (with_reducible refine LeO.bind ?_ (fun _ => ?_))
      | exact ih0 _ _ _ _ _ _ _ _ _ _ _ _ _
      | exact ih1 _ _ _ _ _ _ _ _ _ _ _ _ _ _ _ _ _
      | exact ih2 _ _ _ _ _ _ _ _ _ _ _ _ _ _ _ _
      | exact ih3 _ _ _ _ _ _ _ _ _ _
      | exact ih4 _ _ _ _ _ _ _ _ _ _ _
      | exact float_shape_round.mono _ _ _ _ _ _ _ _ _
      | exact LeO.none _
      | refine LeO.ite ?_ ?_
      | refine LeO.bind ?_ (fun _ => ?_)
    · intro y0 y1 y2 y3 y4 y5 y6 y7 y8 y9
      unfold float_shape_sum.j3
      repeat' first
      | (with_reducible exact ih0 _ _ _ _ _ _ _ _ _ _ _ _ _)
      | (with_reducible exact ih1 _ _ _ _ _ _ _ _ _ _ _ _ _ _ _ _ _)
      | (with_reducible exact ih2 _ _ _ _ _ _ _ _ _ _ _ _ _ _ _ _)
      | (with_reducible exact ih3 _ _ _ _ _ _ _ _ _ _)
      | (with_reducible exact ih4 _ _ _ _ _ _ _ _ _ _ _)
      | (with_reducible exact float_shape_round.mono _ _ _ _ _ _ _ _ _)
      | (with_reducible exact LeO.refl _)
      | (with_reducible exact LeO.none _)
      | (with_reducible refine LeO.ite ?_ ?_)
      | (with_reducible refine LeO.bind ?_ (fun _ => ?_))
      | exact ih0 _ _ _ _ _ _ _ _ _ _ _ _ _
      | exact ih1 _ _ _ _ _ _ _ _ _ _ _ _ _ _ _ _ _
      | exact ih2 _ _ _ _ _ _ _ _ _ _ _ _ _ _ _ _
      | exact ih3 _ _ _ _ _ _ _ _ _ _
      | exact ih4 _ _ _ _ _ _ _ _ _ _ _
      | exact float_shape_round.mono _ _ _ _ _ _ _ _ _
      | exact LeO.none _
      | refine LeO.ite ?_ ?_
      | refine LeO.bind ?_ (fun _ => ?_)
    · intro y0 y1 y2 y3 y4 y5 y6 y7 y8 y9 y10
      unfold float_shape_sum.j4
      repeat' first
      | (with_reducible exact ih0 _ _ _ _ _ _ _ _ _ _ _ _ _)
      | (with_reducible exact ih1 _ _ _ _ _ _ _ _ _ _ _ _ _ _ _ _ _)
      | (with_reducible exact ih2 _ _ _ _ _ _ _ _ _ _ _ _ _ _ _ _)
      | (with_reducible exact ih3 _ _ _ _ _ _ _ _ _ _)
      | (with_reducible exact ih4 _ _ _ _ _ _ _ _ _ _ _)
      | (with_reducible exact float_shape_round.mono _ _ _ _ _ _ _ _ _)
      | (with_reducible exact LeO.refl _)
      | (with_reducible exact LeO.none _)
      | (with_reducible refine LeO.ite ?_ ?_)
      | (with_reducible refine LeO.bind ?_ (fun _ => ?_))
      | exact ih0 _ _ _ _ _ _ _ _ _ _ _ _ _
      | exact ih1 _ _ _ _ _ _ _ _ _ _ _ _ _ _ _ _ _
      | exact ih2 _ _ _ _ _ _ _ _ _ _ _ _ _ _ _ _
      | exact ih3 _ _ _ _ _ _ _ _ _ _
      | exact ih4 _ _ _ _ _ _ _ _ _ _ _
      | exact float_shape_round.mono _ _ _ _ _ _ _ _ _
      | exact LeO.none _
      | refine LeO.ite ?_ ?_
      | refine LeO.bind ?_ (fun _ => ?_)
theorem float_shape_sum.mono : ∀ a0 a1 a2 a3 a4 a5 a6 a7 a8 a9 a10 k, LeO (float_shape_sum.f k a0 a1 a2 a3 a4 a5 a6 a7 a8 a9 a10) (float_shape_sum.f (k + 1) a0 a1 a2 a3 a4 a5 a6 a7 a8 a9 a10) := by
  intro a0 a1 a2 a3 a4 a5 a6 a7 a8 a9 a10 k
  obtain ⟨ih0, ih1, ih2, ih3, ih4⟩ := float_shape_sum.mono_l k
  unfold float_shape_sum.f
  repeat' first
      | (with_reducible exact ih0 _ _ _ _ _ _ _ _ _ _ _ _ _)
      | (with_reducible exact ih1 _ _ _ _ _ _ _ _ _ _ _ _ _ _ _ _ _)
      | (with_reducible exact ih2 _ _ _ _ _ _ _ _ _ _ _ _ _ _ _ _)
      | (with_reducible exact ih3 _ _ _ _ _ _ _ _ _ _)
      | (with_reducible exact ih4 _ _ _ _ _ _ _ _ _ _ _)
      | (with_reducible exact float_shape_round.mono _ _ _ _ _ _ _ _ _)
      | (with_reducible exact LeO.refl _)
      | (with_reducible exact LeO.none _)
      | (with_reducible refine LeO.ite ?_ ?_)
      | (with_reducible refine LeO.bind ?_ (fun _ => ?_))
      | exact ih0 _ _ _ _ _ _ _ _ _ _ _ _ _
      | exact ih1 _ _ _ _ _ _ _ _ _ _ _ _ _ _ _ _ _
      | exact ih2 _ _ _ _ _ _ _ _ _ _ _ _ _ _ _ _
      | exact ih3 _ _ _ _ _ _ _ _ _ _
      | exact ih4 _ _ _ _ _ _ _ _ _ _ _
      | exact float_shape_round.mono _ _ _ _ _ _ _ _ _
      | exact LeO.none _
      | refine LeO.ite ?_ ?_
      | refine LeO.bind ?_ (fun _ => ?_)
mutual
def float_shape_add.j0 : Nat → Int → Bool → Int → Int → Int → Int → Int → Int → Int → Int → Int → Int → Option (Int × Int)
  | 0, _, _, _, _, _, _, _, _, _, _, _, _ => none
  | k + 1, x1, x10, x159000, x159001, x160000, x160001, x160002, x160003, x161000, x161001, x161002, x161003 => if x10 = true then ((float_shape_quiet.f x159000 x159001).bind fun t161 => (some (t161, 0))) else (if x160000 = 2 then (if x161000 = 2 then (float_shape_add.j1 k x1 (x160001 != x161001) x159000 x159001 x160000 x160001 x160002 x160003 x161000 x161001 x161002 x161003) else (float_shape_add.j1 k x1 false x159000 x159001 x160000 x160001 x160002 x160003 x161000 x161001 x161002 x161003)) else (float_shape_add.j1 k x1 false x159000 x159001 x160000 x160001 x160002 x160003 x161000 x161001 x161002 x161003))
def float_shape_add.j1 : Nat → Int → Bool → Int → Int → Int → Int → Int → Int → Int → Int → Int → Int → Option (Int × Int)
  | 0, _, _, _, _, _, _, _, _, _, _, _, _ => none
  | k + 1, x1, x21, x159000, x159001, x160000, x160001, x160002, x160003, x161000, x161001, x161002, x161003 => if x21 = true then ((float_shape_quiet.f x159000 x159001).bind fun t162 => (some (t162, 1))) else (if x160000 = 2 then ((float_shape_infinite.f x159000 x159001 x160001).bind fun t163 => (some (t163, 0))) else (if x161000 = 2 then ((float_shape_infinite.f x159000 x159001 x161001).bind fun t164 => (some (t164, 0))) else (if x160000 = 0 then (if x161000 = 0 then (float_shape_add.j2 k x1 (x160001 == x161001) x159000 x159001 x160000 x160001 x160002 x160003 x161000 x161001 x161002 x161003) else (float_shape_add.j2 k x1 false x159000 x159001 x160000 x160001 x160002 x160003 x161000 x161001 x161002 x161003)) else (float_shape_add.j2 k x1 false x159000 x159001 x160000 x160001 x160002 x160003 x161000 x161001 x161002 x161003))))
def float_shape_add.j2 : Nat → Int → Bool → Int → Int → Int → Int → Int → Int → Int → Int → Int → Int → Option (Int × Int)
  | 0, _, _, _, _, _, _, _, _, _, _, _, _ => none
  | k + 1, x1, x55, x159000, x159001, x160000, x160001, x160002, x160003, x161000, x161001, x161002, x161003 => if x55 = true then ((float_shape_zero.f x159000 x159001 x160001).bind fun t165 => (some (t165, 0))) else (if x160000 = 0 then (float_shape_add.j3 k x1 (x161000 == 0) x159000 x159001 x160000 x160001 x160002 x160003 x161000 x161001 x161002 x161003) else (float_shape_add.j3 k x1 false x159000 x159001 x160000 x160001 x160002 x160003 x161000 x161001 x161002 x161003))
def float_shape_add.j3 : Nat → Int → Bool → Int → Int → Int → Int → Int → Int → Int → Int → Int → Int → Option (Int × Int)
  | 0, _, _, _, _, _, _, _, _, _, _, _, _ => none
  | k + 1, x1, x75, x159000, x159001, x160000, x160001, x160002, x160003, x161000, x161001, x161002, x161003 => if x75 = true then ((float_shape_none.f x159000 x159001 x1).bind fun t166 => (some (t166, 0))) else (if x160000 = 0 then ((float_shape_round.f k x159000 x159001 x1 x161001 0 x161002 x161003 false).bind fun bt167 => (some (bt167.1, bt167.2))) else (if x161000 = 0 then ((float_shape_round.f k x159000 x159001 x1 x160001 0 x160002 x160003 false).bind fun bt169 => (some (bt169.1, bt169.2))) else (if x160003 < x161003 then ((float_shape_sum.f k x159000 x159001 x1 x161000 x161001 x161002 x161003 x160000 x160001 x160002 x160003).bind fun bt171 => (some (bt171.1, bt171.2))) else ((float_shape_sum.f k x159000 x159001 x1 x160000 x160001 x160002 x160003 x161000 x161001 x161002 x161003).bind fun bt173 => (some (bt173.1, bt173.2))))))
end
def float_shape_add.f (k : Nat) (a0_0 : Int) (a0_1 : Int) (a1 : Int) (a2_0 : Int) (a2_1 : Int) (a2_2 : Int) (a2_3 : Int) (a3_0 : Int) (a3_1 : Int) (a3_2 : Int) (a3_3 : Int) : Option (Int × Int) := if a2_0 = 3 then (float_shape_add.j0 k a1 true a0_0 a0_1 a2_0 a2_1 a2_2 a2_3 a3_0 a3_1 a3_2 a3_3) else (float_shape_add.j0 k a1 (a3_0 == 3) a0_0 a0_1 a2_0 a2_1 a2_2 a2_3 a3_0 a3_1 a3_2 a3_3)
theorem float_shape_add.mono_l : ∀ k, (∀ y0 y1 y2 y3 y4 y5 y6 y7 y8 y9 y10 y11, LeO (float_shape_add.j0 k y0 y1 y2 y3 y4 y5 y6 y7 y8 y9 y10 y11) (float_shape_add.j0 (k + 1) y0 y1 y2 y3 y4 y5 y6 y7 y8 y9 y10 y11)) ∧ (∀ y0 y1 y2 y3 y4 y5 y6 y7 y8 y9 y10 y11, LeO (float_shape_add.j1 k y0 y1 y2 y3 y4 y5 y6 y7 y8 y9 y10 y11) (float_shape_add.j1 (k + 1) y0 y1 y2 y3 y4 y5 y6 y7 y8 y9 y10 y11)) ∧ (∀ y0 y1 y2 y3 y4 y5 y6 y7 y8 y9 y10 y11, LeO (float_shape_add.j2 k y0 y1 y2 y3 y4 y5 y6 y7 y8 y9 y10 y11) (float_shape_add.j2 (k + 1) y0 y1 y2 y3 y4 y5 y6 y7 y8 y9 y10 y11)) ∧ (∀ y0 y1 y2 y3 y4 y5 y6 y7 y8 y9 y10 y11, LeO (float_shape_add.j3 k y0 y1 y2 y3 y4 y5 y6 y7 y8 y9 y10 y11) (float_shape_add.j3 (k + 1) y0 y1 y2 y3 y4 y5 y6 y7 y8 y9 y10 y11))
  | 0 => ⟨fun _ _ _ _ _ _ _ _ _ _ _ _ r h => by simp [float_shape_add.j0] at h, fun _ _ _ _ _ _ _ _ _ _ _ _ r h => by simp [float_shape_add.j1] at h, fun _ _ _ _ _ _ _ _ _ _ _ _ r h => by simp [float_shape_add.j2] at h, fun _ _ _ _ _ _ _ _ _ _ _ _ r h => by simp [float_shape_add.j3] at h⟩
  | k + 1 => by
    obtain ⟨ih0, ih1, ih2, ih3⟩ := float_shape_add.mono_l k
    refine ⟨?_, ?_, ?_, ?_⟩
    · intro y0 y1 y2 y3 y4 y5 y6 y7 y8 y9 y10 y11
      unfold float_shape_add.j0
      repeat' first
      | (with_reducible exact ih0 _ _ _ _ _ _ _ _ _ _ _ _)
      | (with_reducible exact ih1 _ _ _ _ _ _ _ _ _ _ _ _)
      | (with_reducible exact ih2 _ _ _ _ _ _ _ _ _ _ _ _)
      | (with_reducible exact ih3 _ _ _ _ _ _ _ _ _ _ _ _)
      | (with_reducible exact float_shape_round.mono _ _ _ _ _ _ _ _ _)
      | (with_reducible exact float_shape_sum.mono _ _ _ _ _ _ _ _ _ _ _ _)
      | (with_reducible exact LeO.refl _)
      | (with_reducible exact LeO.none _)
      | (with_reducible refine LeO.ite ?_ ?_)
      | (with_reducible refine LeO.bind ?_ (fun _ => ?_))
      | exact ih0 _ _ _ _ _ _ _ _ _ _ _ _
      | exact ih1 _ _ _ _ _ _ _ _ _ _ _ _
      | exact ih2 _ _ _ _ _ _ _ _ _ _ _ _
      | exact ih3 _ _ _ _ _ _ _ _ _ _ _ _
      | exact float_shape_round.mono _ _ _ _ _ _ _ _ _
      | exact float_shape_sum.mono _ _ _ _ _ _ _ _ _ _ _ _
      | exact LeO.none _
      | refine LeO.ite ?_ ?_
      | refine LeO.bind ?_ (fun _ => ?_)
    · intro y0 y1 y2 y3 y4 y5 y6 y7 y8 y9 y10 y11
      unfold float_shape_add.j1
      repeat' first
      | (with_reducible exact ih0 _ _ _ _ _ _ _ _ _ _ _ _)
      | (with_reducible exact ih1 _ _ _ _ _ _ _ _ _ _ _ _)
      | (with_reducible exact ih2 _ _ _ _ _ _ _ _ _ _ _ _)
      | (with_reducible exact ih3 _ _ _ _ _ _ _ _ _ _ _ _)
      | (with_reducible exact float_shape_round.mono _ _ _ _ _ _ _ _ _)
      | (with_reducible exact float_shape_sum.mono _ _ _ _ _ _ _ _ _ _ _ _)
      | (with_reducible exact LeO.refl _)
      | (with_reducible exact LeO.none _)
      | (with_reducible refine LeO.ite ?_ ?_)
      | (with_reducible refine LeO.bind ?_ (fun _ => ?_))
      | exact ih0 _ _ _ _ _ _ _ _ _ _ _ _
      | exact ih1 _ _ _ _ _ _ _ _ _ _ _ _
      | exact ih2 _ _ _ _ _ _ _ _ _ _ _ _
      | exact ih3 _ _ _ _ _ _ _ _ _ _ _ _
      | exact float_shape_round.mono _ _ _ _ _ _ _ _ _
      | exact float_shape_sum.mono _ _ _ _ _ _ _ _ _ _ _ _
      | exact LeO.none _
      | refine LeO.ite ?_ ?_
      | refine LeO.bind ?_ (fun _ => ?_)
    · intro y0 y1 y2 y3 y4 y5 y6 y7 y8 y9 y10 y11
      unfold float_shape_add.j2
      repeat' first
      | (with_reducible exact ih0 _ _ _ _ _ _ _ _ _ _ _ _)
      | (with_reducible exact ih1 _ _ _ _ _ _ _ _ _ _ _ _)
      | (with_reducible exact ih2 _ _ _ _ _ _ _ _ _ _ _ _)
      | (with_reducible exact ih3 _ _ _ _ _ _ _ _ _ _ _ _)
      | (with_reducible exact float_shape_round.mono _ _ _ _ _ _ _ _ _)
      | (with_reducible exact float_shape_sum.mono _ _ _ _ _ _ _ _ _ _ _ _)
      | (with_reducible exact LeO.refl _)
      | (with_reducible exact LeO.none _)
      | (with_reducible refine LeO.ite ?_ ?_)
      | (with_reducible refine LeO.bind ?_ (fun _ => ?_))
      | exact ih0 _ _ _ _ _ _ _ _ _ _ _ _
      | exact ih1 _ _ _ _ _ _ _ _ _ _ _ _
      | exact ih2 _ _ _ _ _ _ _ _ _ _ _ _
      | exact ih3 _ _ _ _ _ _ _ _ _ _ _ _
      | exact float_shape_round.mono _ _ _ _ _ _ _ _ _
      | exact float_shape_sum.mono _ _ _ _ _ _ _ _ _ _ _ _
      | exact LeO.none _
      | refine LeO.ite ?_ ?_
      | refine LeO.bind ?_ (fun _ => ?_)
    · intro y0 y1 y2 y3 y4 y5 y6 y7 y8 y9 y10 y11
      unfold float_shape_add.j3
      repeat' first
      | (with_reducible exact ih0 _ _ _ _ _ _ _ _ _ _ _ _)
      | (with_reducible exact ih1 _ _ _ _ _ _ _ _ _ _ _ _)
      | (with_reducible exact ih2 _ _ _ _ _ _ _ _ _ _ _ _)
      | (with_reducible exact ih3 _ _ _ _ _ _ _ _ _ _ _ _)
      | (with_reducible exact float_shape_round.mono _ _ _ _ _ _ _ _ _)
      | (with_reducible exact float_shape_sum.mono _ _ _ _ _ _ _ _ _ _ _ _)
      | (with_reducible exact LeO.refl _)
      | (with_reducible exact LeO.none _)
      | (with_reducible refine LeO.ite ?_ ?_)
      | (with_reducible refine LeO.bind ?_ (fun _ => ?_))
      | exact ih0 _ _ _ _ _ _ _ _ _ _ _ _
      | exact ih1 _ _ _ _ _ _ _ _ _ _ _ _
      | exact ih2 _ _ _ _ _ _ _ _ _ _ _ _
      | exact ih3 _ _ _ _ _ _ _ _ _ _ _ _
      | exact float_shape_round.mono _ _ _ _ _ _ _ _ _
      | exact float_shape_sum.mono _ _ _ _ _ _ _ _ _ _ _ _
      | exact LeO.none _
      | refine LeO.ite ?_ ?_
      | refine LeO.bind ?_ (fun _ => ?_)
theorem float_shape_add.mono : ∀ a0 a1 a2 a3 a4 a5 a6 a7 a8 a9 a10 k, LeO (float_shape_add.f k a0 a1 a2 a3 a4 a5 a6 a7 a8 a9 a10) (float_shape_add.f (k + 1) a0 a1 a2 a3 a4 a5 a6 a7 a8 a9 a10) := by
  intro a0 a1 a2 a3 a4 a5 a6 a7 a8 a9 a10 k
  obtain ⟨ih0, ih1, ih2, ih3⟩ := float_shape_add.mono_l k
  unfold float_shape_add.f
  repeat' first
      | (with_reducible exact ih0 _ _ _ _ _ _ _ _ _ _ _ _)
      | (with_reducible exact ih1 _ _ _ _ _ _ _ _ _ _ _ _)
      | (with_reducible exact ih2 _ _ _ _ _ _ _ _ _ _ _ _)
      | (with_reducible exact ih3 _ _ _ _ _ _ _ _ _ _ _ _)
      | (with_reducible exact float_shape_round.mono _ _ _ _ _ _ _ _ _)
      | (with_reducible exact float_shape_sum.mono _ _ _ _ _ _ _ _ _ _ _ _)
      | (with_reducible exact LeO.refl _)
      | (with_reducible exact LeO.none _)
      | (with_reducible refine LeO.ite ?_ ?_)
      | (with_reducible refine LeO.bind ?_ (fun _ => ?_))
      | exact ih0 _ _ _ _ _ _ _ _ _ _ _ _
      | exact ih1 _ _ _ _ _ _ _ _ _ _ _ _
      | exact ih2 _ _ _ _ _ _ _ _ _ _ _ _
      | exact ih3 _ _ _ _ _ _ _ _ _ _ _ _
      | exact float_shape_round.mono _ _ _ _ _ _ _ _ _
      | exact float_shape_sum.mono _ _ _ _ _ _ _ _ _ _ _ _
      | exact LeO.none _
      | refine LeO.ite ?_ ?_
      | refine LeO.bind ?_ (fun _ => ?_)
def float_Add.f (k : Nat) (a0 : Int) (a1 : Int) (a2 : Int) (a3 : Int) : Option (Int × Int × Int) := (float_two.f k a0 a1 a2 a3).bind fun bt175 => (if bt175.2.2.2.2.2.2.2.2.2.2 = true then ((float_shape_add.f k bt175.1 bt175.2.1 a1 bt175.2.2.1 bt175.2.2.2.1 bt175.2.2.2.2.1 bt175.2.2.2.2.2.1 bt175.2.2.2.2.2.2.1 bt175.2.2.2.2.2.2.2.1 bt175.2.2.2.2.2.2.2.2.1 bt175.2.2.2.2.2.2.2.2.2.1).bind fun bt189 => (some (bt189.1, bt189.2, 0))) else (some (0, 0, 2)))
theorem float_Add.mono : ∀ a0 a1 a2 a3 k, LeO (float_Add.f k a0 a1 a2 a3) (float_Add.f (k + 1) a0 a1 a2 a3) := by
  intro a0 a1 a2 a3 k
  unfold float_Add.f
  repeat' first
      | (with_reducible exact float_shape_add.mono _ _ _ _ _ _ _ _ _ _ _ _)
      | (with_reducible exact float_two.mono _ _ _ _ _)
      | (with_reducible exact LeO.refl _)
      | (with_reducible exact LeO.none _)
      | (with_reducible refine LeO.ite ?_ ?_)
      | (with_reducible refine LeO.bind ?_ (fun _ => ?_))
      | exact float_shape_add.mono _ _ _ _ _ _ _ _ _ _ _ _
      | exact float_two.mono _ _ _ _ _
      | exact LeO.none _
      | refine LeO.ite ?_ ?_
      | refine LeO.bind ?_ (fun _ => ?_)
def float_Class.f (k : Nat) (a0 : Int) (a1 : Int) : Option (ByteArray) := (float_two.f k a0 0 a1 a1).bind fun bt365 => (if bt365.2.2.2.2.2.2.2.2.2.2 = true then (if bt365.2.2.1 = 0 then (some (⟨#[122, 101, 114, 111]⟩ : ByteArray)) else (if bt365.2.2.1 = 2 then (some (⟨#[105, 110, 102, 105, 110, 105, 116, 101]⟩ : ByteArray)) else (if bt365.2.2.1 = 3 then (some (⟨#[110, 111, 110, 101]⟩ : ByteArray)) else (if 0 ≤ (wrap64 (bt365.1 - 1)) then (if bt365.2.2.2.2.1 < (shl .u64 1 (wrap64 (bt365.1 - 1))) then (some (⟨#[108, 101, 97, 115, 116]⟩ : ByteArray)) else (some (⟨#[110, 111, 114, 109, 97, 108]⟩ : ByteArray))) else (none))))) else (some (⟨#[]⟩ : ByteArray)))
theorem float_Class.mono : ∀ a0 a1 k, LeO (float_Class.f k a0 a1) (float_Class.f (k + 1) a0 a1) := by
  intro a0 a1 k
  unfold float_Class.f
  repeat' first
      | (with_reducible exact float_two.mono _ _ _ _ _)
      | (with_reducible exact LeO.refl _)
      | (with_reducible exact LeO.none _)
      | (with_reducible refine LeO.ite ?_ ?_)
      | (with_reducible refine LeO.bind ?_ (fun _ => ?_))
      | exact float_two.mono _ _ _ _ _
      | exact LeO.none _
      | refine LeO.ite ?_ ?_
      | refine LeO.bind ?_ (fun _ => ?_)
def quadratlaw01_Awake.f (k : Nat)  : Option (Bool) := (float_Add.f k 2 0 15360 15360).bind fun bt379 => (if bt379.1 = 16384 then (if bt379.2.1 = 0 then (if bt379.2.2 = 0 then ((float_Class.f k 2 1).bind fun t382 => (some (t382.toList == ([108, 101, 97, 115, 116] : List UInt8)))) else (some false)) else (some false)) else (some false))
theorem quadratlaw01_Awake.mono : ∀ k, LeO (quadratlaw01_Awake.f k ) (quadratlaw01_Awake.f (k + 1) ) := by
  intro  k
  unfold quadratlaw01_Awake.f
  repeat' first
      | (with_reducible exact float_Add.mono _ _ _ _ _)
      | (with_reducible exact float_Class.mono _ _ _)
      | (with_reducible exact LeO.refl _)
      | (with_reducible exact LeO.none _)
      | (with_reducible refine LeO.ite ?_ ?_)
      | (with_reducible refine LeO.bind ?_ (fun _ => ?_))
      | exact float_Add.mono _ _ _ _ _
      | exact float_Class.mono _ _ _
      | exact LeO.none _
      | refine LeO.ite ?_ ?_
      | refine LeO.bind ?_ (fun _ => ?_)
def quadratref01_Digits.f (a0 : Int) : Option (Int) := if a0 = 2 then (some 11) else (if a0 = 4 then (some 24) else (if a0 = 8 then (some 53) else (some 0)))
def quadratref01_Of.l0 : Nat → List Int → Int → Option (List Int)
  | 0, _, _ => none
  | k + 1, x3, x4 => if x4 > 0 then (if x3.length < 140737488355328 then (quadratref01_Of.l0 k (x3 ++ [(Int.tmod x4 2) % 256]) (IntKind.u64.wrap (Int.tdiv x4 2))) else (none)) else (some x3)
def quadratref01_Of.f (k : Nat) (a0 : Int) : Option (List Int) := quadratref01_Of.l0 k ([] : List Int) (IntKind.u64.wrap (a0))
theorem quadratref01_Of.mono_l : ∀ k, (∀ y0 y1, LeO (quadratref01_Of.l0 k y0 y1) (quadratref01_Of.l0 (k + 1) y0 y1))
  | 0 => fun _ _ r h => by simp [quadratref01_Of.l0] at h
  | k + 1 => by
    have ih0 := quadratref01_Of.mono_l k
    · intro y0 y1
      unfold quadratref01_Of.l0
      repeat' first
      | (with_reducible exact ih0 _ _)
      | (with_reducible exact LeO.refl _)
      | (with_reducible exact LeO.none _)
      | (with_reducible refine LeO.ite ?_ ?_)
      | (with_reducible refine LeO.bind ?_ (fun _ => ?_))
      | exact ih0 _ _
      | exact LeO.none _
      | refine LeO.ite ?_ ?_
      | refine LeO.bind ?_ (fun _ => ?_)
theorem quadratref01_Of.mono : ∀ a0 k, LeO (quadratref01_Of.f k a0) (quadratref01_Of.f (k + 1) a0) := by
  intro a0 k
  have ih0 := quadratref01_Of.mono_l k
  unfold quadratref01_Of.f
  repeat' first
      | (with_reducible exact ih0 _ _)
      | (with_reducible exact LeO.refl _)
      | (with_reducible exact LeO.none _)
      | (with_reducible refine LeO.ite ?_ ?_)
      | (with_reducible refine LeO.bind ?_ (fun _ => ?_))
      | exact ih0 _ _
      | exact LeO.none _
      | refine LeO.ite ?_ ?_
      | refine LeO.bind ?_ (fun _ => ?_)
def quadratref01_Bias.f (a0 : Int) : Option (Int) := if a0 = 2 then (some 15) else (if a0 = 4 then (some 127) else (some 1023))
def quadratref01_least.f (a0 : Int) : Option (Int) := (quadratref01_Bias.f a0).bind fun t197 => ((quadratref01_Digits.f a0).bind fun t198 => (some (wrap64 ((wrap64 (2 - t197)) - t198))))
def quadratref01_Valid.f (a0 : Int) (a1 : Int) : Option (Bool) := if a0 = 2 then (if a1 ≥ 0 then (some (decide (a1 < 65536))) else (some false)) else (if a0 = 4 then (if a1 ≥ 0 then (some (decide (a1 < 4294967296))) else (some false)) else (some (a0 == 8)))
mutual
def quadratref01_taken.j0 : Nat → Int → Int → Int → Int → Int → Int → Bool → Option (ByteArray × Int × List Int × Int)
  | 0, _, _, _, _, _, _, _ => none
  | k + 1, x0, x5, x6, x8, x9, x10, x43 => if x43 = true then (some ((⟨#[105, 110, 102, 105, 110, 105, 116, 101]⟩ : ByteArray), x10, ([] : List Int), 0)) else (if 0 ≤ x6 then (if x9 = (wrap64 ((shl .i64 1 x6) - 1)) then (some ((⟨#[110, 111, 110, 101]⟩ : ByteArray), 0, ([] : List Int), 0)) else (if x9 = 0 then (quadratref01_taken.j1 k x0 x5 x8 x9 x10 (x8 == 0)) else (quadratref01_taken.j1 k x0 x5 x8 x9 x10 false))) else (none))
def quadratref01_taken.j1 : Nat → Int → Int → Int → Int → Int → Bool → Option (ByteArray × Int × List Int × Int)
  | 0, _, _, _, _, _, _ => none
  | k + 1, x0, x5, x8, x9, x10, x62 => if x62 = true then (some ((⟨#[122, 101, 114, 111]⟩ : ByteArray), x10, ([] : List Int), 0)) else (if x9 = 0 then ((quadratref01_Of.f k x8).bind fun t201 => ((quadratref01_least.f x0).bind fun t204 => (some ((⟨#[102, 105, 110, 105, 116, 101]⟩ : ByteArray), x10, t201, t204)))) else (if 0 ≤ (wrap64 (x5 - 1)) then ((quadratref01_Of.f k (wrap64 ((shl .i64 1 (wrap64 (x5 - 1))) + x8))).bind fun t205 => ((quadratref01_Bias.f x0).bind fun t208 => (some ((⟨#[102, 105, 110, 105, 116, 101]⟩ : ByteArray), x10, t205, wrap64 ((wrap64 ((wrap64 (x9 - t208)) - x5)) + 1))))) else (none)))
end
def quadratref01_taken.f (k : Nat) (a0 : Int) (a1 : Int) : Option (ByteArray × Int × List Int × Int) := (quadratref01_Digits.f a0).bind fun t200 => (if 0 ≤ (wrap64 (t200 - 1)) then (if 0 ≤ (wrap64 ((wrap64 (8 * a0)) - t200)) then (if 0 ≤ (wrap64 ((wrap64 (8 * a0)) - 1)) then (if (wrap64 (Go.bits .and .u64 (shr .u64 (IntKind.u64.wrap (a1)) (wrap64 (t200 - 1))) (IntKind.u64.wrap ((shl .u64 1 (wrap64 ((wrap64 (8 * a0)) - t200))) - 1)))) = (wrap64 ((shl .i64 1 (wrap64 ((wrap64 (8 * a0)) - t200))) - 1)) then (quadratref01_taken.j0 k a0 t200 (wrap64 ((wrap64 (8 * a0)) - t200)) (wrap64 (Go.bits .and .u64 (IntKind.u64.wrap (a1)) (IntKind.u64.wrap ((shl .u64 1 (wrap64 (t200 - 1))) - 1)))) (wrap64 (Go.bits .and .u64 (shr .u64 (IntKind.u64.wrap (a1)) (wrap64 (t200 - 1))) (IntKind.u64.wrap ((shl .u64 1 (wrap64 ((wrap64 (8 * a0)) - t200))) - 1)))) (wrap64 (Go.bits .and .u64 (shr .u64 (IntKind.u64.wrap (a1)) (wrap64 ((wrap64 (8 * a0)) - 1))) 1)) ((wrap64 (Go.bits .and .u64 (IntKind.u64.wrap (a1)) (IntKind.u64.wrap ((shl .u64 1 (wrap64 (t200 - 1))) - 1)))) == 0)) else (quadratref01_taken.j0 k a0 t200 (wrap64 ((wrap64 (8 * a0)) - t200)) (wrap64 (Go.bits .and .u64 (IntKind.u64.wrap (a1)) (IntKind.u64.wrap ((shl .u64 1 (wrap64 (t200 - 1))) - 1)))) (wrap64 (Go.bits .and .u64 (shr .u64 (IntKind.u64.wrap (a1)) (wrap64 (t200 - 1))) (IntKind.u64.wrap ((shl .u64 1 (wrap64 ((wrap64 (8 * a0)) - t200))) - 1)))) (wrap64 (Go.bits .and .u64 (shr .u64 (IntKind.u64.wrap (a1)) (wrap64 ((wrap64 (8 * a0)) - 1))) 1)) false)) else (none)) else (none)) else (none))
theorem quadratref01_taken.mono_l : ∀ k, (∀ y0 y1 y2 y3 y4 y5 y6, LeO (quadratref01_taken.j0 k y0 y1 y2 y3 y4 y5 y6) (quadratref01_taken.j0 (k + 1) y0 y1 y2 y3 y4 y5 y6)) ∧ (∀ y0 y1 y2 y3 y4 y5, LeO (quadratref01_taken.j1 k y0 y1 y2 y3 y4 y5) (quadratref01_taken.j1 (k + 1) y0 y1 y2 y3 y4 y5))
  | 0 => ⟨fun _ _ _ _ _ _ _ r h => by simp [quadratref01_taken.j0] at h, fun _ _ _ _ _ _ r h => by simp [quadratref01_taken.j1] at h⟩
  | k + 1 => by
    obtain ⟨ih0, ih1⟩ := quadratref01_taken.mono_l k
    refine ⟨?_, ?_⟩
    · intro y0 y1 y2 y3 y4 y5 y6
      unfold quadratref01_taken.j0
      repeat' first
      | (with_reducible exact ih0 _ _ _ _ _ _ _)
      | (with_reducible exact ih1 _ _ _ _ _ _)
      | (with_reducible exact quadratref01_Of.mono _ _)
      | (with_reducible exact LeO.refl _)
      | (with_reducible exact LeO.none _)
      | (with_reducible refine LeO.ite ?_ ?_)
      | (with_reducible refine LeO.bind ?_ (fun _ => ?_))
      | exact ih0 _ _ _ _ _ _ _
      | exact ih1 _ _ _ _ _ _
      | exact quadratref01_Of.mono _ _
      | exact LeO.none _
      | refine LeO.ite ?_ ?_
      | refine LeO.bind ?_ (fun _ => ?_)
    · intro y0 y1 y2 y3 y4 y5
      unfold quadratref01_taken.j1
      repeat' first
      | (with_reducible exact ih0 _ _ _ _ _ _ _)
      | (with_reducible exact ih1 _ _ _ _ _ _)
      | (with_reducible exact quadratref01_Of.mono _ _)
      | (with_reducible exact LeO.refl _)
      | (with_reducible exact LeO.none _)
      | (with_reducible refine LeO.ite ?_ ?_)
      | (with_reducible refine LeO.bind ?_ (fun _ => ?_))
      | exact ih0 _ _ _ _ _ _ _
      | exact ih1 _ _ _ _ _ _
      | exact quadratref01_Of.mono _ _
      | exact LeO.none _
      | refine LeO.ite ?_ ?_
      | refine LeO.bind ?_ (fun _ => ?_)
theorem quadratref01_taken.mono : ∀ a0 a1 k, LeO (quadratref01_taken.f k a0 a1) (quadratref01_taken.f (k + 1) a0 a1) := by
  intro a0 a1 k
  obtain ⟨ih0, ih1⟩ := quadratref01_taken.mono_l k
  unfold quadratref01_taken.f
  repeat' first
      | (with_reducible exact ih0 _ _ _ _ _ _ _)
      | (with_reducible exact ih1 _ _ _ _ _ _)
      | (with_reducible exact quadratref01_Of.mono _ _)
      | (with_reducible exact LeO.refl _)
      | (with_reducible exact LeO.none _)
      | (with_reducible refine LeO.ite ?_ ?_)
      | (with_reducible refine LeO.bind ?_ (fun _ => ?_))
      | exact ih0 _ _ _ _ _ _ _
      | exact ih1 _ _ _ _ _ _
      | exact quadratref01_Of.mono _ _
      | exact LeO.none _
      | refine LeO.ite ?_ ?_
      | refine LeO.bind ?_ (fun _ => ?_)
def quadratref01_IsMode.f (a0 : Int) : Option (Bool) := if a0 ≥ 0 then (some (decide (a0 ≤ 3))) else (some false)
def quadratref01_bits.f (a0 : Int) (a1 : Int) (a2 : Int) (a3 : Int) : Option (Int) := (quadratref01_Digits.f a0).bind fun t209 => (if 0 ≤ (wrap64 ((wrap64 (8 * a0)) - 1)) then (if 0 ≤ (wrap64 (t209 - 1)) then (some (wrap64 (Go.bits .or .u64 (Go.bits .or .u64 (shl .u64 (IntKind.u64.wrap (a1)) (wrap64 ((wrap64 (8 * a0)) - 1))) (shl .u64 (IntKind.u64.wrap (a2)) (wrap64 (t209 - 1)))) (IntKind.u64.wrap (a3))))) else (none)) else (none))
def quadratref01_all.f (a0 : Int) : Option (Int) := (quadratref01_Digits.f a0).bind fun t210 => (if 0 ≤ (wrap64 ((wrap64 (8 * a0)) - t210)) then (some (wrap64 ((shl .i64 1 (wrap64 ((wrap64 (8 * a0)) - t210))) - 1))) else (none))
def quadratref01_asked.f (a0 : Int) (a1 : Int) (a2 : Int) (a3 : Int) : Option (Bool) := (quadratref01_IsMode.f a1).bind fun t191 => (if t191 = true then ((quadratref01_Valid.f a0 a2).bind fun t192 => (if t192 = true then ((quadratref01_Valid.f a0 a3).bind fun t193 => (some t193)) else (some false))) else (some false))
def quadratref01_Quiet.f (a0 : Int) : Option (Int) := (quadratref01_all.f a0).bind fun t211 => ((quadratref01_Digits.f a0).bind fun t212 => (if 0 ≤ (wrap64 (t212 - 2)) then ((quadratref01_bits.f a0 0 t211 (shl .i64 1 (wrap64 (t212 - 2)))).bind fun t213 => (some t213)) else (none)))
def quadratref01_Zero.f (a0 : Int) (a1 : Int) : Option (Int) := (quadratref01_bits.f a0 a1 0 0).bind fun t258 => (some t258)
def float_shape_place.f (a0_0 : Int) (a0_1 : Int) (a1 : Int) : Option (Int) := if 0 ≤ (wrap64 ((wrap64 (a0_0 + a0_1)) - 1)) then (if (Go.bits .and .u64 (shr .u64 (IntKind.u64.wrap (a1)) (wrap64 ((wrap64 (a0_0 + a0_1)) - 1))) 1) = 1 then (some (wrap64 (-(wrap64 (Go.bits .and .u64 (IntKind.u64.wrap (a1)) (IntKind.u64.wrap ((shl .u64 1 (wrap64 ((wrap64 (a0_0 + a0_1)) - 1))) - 1))))))) else (some (wrap64 (Go.bits .and .u64 (IntKind.u64.wrap (a1)) (IntKind.u64.wrap ((shl .u64 1 (wrap64 ((wrap64 (a0_0 + a0_1)) - 1))) - 1)))))) else (none)
mutual
def float_Compare.j1 : Nat → Int → Int → Int → Int → Option (Int × Int)
  | 0, _, _, _, _ => none
  | k + 1, x1, x2, x478000, x478001 => (float_shape_place.f x478000 x478001 x1).bind fun t480 => ((float_shape_place.f x478000 x478001 x2).bind fun t481 => (if t480 < t481 then (some ((-1), 0)) else (if t480 > t481 then (some (1, 0)) else (some (0, 0)))))
def float_Compare.j0 : Nat → Int → Int → Bool → Int → Int → Int → Int → Int → Int → Int → Int → Int → Int → Option (Int × Int)
  | 0, _, _, _, _, _, _, _, _, _, _, _, _, _ => none
  | k + 1, x1, x2, x26, x478000, x478001, x479000, x479001, x479002, x479003, x480000, x480001, x480002, x480003 => if x26 = true then (some (2, 0)) else (if x479000 = 0 then (if x480000 = 0 then (some (0, 0)) else (float_Compare.j1 k x1 x2 x478000 x478001)) else (float_Compare.j1 k x1 x2 x478000 x478001))
end
def float_Compare.f (k : Nat) (a0 : Int) (a1 : Int) (a2 : Int) : Option (Int × Int) := (float_two.f k a0 0 a1 a2).bind fun bt466 => (if bt466.2.2.2.2.2.2.2.2.2.2 = true then (if bt466.2.2.1 = 3 then (float_Compare.j0 k a1 a2 true bt466.1 bt466.2.1 bt466.2.2.1 bt466.2.2.2.1 bt466.2.2.2.2.1 bt466.2.2.2.2.2.1 bt466.2.2.2.2.2.2.1 bt466.2.2.2.2.2.2.2.1 bt466.2.2.2.2.2.2.2.2.1 bt466.2.2.2.2.2.2.2.2.2.1) else (float_Compare.j0 k a1 a2 (bt466.2.2.2.2.2.2.1 == 3) bt466.1 bt466.2.1 bt466.2.2.1 bt466.2.2.2.1 bt466.2.2.2.2.1 bt466.2.2.2.2.2.1 bt466.2.2.2.2.2.2.1 bt466.2.2.2.2.2.2.2.1 bt466.2.2.2.2.2.2.2.2.1 bt466.2.2.2.2.2.2.2.2.2.1)) else (some (0, 2)))
theorem float_Compare.mono_l : ∀ k, (∀ y0 y1 y2 y3, LeO (float_Compare.j1 k y0 y1 y2 y3) (float_Compare.j1 (k + 1) y0 y1 y2 y3)) ∧ (∀ y0 y1 y2 y3 y4 y5 y6 y7 y8 y9 y10 y11 y12, LeO (float_Compare.j0 k y0 y1 y2 y3 y4 y5 y6 y7 y8 y9 y10 y11 y12) (float_Compare.j0 (k + 1) y0 y1 y2 y3 y4 y5 y6 y7 y8 y9 y10 y11 y12))
  | 0 => ⟨fun _ _ _ _ r h => by simp [float_Compare.j1] at h, fun _ _ _ _ _ _ _ _ _ _ _ _ _ r h => by simp [float_Compare.j0] at h⟩
  | k + 1 => by
    obtain ⟨ih0, ih1⟩ := float_Compare.mono_l k
    refine ⟨?_, ?_⟩
    · intro y0 y1 y2 y3
      unfold float_Compare.j1
      repeat' first
      | (with_reducible exact ih0 _ _ _ _)
      | (with_reducible exact ih1 _ _ _ _ _ _ _ _ _ _ _ _ _)
      | (with_reducible exact float_two.mono _ _ _ _ _)
      | (with_reducible exact LeO.refl _)
      | (with_reducible exact LeO.none _)
      | (with_reducible refine LeO.ite ?_ ?_)
      | (with_reducible refine LeO.bind ?_ (fun _ => ?_))
      | exact ih0 _ _ _ _
      | exact ih1 _ _ _ _ _ _ _ _ _ _ _ _ _
      | exact float_two.mono _ _ _ _ _
      | exact LeO.none _
      | refine LeO.ite ?_ ?_
      | refine LeO.bind ?_ (fun _ => ?_)
    · intro y0 y1 y2 y3 y4 y5 y6 y7 y8 y9 y10 y11 y12
      unfold float_Compare.j0
      repeat' first
      | (with_reducible exact ih0 _ _ _ _)
      | (with_reducible exact ih1 _ _ _ _ _ _ _ _ _ _ _ _ _)
      | (with_reducible exact float_two.mono _ _ _ _ _)
      | (with_reducible exact LeO.refl _)
      | (with_reducible exact LeO.none _)
      | (with_reducible refine LeO.ite ?_ ?_)
      | (with_reducible refine LeO.bind ?_ (fun _ => ?_))
      | exact ih0 _ _ _ _
      | exact ih1 _ _ _ _ _ _ _ _ _ _ _ _ _
      | exact float_two.mono _ _ _ _ _
      | exact LeO.none _
      | refine LeO.ite ?_ ?_
      | refine LeO.bind ?_ (fun _ => ?_)
theorem float_Compare.mono : ∀ a0 a1 a2 k, LeO (float_Compare.f k a0 a1 a2) (float_Compare.f (k + 1) a0 a1 a2) := by
  intro a0 a1 a2 k
  obtain ⟨ih0, ih1⟩ := float_Compare.mono_l k
  unfold float_Compare.f
  repeat' first
      | (with_reducible exact ih0 _ _ _ _)
      | (with_reducible exact ih1 _ _ _ _ _ _ _ _ _ _ _ _ _)
      | (with_reducible exact float_two.mono _ _ _ _ _)
      | (with_reducible exact LeO.refl _)
      | (with_reducible exact LeO.none _)
      | (with_reducible refine LeO.ite ?_ ?_)
      | (with_reducible refine LeO.bind ?_ (fun _ => ?_))
      | exact ih0 _ _ _ _
      | exact ih1 _ _ _ _ _ _ _ _ _ _ _ _ _
      | exact float_two.mono _ _ _ _ _
      | exact LeO.none _
      | refine LeO.ite ?_ ?_
      | refine LeO.bind ?_ (fun _ => ?_)
def float_Valid.f (k : Nat) (a0 : Int) (a1 : Int) : Option (Bool) := (float_of.f a0).bind fun bt499 => (if bt499.2.2 = true then ((float_shape_read.f k bt499.1 bt499.2.1 a1).bind fun bt503 => (some bt503.2.2.2.2)) else (some false))
theorem float_Valid.mono : ∀ a0 a1 k, LeO (float_Valid.f k a0 a1) (float_Valid.f (k + 1) a0 a1) := by
  intro a0 a1 k
  unfold float_Valid.f
  repeat' first
      | (with_reducible exact float_shape_read.mono _ _ _ _)
      | (with_reducible exact LeO.refl _)
      | (with_reducible exact LeO.none _)
      | (with_reducible refine LeO.ite ?_ ?_)
      | (with_reducible refine LeO.bind ?_ (fun _ => ?_))
      | exact float_shape_read.mono _ _ _ _
      | exact LeO.none _
      | refine LeO.ite ?_ ?_
      | refine LeO.bind ?_ (fun _ => ?_)
mutual
def float_Next.j0 : Nat → Int → Bool → Int → Int → Int → Option (Int × Int)
  | 0, _, _, _, _, _ => none
  | k + 1, x1, x2, x12, x527000, x527001 => (float_shape_place.f x527000 x527001 x1).bind fun t530 => ((float_shape_top.f x527000 x527001).bind fun t531 => (if 0 ≤ (wrap64 (x527000 - 1)) then (if (wrap64 (t530 * x12)) < (wrap64 (shl .u64 t531 (wrap64 (x527000 - 1)))) then (float_Next.j1 k x2 (wrap64 (t530 + x12)) x527000 x527001) else (float_Next.j1 k x2 t530 x527000 x527001)) else (none)))
def float_Next.j1 : Nat → Bool → Int → Int → Int → Option (Int × Int)
  | 0, _, _, _, _ => none
  | k + 1, x2, x13, x527000, x527001 => if x13 < 0 then (if 0 ≤ (wrap64 ((wrap64 (x527000 + x527001)) - 1)) then (some (wrap64 (Go.bits .or .u64 (IntKind.u64.wrap (wrap64 (-x13))) (shl .u64 1 (wrap64 ((wrap64 (x527000 + x527001)) - 1)))), 0)) else (none)) else (if x13 = 0 then (float_Next.j2 k x13 (!x2) x527000 x527001) else (float_Next.j2 k x13 false x527000 x527001))
def float_Next.j2 : Nat → Int → Bool → Int → Int → Option (Int × Int)
  | 0, _, _, _, _ => none
  | k + 1, x13, x67, x527000, x527001 => if x67 = true then ((float_shape_zero.f x527000 x527001 0).bind fun t532 => (some (t532, 0))) else (if x13 = 0 then ((float_shape_zero.f x527000 x527001 1).bind fun t533 => (some (t533, 0))) else (some (x13, 0)))
end
def float_Next.f (k : Nat) (a0 : Int) (a1 : Int) (a2 : Bool) : Option (Int × Int) := (float_two.f k a0 0 a1 a1).bind fun bt515 => (if bt515.2.2.2.2.2.2.2.2.2.2 = true then (if bt515.2.2.1 = 3 then ((float_shape_quiet.f bt515.1 bt515.2.1).bind fun t529 => (some (t529, 0))) else (if a2 = true then (float_Next.j0 k a1 a2 1 bt515.1 bt515.2.1) else (float_Next.j0 k a1 a2 (-1) bt515.1 bt515.2.1))) else (some (0, 2)))
theorem float_Next.mono_l : ∀ k, (∀ y0 y1 y2 y3 y4, LeO (float_Next.j0 k y0 y1 y2 y3 y4) (float_Next.j0 (k + 1) y0 y1 y2 y3 y4)) ∧ (∀ y0 y1 y2 y3, LeO (float_Next.j1 k y0 y1 y2 y3) (float_Next.j1 (k + 1) y0 y1 y2 y3)) ∧ (∀ y0 y1 y2 y3, LeO (float_Next.j2 k y0 y1 y2 y3) (float_Next.j2 (k + 1) y0 y1 y2 y3))
  | 0 => ⟨fun _ _ _ _ _ r h => by simp [float_Next.j0] at h, fun _ _ _ _ r h => by simp [float_Next.j1] at h, fun _ _ _ _ r h => by simp [float_Next.j2] at h⟩
  | k + 1 => by
    obtain ⟨ih0, ih1, ih2⟩ := float_Next.mono_l k
    refine ⟨?_, ?_, ?_⟩
    · intro y0 y1 y2 y3 y4
      unfold float_Next.j0
      repeat' first
      | (with_reducible exact ih0 _ _ _ _ _)
      | (with_reducible exact ih1 _ _ _ _)
      | (with_reducible exact ih2 _ _ _ _)
      | (with_reducible exact float_two.mono _ _ _ _ _)
      | (with_reducible exact LeO.refl _)
      | (with_reducible exact LeO.none _)
      | (with_reducible refine LeO.ite ?_ ?_)
      | (with_reducible refine LeO.bind ?_ (fun _ => ?_))
      | exact ih0 _ _ _ _ _
      | exact ih1 _ _ _ _
      | exact ih2 _ _ _ _
      | exact float_two.mono _ _ _ _ _
      | exact LeO.none _
      | refine LeO.ite ?_ ?_
      | refine LeO.bind ?_ (fun _ => ?_)
    · intro y0 y1 y2 y3
      unfold float_Next.j1
      repeat' first
      | (with_reducible exact ih0 _ _ _ _ _)
      | (with_reducible exact ih1 _ _ _ _)
      | (with_reducible exact ih2 _ _ _ _)
      | (with_reducible exact float_two.mono _ _ _ _ _)
      | (with_reducible exact LeO.refl _)
      | (with_reducible exact LeO.none _)
      | (with_reducible refine LeO.ite ?_ ?_)
      | (with_reducible refine LeO.bind ?_ (fun _ => ?_))
      | exact ih0 _ _ _ _ _
      | exact ih1 _ _ _ _
      | exact ih2 _ _ _ _
      | exact float_two.mono _ _ _ _ _
      | exact LeO.none _
      | refine LeO.ite ?_ ?_
      | refine LeO.bind ?_ (fun _ => ?_)
    · intro y0 y1 y2 y3
      unfold float_Next.j2
      repeat' first
      | (with_reducible exact ih0 _ _ _ _ _)
      | (with_reducible exact ih1 _ _ _ _)
      | (with_reducible exact ih2 _ _ _ _)
      | (with_reducible exact float_two.mono _ _ _ _ _)
      | (with_reducible exact LeO.refl _)
      | (with_reducible exact LeO.none _)
      | (with_reducible refine LeO.ite ?_ ?_)
      | (with_reducible refine LeO.bind ?_ (fun _ => ?_))
      | exact ih0 _ _ _ _ _
      | exact ih1 _ _ _ _
      | exact ih2 _ _ _ _
      | exact float_two.mono _ _ _ _ _
      | exact LeO.none _
      | refine LeO.ite ?_ ?_
      | refine LeO.bind ?_ (fun _ => ?_)
theorem float_Next.mono : ∀ a0 a1 a2 k, LeO (float_Next.f k a0 a1 a2) (float_Next.f (k + 1) a0 a1 a2) := by
  intro a0 a1 a2 k
  obtain ⟨ih0, ih1, ih2⟩ := float_Next.mono_l k
  unfold float_Next.f
  repeat' first
      | (with_reducible exact ih0 _ _ _ _ _)
      | (with_reducible exact ih1 _ _ _ _)
      | (with_reducible exact ih2 _ _ _ _)
      | (with_reducible exact float_two.mono _ _ _ _ _)
      | (with_reducible exact LeO.refl _)
      | (with_reducible exact LeO.none _)
      | (with_reducible refine LeO.ite ?_ ?_)
      | (with_reducible refine LeO.bind ?_ (fun _ => ?_))
      | exact ih0 _ _ _ _ _
      | exact ih1 _ _ _ _
      | exact ih2 _ _ _ _
      | exact float_two.mono _ _ _ _ _
      | exact LeO.none _
      | refine LeO.ite ?_ ?_
      | refine LeO.bind ?_ (fun _ => ?_)
def quadratref01_size.f (a0 : Int) (a1 : Int) : Option (Int) := if 0 ≤ (wrap64 ((wrap64 (8 * a0)) - 1)) then (some (wrap64 (Go.bits .and .u64 (IntKind.u64.wrap (a1)) (IntKind.u64.wrap ((shl .u64 1 (wrap64 ((wrap64 (8 * a0)) - 1))) - 1))))) else (none)
mutual
def quadratref01_Compare.j0 : Nat → Int → Int → Int → Bool → ByteArray → Int → List Int → Int → ByteArray → Int → List Int → Int → Option (Int × Int)
  | 0, _, _, _, _, _, _, _, _, _, _, _, _ => none
  | k + 1, x0, x1, x2, x30, x496000, x496001, x496002, x496003, x497000, x497001, x497002, x497003 => if x30 = true then (some (2, 0)) else ((quadratref01_size.f x0 x1).bind fun t497 => ((quadratref01_size.f x0 x2).bind fun t498 => (if x496001 = 1 then (quadratref01_Compare.j1 k (wrap64 (-t497)) t498 x497000 x497001 x497002 x497003) else (quadratref01_Compare.j1 k t497 t498 x497000 x497001 x497002 x497003))))
def quadratref01_Compare.j1 : Nat → Int → Int → ByteArray → Int → List Int → Int → Option (Int × Int)
  | 0, _, _, _, _, _, _ => none
  | k + 1, x10, x11, x497000, x497001, x497002, x497003 => if x497001 = 1 then (quadratref01_Compare.j2 k x10 (wrap64 (-x11))) else (quadratref01_Compare.j2 k x10 x11)
def quadratref01_Compare.j2 : Nat → Int → Int → Option (Int × Int)
  | 0, _, _ => none
  | k + 1, x10, x11 => if x10 < x11 then (some ((-1), 0)) else (if x10 > x11 then (some (1, 0)) else (some (0, 0)))
end
def quadratref01_Compare.f (k : Nat) (a0 : Int) (a1 : Int) (a2 : Int) : Option (Int × Int) := (quadratref01_asked.f a0 0 a1 a2).bind fun t482 => (if t482 = true then ((quadratref01_taken.f k a0 a1).bind fun bt483 => ((quadratref01_taken.f k a0 a2).bind fun bt489 => (if bt483.1.toList = ([110, 111, 110, 101] : List UInt8) then (quadratref01_Compare.j0 k a0 a1 a2 true bt483.1 bt483.2.1 bt483.2.2.1 bt483.2.2.2 bt489.1 bt489.2.1 bt489.2.2.1 bt489.2.2.2) else (quadratref01_Compare.j0 k a0 a1 a2 (bt489.1.toList == ([110, 111, 110, 101] : List UInt8)) bt483.1 bt483.2.1 bt483.2.2.1 bt483.2.2.2 bt489.1 bt489.2.1 bt489.2.2.1 bt489.2.2.2)))) else (some (0, 2)))
theorem quadratref01_Compare.mono_l : ∀ k, (∀ y0 y1 y2 y3 y4 y5 y6 y7 y8 y9 y10 y11, LeO (quadratref01_Compare.j0 k y0 y1 y2 y3 y4 y5 y6 y7 y8 y9 y10 y11) (quadratref01_Compare.j0 (k + 1) y0 y1 y2 y3 y4 y5 y6 y7 y8 y9 y10 y11)) ∧ (∀ y0 y1 y2 y3 y4 y5, LeO (quadratref01_Compare.j1 k y0 y1 y2 y3 y4 y5) (quadratref01_Compare.j1 (k + 1) y0 y1 y2 y3 y4 y5)) ∧ (∀ y0 y1, LeO (quadratref01_Compare.j2 k y0 y1) (quadratref01_Compare.j2 (k + 1) y0 y1))
  | 0 => ⟨fun _ _ _ _ _ _ _ _ _ _ _ _ r h => by simp [quadratref01_Compare.j0] at h, fun _ _ _ _ _ _ r h => by simp [quadratref01_Compare.j1] at h, fun _ _ r h => by simp [quadratref01_Compare.j2] at h⟩
  | k + 1 => by
    obtain ⟨ih0, ih1, ih2⟩ := quadratref01_Compare.mono_l k
    refine ⟨?_, ?_, ?_⟩
    · intro y0 y1 y2 y3 y4 y5 y6 y7 y8 y9 y10 y11
      unfold quadratref01_Compare.j0
      repeat' first
      | (with_reducible exact ih0 _ _ _ _ _ _ _ _ _ _ _ _)
      | (with_reducible exact ih1 _ _ _ _ _ _)
      | (with_reducible exact ih2 _ _)
      | (with_reducible exact quadratref01_taken.mono _ _ _)
      | (with_reducible exact LeO.refl _)
      | (with_reducible exact LeO.none _)
      | (with_reducible refine LeO.ite ?_ ?_)
      | (with_reducible refine LeO.bind ?_ (fun _ => ?_))
      | exact ih0 _ _ _ _ _ _ _ _ _ _ _ _
      | exact ih1 _ _ _ _ _ _
      | exact ih2 _ _
      | exact quadratref01_taken.mono _ _ _
      | exact LeO.none _
      | refine LeO.ite ?_ ?_
      | refine LeO.bind ?_ (fun _ => ?_)
    · intro y0 y1 y2 y3 y4 y5
      unfold quadratref01_Compare.j1
      repeat' first
      | (with_reducible exact ih0 _ _ _ _ _ _ _ _ _ _ _ _)
      | (with_reducible exact ih1 _ _ _ _ _ _)
      | (with_reducible exact ih2 _ _)
      | (with_reducible exact quadratref01_taken.mono _ _ _)
      | (with_reducible exact LeO.refl _)
      | (with_reducible exact LeO.none _)
      | (with_reducible refine LeO.ite ?_ ?_)
      | (with_reducible refine LeO.bind ?_ (fun _ => ?_))
      | exact ih0 _ _ _ _ _ _ _ _ _ _ _ _
      | exact ih1 _ _ _ _ _ _
      | exact ih2 _ _
      | exact quadratref01_taken.mono _ _ _
      | exact LeO.none _
      | refine LeO.ite ?_ ?_
      | refine LeO.bind ?_ (fun _ => ?_)
    · intro y0 y1
      unfold quadratref01_Compare.j2
      repeat' first
      | (with_reducible exact ih0 _ _ _ _ _ _ _ _ _ _ _ _)
      | (with_reducible exact ih1 _ _ _ _ _ _)
      | (with_reducible exact ih2 _ _)
      | (with_reducible exact quadratref01_taken.mono _ _ _)
      | (with_reducible exact LeO.refl _)
      | (with_reducible exact LeO.none _)
      | (with_reducible refine LeO.ite ?_ ?_)
      | (with_reducible refine LeO.bind ?_ (fun _ => ?_))
      | exact ih0 _ _ _ _ _ _ _ _ _ _ _ _
      | exact ih1 _ _ _ _ _ _
      | exact ih2 _ _
      | exact quadratref01_taken.mono _ _ _
      | exact LeO.none _
      | refine LeO.ite ?_ ?_
      | refine LeO.bind ?_ (fun _ => ?_)
theorem quadratref01_Compare.mono : ∀ a0 a1 a2 k, LeO (quadratref01_Compare.f k a0 a1 a2) (quadratref01_Compare.f (k + 1) a0 a1 a2) := by
  intro a0 a1 a2 k
  obtain ⟨ih0, ih1, ih2⟩ := quadratref01_Compare.mono_l k
  unfold quadratref01_Compare.f
  repeat' first
      | (with_reducible exact ih0 _ _ _ _ _ _ _ _ _ _ _ _)
      | (with_reducible exact ih1 _ _ _ _ _ _)
      | (with_reducible exact ih2 _ _)
      | (with_reducible exact quadratref01_taken.mono _ _ _)
      | (with_reducible exact LeO.refl _)
      | (with_reducible exact LeO.none _)
      | (with_reducible refine LeO.ite ?_ ?_)
      | (with_reducible refine LeO.bind ?_ (fun _ => ?_))
      | exact ih0 _ _ _ _ _ _ _ _ _ _ _ _
      | exact ih1 _ _ _ _ _ _
      | exact ih2 _ _
      | exact quadratref01_taken.mono _ _ _
      | exact LeO.none _
      | refine LeO.ite ?_ ?_
      | refine LeO.bind ?_ (fun _ => ?_)
def quadratlaw01_FloatCompares.f (k : Nat) (a0 : Int) (a1 : Int) (a2 : Int) : Option (Bool) := (float_Compare.f k a0 a1 a2).bind fun bt508 => ((quadratref01_Compare.f k a0 a1 a2).bind fun bt510 => (if bt508.1 = bt510.1 then (if bt508.2 = bt510.2 then ((float_Valid.f k a0 a1).bind fun t512 => ((quadratref01_Valid.f a0 a1).bind fun t513 => (if (t512 == t513) = true then ((quadratlaw01_Awake.f k).bind fun t514 => (some t514)) else (some false)))) else (some false)) else (some false)))
theorem quadratlaw01_FloatCompares.mono : ∀ a0 a1 a2 k, LeO (quadratlaw01_FloatCompares.f k a0 a1 a2) (quadratlaw01_FloatCompares.f (k + 1) a0 a1 a2) := by
  intro a0 a1 a2 k
  unfold quadratlaw01_FloatCompares.f
  repeat' first
      | (with_reducible exact float_Compare.mono _ _ _ _)
      | (with_reducible exact float_Valid.mono _ _ _)
      | (with_reducible exact quadratlaw01_Awake.mono _)
      | (with_reducible exact quadratref01_Compare.mono _ _ _ _)
      | (with_reducible exact LeO.refl _)
      | (with_reducible exact LeO.none _)
      | (with_reducible refine LeO.ite ?_ ?_)
      | (with_reducible refine LeO.bind ?_ (fun _ => ?_))
      | exact float_Compare.mono _ _ _ _
      | exact float_Valid.mono _ _ _
      | exact quadratlaw01_Awake.mono _
      | exact quadratref01_Compare.mono _ _ _ _
      | exact LeO.none _
      | refine LeO.ite ?_ ?_
      | refine LeO.bind ?_ (fun _ => ?_)
/-- THE ONE PURE STATEMENT of quadratlaw01_FloatCompares: yours. -/
def quadratlaw01_FloatCompares.Pure : Prop := ∀ (a0 : Int) (a1 : Int) (a2 : Int), (Lit.int .i64 a0).wf = true → (Lit.int .i64 a1).wf = true → (Lit.int .i64 a2).wf = true → ∃ k, quadratlaw01_FloatCompares.f k a0 a1 a2 = some true
def quadratref01_Next.j0 : Nat → Int → Int → Int → ByteArray → Int → List Int → Int → Option (Int × Int)
  | 0, _, _, _, _, _, _, _ => none
  | k + 1, x0, x1, x9, x542000, x542001, x542002, x542003 => if x542000.toList = ([122, 101, 114, 111] : List UInt8) then ((quadratref01_bits.f x0 x9 0 1).bind fun t543 => (some (t543, 0))) else (if x542001 = x9 then (if x542000.toList = ([105, 110, 102, 105, 110, 105, 116, 101] : List UInt8) then (some (x1, 0)) else (some (wrap64 (IntKind.u64.wrap ((IntKind.u64.wrap (x1)) + 1)), 0))) else (some (wrap64 (IntKind.u64.wrap ((IntKind.u64.wrap (x1)) - 1)), 0)))
def quadratref01_Next.f (k : Nat) (a0 : Int) (a1 : Int) (a2 : Bool) : Option (Int × Int) := (quadratref01_Valid.f a0 a1).bind fun t534 => (if t534 = true then ((quadratref01_taken.f k a0 a1).bind fun bt535 => (if bt535.1.toList = ([110, 111, 110, 101] : List UInt8) then ((quadratref01_Quiet.f a0).bind fun t542 => (some (t542, 0))) else (if a2 = true then (quadratref01_Next.j0 k a0 a1 0 bt535.1 bt535.2.1 bt535.2.2.1 bt535.2.2.2) else (quadratref01_Next.j0 k a0 a1 1 bt535.1 bt535.2.1 bt535.2.2.1 bt535.2.2.2)))) else (some (0, 2)))
theorem quadratref01_Next.mono_l : ∀ k, (∀ y0 y1 y2 y3 y4 y5 y6, LeO (quadratref01_Next.j0 k y0 y1 y2 y3 y4 y5 y6) (quadratref01_Next.j0 (k + 1) y0 y1 y2 y3 y4 y5 y6))
  | 0 => fun _ _ _ _ _ _ _ r h => by simp [quadratref01_Next.j0] at h
  | k + 1 => by
    have ih0 := quadratref01_Next.mono_l k
    · intro y0 y1 y2 y3 y4 y5 y6
      unfold quadratref01_Next.j0
      repeat' first
      | (with_reducible exact ih0 _ _ _ _ _ _ _)
      | (with_reducible exact quadratref01_taken.mono _ _ _)
      | (with_reducible exact LeO.refl _)
      | (with_reducible exact LeO.none _)
      | (with_reducible refine LeO.ite ?_ ?_)
      | (with_reducible refine LeO.bind ?_ (fun _ => ?_))
      | exact ih0 _ _ _ _ _ _ _
      | exact quadratref01_taken.mono _ _ _
      | exact LeO.none _
      | refine LeO.ite ?_ ?_
      | refine LeO.bind ?_ (fun _ => ?_)
theorem quadratref01_Next.mono : ∀ a0 a1 a2 k, LeO (quadratref01_Next.f k a0 a1 a2) (quadratref01_Next.f (k + 1) a0 a1 a2) := by
  intro a0 a1 a2 k
  have ih0 := quadratref01_Next.mono_l k
  unfold quadratref01_Next.f
  repeat' first
      | (with_reducible exact ih0 _ _ _ _ _ _ _)
      | (with_reducible exact quadratref01_taken.mono _ _ _)
      | (with_reducible exact LeO.refl _)
      | (with_reducible exact LeO.none _)
      | (with_reducible refine LeO.ite ?_ ?_)
      | (with_reducible refine LeO.bind ?_ (fun _ => ?_))
      | exact ih0 _ _ _ _ _ _ _
      | exact quadratref01_taken.mono _ _ _
      | exact LeO.none _
      | refine LeO.ite ?_ ?_
      | refine LeO.bind ?_ (fun _ => ?_)
def quadratlaw01_FloatNext.f (k : Nat) (a0 : Int) (a1 : Int) : Option (Bool) := (float_Next.f k a0 a1 true).bind fun bt544 => ((quadratref01_Next.f k a0 a1 true).bind fun bt546 => ((float_Next.f k a0 a1 false).bind fun bt548 => ((quadratref01_Next.f k a0 a1 false).bind fun bt550 => (if bt544.1 = bt546.1 then (if bt544.2 = bt546.2 then (if bt548.1 = bt550.1 then (if bt548.2 = bt550.2 then ((quadratlaw01_Awake.f k).bind fun t552 => (some t552)) else (some false)) else (some false)) else (some false)) else (some false)))))
theorem quadratlaw01_FloatNext.mono : ∀ a0 a1 k, LeO (quadratlaw01_FloatNext.f k a0 a1) (quadratlaw01_FloatNext.f (k + 1) a0 a1) := by
  intro a0 a1 k
  unfold quadratlaw01_FloatNext.f
  repeat' first
      | (with_reducible exact float_Next.mono _ _ _ _)
      | (with_reducible exact quadratlaw01_Awake.mono _)
      | (with_reducible exact quadratref01_Next.mono _ _ _ _)
      | (with_reducible exact LeO.refl _)
      | (with_reducible exact LeO.none _)
      | (with_reducible refine LeO.ite ?_ ?_)
      | (with_reducible refine LeO.bind ?_ (fun _ => ?_))
      | exact float_Next.mono _ _ _ _
      | exact quadratlaw01_Awake.mono _
      | exact quadratref01_Next.mono _ _ _ _
      | exact LeO.none _
      | refine LeO.ite ?_ ?_
      | refine LeO.bind ?_ (fun _ => ?_)
/-- THE ONE PURE STATEMENT of quadratlaw01_FloatNext: yours. -/
def quadratlaw01_FloatNext.Pure : Prop := ∀ (a0 : Int) (a1 : Int), (Lit.int .i64 a0).wf = true → (Lit.int .i64 a1).wf = true → ∃ k, quadratlaw01_FloatNext.f k a0 a1 = some true
def quadratlaw01_FloatSteps.j0 : Nat → Int → Int → Bool → Option (Bool)
  | 0, _, _, _ => none
  | k + 1, x0, x1, x24 => if x24 = true then ((quadratlaw01_Awake.f k).bind fun t649 => (some t649)) else ((float_Next.f k x0 x1 false).bind fun bt650 => ((float_Next.f k x0 bt650.1 true).bind fun bt652 => ((float_Next.f k x0 x1 true).bind fun bt654 => ((float_Next.f k x0 bt654.1 false).bind fun bt656 => ((float_Compare.f k x0 bt650.1 x1).bind fun bt658 => (if bt650.2 = 0 then (if bt652.2 = 0 then (if bt654.2 = 0 then (if bt656.2 = 0 then (if bt652.1 = x1 then (if bt656.1 = x1 then (if bt658.1 = (-1) then ((quadratlaw01_Awake.f k).bind fun t660 => (some t660)) else (some false)) else (some false)) else (some false)) else (some false)) else (some false)) else (some false)) else (some false)))))))
def quadratlaw01_FloatSteps.f (k : Nat) (a0 : Int) (a1 : Int) : Option (Bool) := (float_Class.f k a0 a1).bind fun t648 => (if t648.toList = ([108, 101, 97, 115, 116] : List UInt8) then (quadratlaw01_FloatSteps.j0 k a0 a1 false) else (quadratlaw01_FloatSteps.j0 k a0 a1 (t648.toList != ([110, 111, 114, 109, 97, 108] : List UInt8))))
theorem quadratlaw01_FloatSteps.mono_l : ∀ k, (∀ y0 y1 y2, LeO (quadratlaw01_FloatSteps.j0 k y0 y1 y2) (quadratlaw01_FloatSteps.j0 (k + 1) y0 y1 y2))
  | 0 => fun _ _ _ r h => by simp [quadratlaw01_FloatSteps.j0] at h
  | k + 1 => by
    have ih0 := quadratlaw01_FloatSteps.mono_l k
    · intro y0 y1 y2
      unfold quadratlaw01_FloatSteps.j0
      repeat' first
      | (with_reducible exact ih0 _ _ _)
      | (with_reducible exact float_Class.mono _ _ _)
      | (with_reducible exact float_Compare.mono _ _ _ _)
      | (with_reducible exact float_Next.mono _ _ _ _)
      | (with_reducible exact quadratlaw01_Awake.mono _)
      | (with_reducible exact LeO.refl _)
      | (with_reducible exact LeO.none _)
      | (with_reducible refine LeO.ite ?_ ?_)
      | (with_reducible refine LeO.bind ?_ (fun _ => ?_))
      | exact ih0 _ _ _
      | exact float_Class.mono _ _ _
      | exact float_Compare.mono _ _ _ _
      | exact float_Next.mono _ _ _ _
      | exact quadratlaw01_Awake.mono _
      | exact LeO.none _
      | refine LeO.ite ?_ ?_
      | refine LeO.bind ?_ (fun _ => ?_)
theorem quadratlaw01_FloatSteps.mono : ∀ a0 a1 k, LeO (quadratlaw01_FloatSteps.f k a0 a1) (quadratlaw01_FloatSteps.f (k + 1) a0 a1) := by
  intro a0 a1 k
  have ih0 := quadratlaw01_FloatSteps.mono_l k
  unfold quadratlaw01_FloatSteps.f
  repeat' first
      | (with_reducible exact ih0 _ _ _)
      | (with_reducible exact float_Class.mono _ _ _)
      | (with_reducible exact float_Compare.mono _ _ _ _)
      | (with_reducible exact float_Next.mono _ _ _ _)
      | (with_reducible exact quadratlaw01_Awake.mono _)
      | (with_reducible exact LeO.refl _)
      | (with_reducible exact LeO.none _)
      | (with_reducible refine LeO.ite ?_ ?_)
      | (with_reducible refine LeO.bind ?_ (fun _ => ?_))
      | exact ih0 _ _ _
      | exact float_Class.mono _ _ _
      | exact float_Compare.mono _ _ _ _
      | exact float_Next.mono _ _ _ _
      | exact quadratlaw01_Awake.mono _
      | exact LeO.none _
      | refine LeO.ite ?_ ?_
      | refine LeO.bind ?_ (fun _ => ?_)
/-- THE ONE PURE STATEMENT of quadratlaw01_FloatSteps: yours. -/
def quadratlaw01_FloatSteps.Pure : Prop := ∀ (a0 : Int) (a1 : Int), (Lit.int .i64 a0).wf = true → (Lit.int .i64 a1).wf = true → ∃ k, quadratlaw01_FloatSteps.f k a0 a1 = some true
end Go.Proofs.Ytgpnmifejgdipaa.My
