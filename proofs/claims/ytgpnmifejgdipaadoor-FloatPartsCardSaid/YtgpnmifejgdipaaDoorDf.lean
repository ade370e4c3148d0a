-- stub of the definitions, for quick work on the plain part
import Derived.Test.YtgpnmifejgdipaaDoorMy0
namespace Go.Proofs.YtgpnmifejgdipaaDoor.My
open Go.RowKit Go.Proofs.YtgpnmifejgdipaaDoorW.PrintWords Go.Proofs.YtgpnmifejgdipaaDoorW.PrintLast Go.Proofs.YtgpnmifejgdipaaDoorW.PrintMore
set_option linter.unusedVariables false
set_option linter.unusedSimpArgs false
def float_of.f (a0 : Int) : Option (Int × Int × Bool) := if a0 = 2 then (some (11, 5, true)) else (if a0 = 4 then (some (24, 8, true)) else (if a0 = 8 then (some (53, 11, true)) else (some (0, 0, false))))
def float_shape_top.f (a0_0 : Int) (a0_1 : Int) : Option (Int) := if 0 ≤ a0_1 then (some (IntKind.u64.wrap ((shl .u64 1 a0_1) - 1))) else (none)
def float_shape_bias.f (a0_0 : Int) (a0_1 : Int) : Option (Int) := if 0 ≤ (wrap64 (a0_1 - 1)) then (some (wrap64 ((shl .i64 1 (wrap64 (a0_1 - 1))) - 1))) else (none)
def float_shape_least.f (a0_0 : Int) (a0_1 : Int) : Option (Int) := (float_shape_bias.f a0_0 a0_1).bind fun t105 => (some (wrap64 ((wrap64 (2 - t105)) - a0_0)))
mutual
def float_shape_read.j0 : Nat → Int → Int → Bool → Int → Int → Option (Int × Int × Int × Int × Bool)
  | 0, _, _, _, _, _ => none
  | k + 1, x6, x7, x25, x107000, x107001 => if x25 = true then (some (0, 0, 0, 0, false)) else (if 0 ≤ (wrap64 (x7 - 1)) then (if 0 ≤ (wrap64 (x107000 - 1)) then ((float_shape_top.f x107000 x107001).bind fun t109 => ((float_shape_top.f x107000 x107001).bind fun t110 => (if (Go.bits .and .u64 (shr .u64 x6 (wrap64 (x107000 - 1))) t109) = t110 then (float_shape_read.j1 k (Go.bits .and .u64 (shr .u64 x6 (wrap64 (x107000 - 1))) t109) (Go.bits .and .u64 x6 (IntKind.u64.wrap ((shl .u64 1 (wrap64 (x107000 - 1))) - 1))) ((Go.bits .and .u64 x6 (IntKind.u64.wrap ((shl .u64 1 (wrap64 (x107000 - 1))) - 1))) == 0) x107000 x107001 0 (wrap64 (Go.bits .and .u64 (shr .u64 x6 (wrap64 (x7 - 1))) 1)) 0 0) else (float_shape_read.j1 k (Go.bits .and .u64 (shr .u64 x6 (wrap64 (x107000 - 1))) t109) (Go.bits .and .u64 x6 (IntKind.u64.wrap ((shl .u64 1 (wrap64 (x107000 - 1))) - 1))) false x107000 x107001 0 (wrap64 (Go.bits .and .u64 (shr .u64 x6 (wrap64 (x7 - 1))) 1)) 0 0)))) else (none)) else (none))
def float_shape_read.j1 : Nat → Int → Int → Bool → Int → Int → Int → Int → Int → Int → Option (Int × Int × Int × Int × Bool)
  | 0, _, _, _, _, _, _, _, _, _ => none
  | k + 1, x9, x10, x67, x107000, x107001, x109000, x109001, x109002, x109003 => if x67 = true then (some (2, x109001, x109002, x109003, true)) else ((float_shape_top.f x107000 x107001).bind fun t111 => (if x9 = t111 then (some (3, x109001, x109002, x109003, true)) else (if x9 = 0 then (float_shape_read.j2 k x9 x10 (x10 == 0) x107000 x107001 x109000 x109001 x109002 x109003) else (float_shape_read.j2 k x9 x10 false x107000 x107001 x109000 x109001 x109002 x109003))))
def float_shape_read.j2 : Nat → Int → Int → Bool → Int → Int → Int → Int → Int → Int → Option (Int × Int × Int × Int × Bool)
  | 0, _, _, _, _, _, _, _, _, _ => none
  | k + 1, x9, x10, x83, x107000, x107001, x109000, x109001, x109002, x109003 => if x83 = true then (some (0, x109001, x109002, x109003, true)) else (if x9 = 0 then ((float_shape_least.f x107000 x107001).bind fun t112 => (some (1, x109001, x10, t112, true))) else (if 0 ≤ (wrap64 (x107000 - 1)) then ((float_shape_bias.f x107000 x107001).bind fun t113 => (some (1, x109001, Go.bits .or .u64 x10 (shl .u64 1 (wrap64 (x107000 - 1))), wrap64 ((wrap64 ((wrap64 ((wrap64 (x9)) - t113)) - x107000)) + 1), true))) else (none)))
end
def float_shape_read.f (k : Nat) (a0_0 : Int) (a0_1 : Int) (a1 : Int) : Option (Int × Int × Int × Int × Bool) := if (wrap64 (a0_0 + a0_1)) < 64 then (if 0 ≤ (wrap64 (a0_0 + a0_1)) then (float_shape_read.j0 k (IntKind.u64.wrap (a1)) (wrap64 (a0_0 + a0_1)) ((shr .u64 (IntKind.u64.wrap (a1)) (wrap64 (a0_0 + a0_1))) != 0) a0_0 a0_1) else (none)) else (float_shape_read.j0 k (IntKind.u64.wrap (a1)) (wrap64 (a0_0 + a0_1)) false a0_0 a0_1)
theorem float_shape_read.mono_l : ∀ k, (∀ y0 y1 y2 y3 y4, LeO (float_shape_read.j0 k y0 y1 y2 y3 y4) (float_shape_read.j0 (k + 1) y0 y1 y2 y3 y4)) ∧ (∀ y0 y1 y2 y3 y4 y5 y6 y7 y8, LeO (float_shape_read.j1 k y0 y1 y2 y3 y4 y5 y6 y7 y8) (float_shape_read.j1 (k + 1) y0 y1 y2 y3 y4 y5 y6 y7 y8)) ∧ (∀ y0 y1 y2 y3 y4 y5 y6 y7 y8, LeO (float_shape_read.j2 k y0 y1 y2 y3 y4 y5 y6 y7 y8) (float_shape_read.j2 (k + 1) y0 y1 y2 y3 y4 y5 y6 y7 y8))
  | 0 => ⟨fun _ _ _ _ _ r h => by simp [float_shape_read.j0] at h, fun _ _ _ _ _ _ _ _ _ r h => by simp [float_shape_read.j1] at h, fun _ _ _ _ _ _ _ _ _ r h => by simp [float_shape_read.j2] at h⟩
  | k + 1 => by
    obtain ⟨ih0, ih1, ih2⟩ := float_shape_read.mono_l k
    refine ⟨?_, ?_, ?_⟩
    · intro y0 y1 y2 y3 y4
      unfold float_shape_read.j0
      repeat' first
      | (with_reducible exact ih0 _ _ _ _ _)
      | (with_reducible exact ih1 _ _ _ _ _ _ _ _ _)
      | (with_reducible exact ih2 _ _ _ _ _ _ _ _ _)
      | (with_reducible exact LeO.refl _)
      | (with_reducible exact LeO.none _)
      | (with_reducible refine LeO.ite ?_ ?_)
      | (with_reducible refine LeO.bind ?_ (fun _ => ?_))
      | exact ih0 _ _ _ _ _
      | exact ih1 _ _ _ _ _ _ _ _ _
      | exact ih2 _ _ _ _ _ _ _ _ _
      | exact LeO.none _
      | refine LeO.ite ?_ ?_
      | refine LeO.bind ?_ (fun _ => ?_)
    · intro y0 y1 y2 y3 y4 y5 y6 y7 y8
      unfold float_shape_read.j1
      repeat' first
      | (with_reducible exact ih0 _ _ _ _ _)
      | (with_reducible exact ih1 _ _ _ _ _ _ _ _ _)
      | (with_reducible exact ih2 _ _ _ _ _ _ _ _ _)
      | (with_reducible exact LeO.refl _)
      | (with_reducible exact LeO.none _)
      | (with_reducible refine LeO.ite ?_ ?_)
      | (with_reducible refine LeO.bind ?_ (fun _ => ?_))
      | exact ih0 _ _ _ _ _
      | exact ih1 _ _ _ _ _ _ _ _ _
      | exact ih2 _ _ _ _ _ _ _ _ _
      | exact LeO.none _
      | refine LeO.ite ?_ ?_
      | refine LeO.bind ?_ (fun _ => ?_)
    · intro y0 y1 y2 y3 y4 y5 y6 y7 y8
      unfold float_shape_read.j2
      repeat' first
      | (with_reducible exact ih0 _ _ _ _ _)
      | (with_reducible exact ih1 _ _ _ _ _ _ _ _ _)
      | (with_reducible exact ih2 _ _ _ _ _ _ _ _ _)
      | (with_reducible exact LeO.refl _)
      | (with_reducible exact LeO.none _)
      | (with_reducible refine LeO.ite ?_ ?_)
      | (with_reducible refine LeO.bind ?_ (fun _ => ?_))
      | exact ih0 _ _ _ _ _
      | exact ih1 _ _ _ _ _ _ _ _ _
      | exact ih2 _ _ _ _ _ _ _ _ _
      | exact LeO.none _
      | refine LeO.ite ?_ ?_
      | refine LeO.bind ?_ (fun _ => ?_)
theorem float_shape_read.mono : ∀ a0 a1 a2 k, LeO (float_shape_read.f k a0 a1 a2) (float_shape_read.f (k + 1) a0 a1 a2) := by
  intro a0 a1 a2 k
  obtain ⟨ih0, ih1, ih2⟩ := float_shape_read.mono_l k
  unfold float_shape_read.f
  repeat' first
      | (with_reducible exact ih0 _ _ _ _ _)
      | (with_reducible exact ih1 _ _ _ _ _ _ _ _ _)
      | (with_reducible exact ih2 _ _ _ _ _ _ _ _ _)
      | (with_reducible exact LeO.refl _)
      | (with_reducible exact LeO.none _)
      | (with_reducible refine LeO.ite ?_ ?_)
      | (with_reducible refine LeO.bind ?_ (fun _ => ?_))
      | exact ih0 _ _ _ _ _
      | exact ih1 _ _ _ _ _ _ _ _ _
      | exact ih2 _ _ _ _ _ _ _ _ _
      | exact LeO.none _
      | refine LeO.ite ?_ ?_
      | refine LeO.bind ?_ (fun _ => ?_)
def float_two.f (k : Nat) (a0 a1 a2 a3 : Int) : Option (Int × Int × Int × Int × Int × Int × Int × Int × Int × Int × Bool) :=
  (float_of.f a0).bind fun s => if s.2.2 = false then some (s.1, s.2.1, 0, 0, 0, 0, 0, 0, 0, 0, false) else if a1 < 0 then some (s.1, s.2.1, 0, 0, 0, 0, 0, 0, 0, 0, false) else if 4 ≤ a1 then some (s.1, s.2.1, 0, 0, 0, 0, 0, 0, 0, 0, false)
    else (float_shape_read.f k s.1 s.2.1 a2).bind fun x => (float_shape_read.f k s.1 s.2.1 a3).bind fun y => some (s.1, s.2.1, x.1, x.2.1, x.2.2.1, x.2.2.2.1, y.1, y.2.1, y.2.2.1, y.2.2.2.1, x.2.2.2.2 && y.2.2.2.2)
theorem float_two.mono : ∀ a0 a1 a2 a3 k, LeO (float_two.f k a0 a1 a2 a3) (float_two.f (k + 1) a0 a1 a2 a3) := by
  intro a0 a1 a2 a3 k
  unfold float_two.f
  refine LeO.bind (LeO.refl _) (fun _ => ?_)
  refine LeO.ite (LeO.refl _) ?_
  refine LeO.ite (LeO.refl _) ?_
  refine LeO.ite (LeO.refl _) ?_
  refine LeO.bind (float_shape_read.mono _ _ _ _) (fun _ => ?_)
  refine LeO.bind (float_shape_read.mono _ _ _ _) (fun _ => LeO.refl _)
def float_shape_pack.f (a0_0 : Int) (a0_1 : Int) (a1 : Int) (a2 : Int) (a3 : Int) : Option (Int) := if 0 ≤ (wrap64 ((wrap64 (a0_0 + a0_1)) - 1)) then (if 0 ≤ (wrap64 (a0_0 - 1)) then (some (wrap64 (Go.bits .or .u64 (Go.bits .or .u64 (shl .u64 (IntKind.u64.wrap (a1)) (wrap64 ((wrap64 (a0_0 + a0_1)) - 1))) (shl .u64 a2 (wrap64 (a0_0 - 1)))) a3))) else (none)) else (none)
def float_shape_zero.f (a0_0 : Int) (a0_1 : Int) (a1 : Int) : Option (Int) := (float_shape_pack.f a0_0 a0_1 a1 0 0).bind fun t116 => (some t116)
def float_shape_infinite.f (a0_0 : Int) (a0_1 : Int) (a1 : Int) : Option (Int) := (float_shape_top.f a0_0 a0_1).bind fun t118 => ((float_shape_pack.f a0_0 a0_1 a1 t118 0).bind fun t119 => (some t119))
mutual
def float_exact_right.j1 : Nat → Int → Int → Bool → Bool → Option (Int × Int)
  | 0, _, _, _, _ => none
  | k + 1, x1, x7, x8, x9 => if x1 > 0 then (float_exact_right.j2 k x7 false true) else (float_exact_right.j2 k x7 x8 x9)
def float_exact_right.j2 : Nat → Int → Bool → Bool → Option (Int × Int)
  | 0, _, _, _ => none
  | k + 1, x7, x8, x9 => if x8 = true then (float_exact_right.j3 k x7 x8 x9 x9) else (float_exact_right.j3 k x7 x8 x9 false)
def float_exact_right.j3 : Nat → Int → Bool → Bool → Bool → Option (Int × Int)
  | 0, _, _, _, _ => none
  | k + 1, x7, x8, x9, x48 => if x48 = true then (some (x7, 3)) else (if x8 = true then (some (x7, 2)) else (if x9 = true then (some (x7, 1)) else (some (x7, 0))))
def float_exact_right.l0 : Nat → Int → Int → Int → Bool → Bool → Option (Int × Int)
  | 0, _, _, _, _, _ => none
  | k + 1, x1, x6, x7, x8, x9 => if x1 > 0 then (if x6 = 0 then (if x7 = 0 then (if x8 = true then (if x9 = true then (float_exact_right.l0 k (wrap64 (x1 - 1)) (x6 / 2) (Go.bits .or .u64 (x7 / 2) (IntKind.u64.wrap (x6 * 9223372036854775808))) ((Go.bits .and .u64 x7 1) == 1) true) else (float_exact_right.l0 k (wrap64 (x1 - 1)) (x6 / 2) (Go.bits .or .u64 (x7 / 2) (IntKind.u64.wrap (x6 * 9223372036854775808))) ((Go.bits .and .u64 x7 1) == 1) x8)) else (float_exact_right.j1 k x1 x7 x8 x9)) else (if x9 = true then (float_exact_right.l0 k (wrap64 (x1 - 1)) (x6 / 2) (Go.bits .or .u64 (x7 / 2) (IntKind.u64.wrap (x6 * 9223372036854775808))) ((Go.bits .and .u64 x7 1) == 1) true) else (float_exact_right.l0 k (wrap64 (x1 - 1)) (x6 / 2) (Go.bits .or .u64 (x7 / 2) (IntKind.u64.wrap (x6 * 9223372036854775808))) ((Go.bits .and .u64 x7 1) == 1) x8))) else (if x9 = true then (float_exact_right.l0 k (wrap64 (x1 - 1)) (x6 / 2) (Go.bits .or .u64 (x7 / 2) (IntKind.u64.wrap (x6 * 9223372036854775808))) ((Go.bits .and .u64 x7 1) == 1) true) else (float_exact_right.l0 k (wrap64 (x1 - 1)) (x6 / 2) (Go.bits .or .u64 (x7 / 2) (IntKind.u64.wrap (x6 * 9223372036854775808))) ((Go.bits .and .u64 x7 1) == 1) x8))) else (float_exact_right.j1 k x1 x7 x8 x9)
end
def float_exact_right.f (k : Nat) (a0_0 : Int) (a0_1 : Int) (a0_2 : Int) (a0_3 : Bool) (a1 : Int) : Option (Int × Int) := float_exact_right.l0 k a1 a0_0 a0_1 false a0_3
theorem float_exact_right.mono_l : ∀ k, (∀ y0 y1 y2 y3, LeO (float_exact_right.j1 k y0 y1 y2 y3) (float_exact_right.j1 (k + 1) y0 y1 y2 y3)) ∧ (∀ y0 y1 y2, LeO (float_exact_right.j2 k y0 y1 y2) (float_exact_right.j2 (k + 1) y0 y1 y2)) ∧ (∀ y0 y1 y2 y3, LeO (float_exact_right.j3 k y0 y1 y2 y3) (float_exact_right.j3 (k + 1) y0 y1 y2 y3)) ∧ (∀ y0 y1 y2 y3 y4, LeO (float_exact_right.l0 k y0 y1 y2 y3 y4) (float_exact_right.l0 (k + 1) y0 y1 y2 y3 y4))
  | 0 => ⟨fun _ _ _ _ r h => by simp [float_exact_right.j1] at h, fun _ _ _ r h => by simp [float_exact_right.j2] at h, fun _ _ _ _ r h => by simp [float_exact_right.j3] at h, fun _ _ _ _ _ r h => by simp [float_exact_right.l0] at h⟩
  | k + 1 => by
    obtain ⟨ih0, ih1, ih2, ih3⟩ := float_exact_right.mono_l k
    refine ⟨?_, ?_, ?_, ?_⟩
    · intro y0 y1 y2 y3
      unfold float_exact_right.j1
      repeat' first
      | (with_reducible exact ih0 _ _ _ _)
      | (with_reducible exact ih1 _ _ _)
      | (with_reducible exact ih2 _ _ _ _)
      | (with_reducible exact ih3 _ _ _ _ _)
      | (with_reducible exact LeO.refl _)
      | (with_reducible exact LeO.none _)
      | (with_reducible refine LeO.ite ?_ ?_)
      | (with_reducible refine LeO.bind ?_ (fun _ => ?_))
      | exact ih0 _ _ _ _
      | exact ih1 _ _ _
      | exact ih2 _ _ _ _
      | exact ih3 _ _ _ _ _
      | exact LeO.none _
      | refine LeO.ite ?_ ?_
      | refine LeO.bind ?_ (fun _ => ?_)
    · intro y0 y1 y2
      unfold float_exact_right.j2
      repeat' first
      | (with_reducible exact ih0 _ _ _ _)
      | (with_reducible exact ih1 _ _ _)
      | (with_reducible exact ih2 _ _ _ _)
      | (with_reducible exact ih3 _ _ _ _ _)
      | (with_reducible exact LeO.refl _)
      | (with_reducible exact LeO.none _)
      | (with_reducible refine LeO.ite ?_ ?_)
      | (with_reducible refine LeO.bind ?_ (fun _ => ?_))
      | exact ih0 _ _ _ _
      | exact ih1 _ _ _
      | exact ih2 _ _ _ _
      | exact ih3 _ _ _ _ _
      | exact LeO.none _
      | refine LeO.ite ?_ ?_
      | refine LeO.bind ?_ (fun _ => ?_)
    · intro y0 y1 y2 y3
      unfold float_exact_right.j3
      repeat' first
      | (with_reducible exact ih0 _ _ _ _)
      | (with_reducible exact ih1 _ _ _)
      | (with_reducible exact ih2 _ _ _ _)
      | (with_reducible exact ih3 _ _ _ _ _)
      | (with_reducible exact LeO.refl _)
      | (with_reducible exact LeO.none _)
      | (with_reducible refine LeO.ite ?_ ?_)
      | (with_reducible refine LeO.bind ?_ (fun _ => ?_))
      | exact ih0 _ _ _ _
      | exact ih1 _ _ _
      | exact ih2 _ _ _ _
      | exact ih3 _ _ _ _ _
      | exact LeO.none _
      | refine LeO.ite ?_ ?_
      | refine LeO.bind ?_ (fun _ => ?_)
    · intro y0 y1 y2 y3 y4
      unfold float_exact_right.l0
      repeat' first
      | (with_reducible exact ih0 _ _ _ _)
      | (with_reducible exact ih1 _ _ _)
      | (with_reducible exact ih2 _ _ _ _)
      | (with_reducible exact ih3 _ _ _ _ _)
      | (with_reducible exact LeO.refl _)
      | (with_reducible exact LeO.none _)
      | (with_reducible refine LeO.ite ?_ ?_)
      | (with_reducible refine LeO.bind ?_ (fun _ => ?_))
      | exact ih0 _ _ _ _
      | exact ih1 _ _ _
      | exact ih2 _ _ _ _
      | exact ih3 _ _ _ _ _
      | exact LeO.none _
      | refine LeO.ite ?_ ?_
      | refine LeO.bind ?_ (fun _ => ?_)
theorem float_exact_right.mono : ∀ a0 a1 a2 a3 a4 k, LeO (float_exact_right.f k a0 a1 a2 a3 a4) (float_exact_right.f (k + 1) a0 a1 a2 a3 a4) := by
  intro a0 a1 a2 a3 a4 k
  obtain ⟨ih0, ih1, ih2, ih3⟩ := float_exact_right.mono_l k
  unfold float_exact_right.f
  repeat' first
      | (with_reducible exact ih0 _ _ _ _)
      | (with_reducible exact ih1 _ _ _)
      | (with_reducible exact ih2 _ _ _ _)
      | (with_reducible exact ih3 _ _ _ _ _)
      | (with_reducible exact LeO.refl _)
      | (with_reducible exact LeO.none _)
      | (with_reducible refine LeO.ite ?_ ?_)
      | (with_reducible refine LeO.bind ?_ (fun _ => ?_))
      | exact ih0 _ _ _ _
      | exact ih1 _ _ _
      | exact ih2 _ _ _ _
      | exact ih3 _ _ _ _ _
      | exact LeO.none _
      | refine LeO.ite ?_ ?_
      | refine LeO.bind ?_ (fun _ => ?_)
def float_away.f (a0 : Int) (a1 : Int) (a2 : Bool) (a3 : Int) : Option (Bool) := if a0 = 0 then (if a3 = 3 then (some true) else (if a3 = 2 then (some a2) else (some false))) else (if a0 = 2 then (if a3 > 0 then (some (a1 == 1)) else (some false)) else (if a0 = 3 then (if a3 > 0 then (some (a1 == 0)) else (some false)) else (some false)))
def bits_Len64.f (a0 : Int) : Option (Int) := if 0 ≤ a0 ∧ a0 ≤ 18446744073709551615 then some (Lib.bitLen a0.toNat : Int) else none
def float_exact_long.f (a0_0 : Int) (a0_1 : Int) (a0_2 : Int) (a0_3 : Bool) : Option (Int) := if a0_0 = 0 then ((bits_Len64.f a0_1).bind fun t122 => (some t122)) else ((bits_Len64.f a0_0).bind fun t123 => (some (wrap64 (64 + t123))))
def float_shape_greatest.f (a0_0 : Int) (a0_1 : Int) (a1 : Int) : Option (Int) := (float_shape_top.f a0_0 a0_1).bind fun t125 => (if 0 ≤ (wrap64 (a0_0 - 1)) then ((float_shape_pack.f a0_0 a0_1 a1 (IntKind.u64.wrap (t125 - 1)) (IntKind.u64.wrap ((shl .u64 1 (wrap64 (a0_0 - 1))) - 1))).bind fun t126 => (some t126)) else (none))
mutual
def float_shape_round.j0 : Nat → Int → Int → Int → Int → Int → Int → Int → Int → Int → Option (Int × Int)
  | 0, _, _, _, _, _, _, _, _, _ => none
  | k + 1, x1, x2, x9, x10, x11, x12, x13, x128000, x128001 => if x13 > 0 then ((float_shape_least.f x128000 x128001).bind fun t133 => (if x10 < (wrap64 ((wrap64 (t133 + x128000)) - 1)) then (float_shape_round.j1 k x1 x2 (Go.bits .or .i64 16 8) x11 x12 x13 x128000 x128001) else (float_shape_round.j1 k x1 x2 16 x11 x12 x13 x128000 x128001))) else (float_shape_round.j1 k x1 x2 x9 x11 x12 x13 x128000 x128001)
def float_shape_round.j1 : Nat → Int → Int → Int → Int → Int → Int → Int → Int → Option (Int × Int)
  | 0, _, _, _, _, _, _, _, _ => none
  | k + 1, x1, x2, x9, x11, x12, x13, x128000, x128001 => (float_away.f x1 x2 ((Go.bits .and .u64 x12 1) == 1) x13).bind fun t134 => (if t134 = true then (float_shape_round.j2 k x1 x2 x9 x11 (IntKind.u64.wrap (x12 + 1)) x128000 x128001) else (float_shape_round.j2 k x1 x2 x9 x11 x12 x128000 x128001))
def float_shape_round.j2 : Nat → Int → Int → Int → Int → Int → Int → Int → Option (Int × Int)
  | 0, _, _, _, _, _, _, _ => none
  | k + 1, x1, x2, x9, x11, x12, x128000, x128001 => if 0 ≤ x128000 then (if x12 = (shl .u64 1 x128000) then (float_shape_round.j3 k x1 x2 x9 (wrap64 (x11 + 1)) (x12 / 2) x128000 x128001) else (float_shape_round.j3 k x1 x2 x9 x11 x12 x128000 x128001)) else (none)
def float_shape_round.j3 : Nat → Int → Int → Int → Int → Int → Int → Int → Option (Int × Int)
  | 0, _, _, _, _, _, _, _ => none
  | k + 1, x1, x2, x9, x11, x12, x128000, x128001 => if 0 ≤ (wrap64 (x128000 - 1)) then (if x12 < (shl .u64 1 (wrap64 (x128000 - 1))) then ((float_shape_pack.f x128000 x128001 x2 0 x12).bind fun t135 => (some (t135, x9))) else ((float_shape_bias.f x128000 x128001).bind fun t136 => ((float_shape_top.f x128000 x128001).bind fun t137 => (if (wrap64 ((wrap64 ((wrap64 (x11 + x128000)) - 1)) + t136)) < (wrap64 (t137)) then ((float_shape_pack.f x128000 x128001 x2 (IntKind.u64.wrap (wrap64 ((wrap64 ((wrap64 (x11 + x128000)) - 1)) + t136))) (Go.bits .and .u64 x12 (IntKind.u64.wrap ((shl .u64 1 (wrap64 (x128000 - 1))) - 1)))).bind fun t138 => (some (t138, x9))) else (if x1 = 1 then (float_shape_round.j4 k x2 true x128000 x128001) else (if x1 = 2 then (if x2 = 0 then (float_shape_round.j4 k x2 true x128000 x128001) else (if x1 = 3 then (float_shape_round.j4 k x2 (x2 == 1) x128000 x128001) else (float_shape_round.j4 k x2 false x128000 x128001))) else (if x1 = 3 then (float_shape_round.j4 k x2 (x2 == 1) x128000 x128001) else (float_shape_round.j4 k x2 false x128000 x128001)))))))) else (none)
def float_shape_round.j4 : Nat → Int → Bool → Int → Int → Option (Int × Int)
  | 0, _, _, _, _ => none
  | k + 1, x2, x133, x128000, x128001 => if x133 = true then ((float_shape_greatest.f x128000 x128001 x2).bind fun t139 => (some (t139, 20))) else ((float_shape_infinite.f x128000 x128001 x2).bind fun t140 => (some (t140, 20)))
end
def float_shape_round.f (k : Nat) (a0_0 : Int) (a0_1 : Int) (a1 : Int) (a2 : Int) (a3_0 : Int) (a3_1 : Int) (a3_2 : Int) (a3_3 : Bool) : Option (Int × Int) := (float_exact_long.f a3_0 a3_1 a3_2 a3_3).bind fun t129 => ((float_shape_least.f a0_0 a0_1).bind fun t130 => (if (mx (wrap64 ((wrap64 ((wrap64 ((wrap64 (a3_2 + t129)) - 1)) - a0_0)) + 1)) t130) ≤ a3_2 then (if 0 ≤ (wrap64 (a3_2 - (mx (wrap64 ((wrap64 ((wrap64 ((wrap64 (a3_2 + t129)) - 1)) - a0_0)) + 1)) t130))) then (float_shape_round.j0 k a1 a2 0 (wrap64 ((wrap64 (a3_2 + t129)) - 1)) (mx (wrap64 ((wrap64 ((wrap64 ((wrap64 (a3_2 + t129)) - 1)) - a0_0)) + 1)) t130) (shl .u64 a3_1 (wrap64 (a3_2 - (mx (wrap64 ((wrap64 ((wrap64 ((wrap64 (a3_2 + t129)) - 1)) - a0_0)) + 1)) t130)))) 0 a0_0 a0_1) else (none)) else ((float_exact_right.f k a3_0 a3_1 a3_2 a3_3 (wrap64 ((mx (wrap64 ((wrap64 ((wrap64 ((wrap64 (a3_2 + t129)) - 1)) - a0_0)) + 1)) t130) - a3_2))).bind fun bt131 => (float_shape_round.j0 k a1 a2 0 (wrap64 ((wrap64 (a3_2 + t129)) - 1)) (mx (wrap64 ((wrap64 ((wrap64 ((wrap64 (a3_2 + t129)) - 1)) - a0_0)) + 1)) t130) bt131.1 bt131.2 a0_0 a0_1))))
theorem float_shape_round.mono_l : ∀ k, (∀ y0 y1 y2 y3 y4 y5 y6 y7 y8, LeO (float_shape_round.j0 k y0 y1 y2 y3 y4 y5 y6 y7 y8) (float_shape_round.j0 (k + 1) y0 y1 y2 y3 y4 y5 y6 y7 y8)) ∧ (∀ y0 y1 y2 y3 y4 y5 y6 y7, LeO (float_shape_round.j1 k y0 y1 y2 y3 y4 y5 y6 y7) (float_shape_round.j1 (k + 1) y0 y1 y2 y3 y4 y5 y6 y7)) ∧ (∀ y0 y1 y2 y3 y4 y5 y6, LeO (float_shape_round.j2 k y0 y1 y2 y3 y4 y5 y6) (float_shape_round.j2 (k + 1) y0 y1 y2 y3 y4 y5 y6)) ∧ (∀ y0 y1 y2 y3 y4 y5 y6, LeO (float_shape_round.j3 k y0 y1 y2 y3 y4 y5 y6) (float_shape_round.j3 (k + 1) y0 y1 y2 y3 y4 y5 y6)) ∧ (∀ y0 y1 y2 y3, LeO (float_shape_round.j4 k y0 y1 y2 y3) (float_shape_round.j4 (k + 1) y0 y1 y2 y3))
  | 0 => ⟨fun _ _ _ _ _ _ _ _ _ r h => by simp [float_shape_round.j0] at h, fun _ _ _ _ _ _ _ _ r h => by simp [float_shape_round.j1] at h, fun _ _ _ _ _ _ _ r h => by simp [float_shape_round.j2] at h, fun _ _ _ _ _ _ _ r h => by simp [float_shape_round.j3] at h, fun _ _ _ _ r h => by simp [float_shape_round.j4] at h⟩
  | k + 1 => by
    obtain ⟨ih0, ih1, ih2, ih3, ih4⟩ := float_shape_round.mono_l k
    refine ⟨?_, ?_, ?_, ?_, ?_⟩
    · intro y0 y1 y2 y3 y4 y5 y6 y7 y8
      unfold float_shape_round.j0
      repeat' first
      | (with_reducible exact ih0 _ _ _ _ _ _ _ _ _)
      | (with_reducible exact ih1 _ _ _ _ _ _ _ _)
      | (with_reducible exact ih2 _ _ _ _ _ _ _)
      | (with_reducible exact ih3 _ _ _ _ _ _ _)
      | (with_reducible exact ih4 _ _ _ _)
      | (with_reducible exact float_exact_right.mono _ _ _ _ _ _)
      | (with_reducible exact LeO.refl _)
      | (with_reducible exact LeO.none _)
      | (with_reducible refine LeO.ite ?_ ?_)
      | (with_reducible refine LeO.bind ?_ (fun _ => ?_))
      | exact ih0 _ _ _ _ _ _ _ _ _
      | exact ih1 _ _ _ _ _ _ _ _
      | exact ih2 _ _ _ _ _ _ _
      | exact ih3 _ _ _ _ _ _ _
      | exact ih4 _ _ _ _
      | exact float_exact_right.mono _ _ _ _ _ _
      | exact LeO.none _
      | refine LeO.ite ?_ ?_
      | refine LeO.bind ?_ (fun _ => ?_)
    · intro y0 y1 y2 y3 y4 y5 y6 y7
      unfold float_shape_round.j1
      repeat' first
      | (with_reducible exact ih0 _ _ _ _ _ _ _ _ _)
      | (with_reducible exact ih1 _ _ _ _ _ _ _ _)
      | (with_reducible exact ih2 _ _ _ _ _ _ _)
      | (with_reducible exact ih3 _ _ _ _ _ _ _)
      | (with_reducible exact ih4 _ _ _ _)
      | (with_reducible exact float_exact_right.mono _ _ _ _ _ _)
      | (with_reducible exact LeO.refl _)
      | (with_reducible exact LeO.none _)
      | (with_reducible refine LeO.ite ?_ ?_)
      | (with_reducible refine LeO.bind ?_ (fun _ => ?_))
      | exact ih0 _ _ _ _ _ _ _ _ _
      | exact ih1 _ _ _ _ _ _ _ _
      | exact ih2 _ _ _ _ _ _ _
      | exact ih3 _ _ _ _ _ _ _
      | exact ih4 _ _ _ _
      | exact float_exact_right.mono _ _ _ _ _ _
      | exact LeO.none _
      | refine LeO.ite ?_ ?_
      | refine LeO.bind ?_ (fun _ => ?_)
    · intro y0 y1 y2 y3 y4 y5 y6
      unfold float_shape_round.j2
      repeat' first
      | (with_reducible exact ih0 _ _ _ _ _ _ _ _ _)
      | (with_reducible exact ih1 _ _ _ _ _ _ _ _)
      | (with_reducible exact ih2 _ _ _ _ _ _ _)
      | (with_reducible exact ih3 _ _ _ _ _ _ _)
      | (with_reducible exact ih4 _ _ _ _)
      | (with_reducible exact float_exact_right.mono _ _ _ _ _ _)
      | (with_reducible exact LeO.refl _)
      | (with_reducible exact LeO.none _)
      | (with_reducible refine LeO.ite ?_ ?_)
      | (with_reducible refine LeO.bind ?_ (fun _ => ?_))
      | exact ih0 _ _ _ _ _ _ _ _ _
      | exact ih1 _ _ _ _ _ _ _ _
      | exact ih2 _ _ _ _ _ _ _
      | exact ih3 _ _ _ _ _ _ _
      | exact ih4 _ _ _ _
      | exact float_exact_right.mono _ _ _ _ _ _
      | exact LeO.none _
      | refine LeO.ite ?_ ?_
      | refine LeO.bind ?_ (fun _ => ?_)
    · intro y0 y1 y2 y3 y4 y5 y6
      unfold float_shape_round.j3
      repeat' first
      | (with_reducible exact ih0 _ _ _ _ _ _ _ _ _)
      | (with_reducible exact ih1 _ _ _ _ _ _ _ _)
      | (with_reducible exact ih2 _ _ _ _ _ _ _)
      | (with_reducible exact ih3 _ _ _ _ _ _ _)
      | (with_reducible exact ih4 _ _ _ _)
      | (with_reducible exact float_exact_right.mono _ _ _ _ _ _)
      | (with_reducible exact LeO.refl _)
      | (with_reducible exact LeO.none _)
      | (with_reducible refine LeO.ite ?_ ?_)
      | (with_reducible refine LeO.bind ?_ (fun _ => ?_))
      | exact ih0 _ _ _ _ _ _ _ _ _
      | exact ih1 _ _ _ _ _ _ _ _
      | exact ih2 _ _ _ _ _ _ _
      | exact ih3 _ _ _ _ _ _ _
      | exact ih4 _ _ _ _
      | exact float_exact_right.mono _ _ _ _ _ _
      | exact LeO.none _
      | refine LeO.ite ?_ ?_
      | refine LeO.bind ?_ (fun _ => ?_)
    · intro y0 y1 y2 y3
      unfold float_shape_round.j4
      repeat' first
      | (with_reducible exact ih0 _ _ _ _ _ _ _ _ _)
      | (with_reducible exact ih1 _ _ _ _ _ _ _ _)
      | (with_reducible exact ih2 _ _ _ _ _ _ _)
      | (with_reducible exact ih3 _ _ _ _ _ _ _)
      | (with_reducible exact ih4 _ _ _ _)
      | (with_reducible exact float_exact_right.mono _ _ _ _ _ _)
      | (with_reducible exact LeO.refl _)
      | (with_reducible exact LeO.none _)
      | (with_reducible refine LeO.ite ?_ ?_)
      | (with_reducible refine LeO.bind ?_ (fun _ => ?_))
      | exact ih0 _ _ _ _ _ _ _ _ _
      | exact ih1 _ _ _ _ _ _ _ _
      | exact ih2 _ _ _ _ _ _ _
      | exact ih3 _ _ _ _ _ _ _
      | exact ih4 _ _ _ _
      | exact float_exact_right.mono _ _ _ _ _ _
      | exact LeO.none _
      | refine LeO.ite ?_ ?_
      | refine LeO.bind ?_ (fun _ => ?_)
theorem float_shape_round.mono : ∀ a0 a1 a2 a3 a4 a5 a6 a7 k, LeO (float_shape_round.f k a0 a1 a2 a3 a4 a5 a6 a7) (float_shape_round.f (k + 1) a0 a1 a2 a3 a4 a5 a6 a7) := by
  intro a0 a1 a2 a3 a4 a5 a6 a7 k
  obtain ⟨ih0, ih1, ih2, ih3, ih4⟩ := float_shape_round.mono_l k
  unfold float_shape_round.f
  repeat' first
      | (with_reducible exact ih0 _ _ _ _ _ _ _ _ _)
      | (with_reducible exact ih1 _ _ _ _ _ _ _ _)
      | (with_reducible exact ih2 _ _ _ _ _ _ _)
      | (with_reducible exact ih3 _ _ _ _ _ _ _)
      | (with_reducible exact ih4 _ _ _ _)
      | (with_reducible exact float_exact_right.mono _ _ _ _ _ _)
      | (with_reducible exact LeO.refl _)
      | (with_reducible exact LeO.none _)
      | (with_reducible refine LeO.ite ?_ ?_)
      | (with_reducible refine LeO.bind ?_ (fun _ => ?_))
      | exact ih0 _ _ _ _ _ _ _ _ _
      | exact ih1 _ _ _ _ _ _ _ _
      | exact ih2 _ _ _ _ _ _ _
      | exact ih3 _ _ _ _ _ _ _
      | exact ih4 _ _ _ _
      | exact float_exact_right.mono _ _ _ _ _ _
      | exact LeO.none _
      | refine LeO.ite ?_ ?_
      | refine LeO.bind ?_ (fun _ => ?_)
def float_shape_quiet.f (a0_0 : Int) (a0_1 : Int) : Option (Int) := (float_shape_top.f a0_0 a0_1).bind fun t142 => (if 0 ≤ (wrap64 (a0_0 - 2)) then ((float_shape_pack.f a0_0 a0_1 0 t142 (shl .u64 1 (wrap64 (a0_0 - 2)))).bind fun t143 => (some t143)) else (none))
def float_shape_none.f (a0_0 : Int) (a0_1 : Int) (a1 : Int) : Option (Int) := if a1 = 2 then ((float_shape_zero.f a0_0 a0_1 1).bind fun t145 => (some t145)) else ((float_shape_zero.f a0_0 a0_1 0).bind fun t146 => (some t146))
def float_left.f (a0 : Int) (a1 : Int) : Option (Int × Int) := if a1 ≥ 64 then (if 0 ≤ (wrap64 (a1 - 64)) then (some (shl .u64 a0 (wrap64 (a1 - 64)), 0)) else (none)) else (if 0 ≤ (wrap64 (64 - a1)) then (if 0 ≤ a1 then (some (shr .u64 a0 (wrap64 (64 - a1)), shl .u64 a0 a1)) else (none)) else (none))
mutual
def float_shape_sum.j0 : Nat → Int → Int → Bool → Int → Int → Int → Int → Int → Int → Int → Int → Int → Int → Option (Int × Int)
  | 0, _, _, _, _, _, _, _, _, _, _, _, _, _ => none
  | k + 1, x1, x10, x11, x148000, x148001, x149000, x149001, x149002, x149003, x150000, x150001, x150002, x150003 => (float_left.f x149002 x10).bind fun bt151 => (if x11 = true then (float_shape_sum.j1 k x1 x11 0 x148000 x148001 x149000 x149001 x149002 x149003 x150000 x150001 x150002 x150003 bt151.1 bt151.2 (wrap64 (x149003 - x10)) true) else (float_shape_sum.j1 k x1 x11 x150002 x148000 x148001 x149000 x149001 x149002 x149003 x150000 x150001 x150002 x150003 bt151.1 bt151.2 (wrap64 (x149003 - x10)) false))
def float_shape_sum.j1 : Nat → Int → Bool → Int → Int → Int → Int → Int → Int → Int → Int → Int → Int → Int → Int → Int → Int → Bool → Option (Int × Int)
  | 0, _, _, _, _, _, _, _, _, _, _, _, _, _, _, _, _, _ => none
  | k + 1, x1, x11, x13, x148000, x148001, x149000, x149001, x149002, x149003, x150000, x150001, x150002, x150003, x151000, x151001, x151002, x151003 => if x149001 = x150001 then ((float_shape_round.f k x148000 x148001 x1 x149001 (IntKind.u64.wrap (x151000 + (addC x151001 x13 0))) (addS x151001 x13 0) x151002 x151003).bind fun bt153 => (some (bt153.1, bt153.2))) else (if x11 = true then (float_shape_sum.j2 k x1 1 x148000 x148001 x149000 x149001 x149002 x149003 x150000 x150001 x150002 x150003 x151000 x151001 x151002 x151003) else (float_shape_sum.j2 k x1 x13 x148000 x148001 x149000 x149001 x149002 x149003 x150000 x150001 x150002 x150003 x151000 x151001 x151002 x151003))
def float_shape_sum.j2 : Nat → Int → Int → Int → Int → Int → Int → Int → Int → Int → Int → Int → Int → Int → Int → Int → Bool → Option (Int × Int)
  | 0, _, _, _, _, _, _, _, _, _, _, _, _, _, _, _, _ => none
  | k + 1, x1, x13, x148000, x148001, x149000, x149001, x149002, x149003, x150000, x150001, x150002, x150003, x151000, x151001, x151002, x151003 => if 0 ≤ (subB x151001 x13 0) then (if (subB x151001 x13 0) ≤ 1 then (if (subB x151000 0 (subB x151001 x13 0)) = 1 then (if 0 ≤ (subB 0 (subS x151001 x13 0) 0) then (if (subB 0 (subS x151001 x13 0) 0) ≤ 1 then (float_shape_sum.j3 k x1 (subS 0 (subS x151001 x13 0) 0) (subS 0 (subS x151000 0 (subB x151001 x13 0)) (subB 0 (subS x151001 x13 0) 0)) x150001 x148000 x148001 x151000 x151001 x151002 x151003) else (none)) else (none)) else (float_shape_sum.j3 k x1 (subS x151001 x13 0) (subS x151000 0 (subB x151001 x13 0)) x149001 x148000 x148001 x151000 x151001 x151002 x151003)) else (none)) else (none)
def float_shape_sum.j3 : Nat → Int → Int → Int → Int → Int → Int → Int → Int → Int → Bool → Option (Int × Int)
  | 0, _, _, _, _, _, _, _, _, _, _ => none
  | k + 1, x1, x15, x17, x18, x148000, x148001, x151000, x151001, x151002, x151003 => if x17 = 0 then (float_shape_sum.j4 k x1 x15 x17 x18 (x15 == 0) x148000 x148001 x151000 x151001 x151002 x151003) else (float_shape_sum.j4 k x1 x15 x17 x18 false x148000 x148001 x151000 x151001 x151002 x151003)
def float_shape_sum.j4 : Nat → Int → Int → Int → Int → Bool → Int → Int → Int → Int → Int → Bool → Option (Int × Int)
  | 0, _, _, _, _, _, _, _, _, _, _, _ => none
  | k + 1, x1, x15, x17, x18, x110, x148000, x148001, x151000, x151001, x151002, x151003 => if x110 = true then ((float_shape_none.f x148000 x148001 x1).bind fun t155 => (some (t155, 0))) else ((float_shape_round.f k x148000 x148001 x1 x18 x17 x15 x151002 x151003).bind fun bt156 => (some (bt156.1, bt156.2)))
end
def float_shape_sum.f (k : Nat) (a0_0 : Int) (a0_1 : Int) (a1 : Int) (a2_0 : Int) (a2_1 : Int) (a2_2 : Int) (a2_3 : Int) (a3_0 : Int) (a3_1 : Int) (a3_2 : Int) (a3_3 : Int) : Option (Int × Int) := if (wrap64 (a2_3 - a3_3)) > 70 then (float_shape_sum.j0 k a1 70 (decide ((wrap64 (a2_3 - a3_3)) > 70)) a0_0 a0_1 a2_0 a2_1 a2_2 a2_3 a3_0 a3_1 a3_2 a3_3) else (float_shape_sum.j0 k a1 (wrap64 (a2_3 - a3_3)) (decide ((wrap64 (a2_3 - a3_3)) > 70)) a0_0 a0_1 a2_0 a2_1 a2_2 a2_3 a3_0 a3_1 a3_2 a3_3)
theorem float_shape_sum.mono_l : ∀ k, (∀ y0 y1 y2 y3 y4 y5 y6 y7 y8 y9 y10 y11 y12, LeO (float_shape_sum.j0 k y0 y1 y2 y3 y4 y5 y6 y7 y8 y9 y10 y11 y12) (float_shape_sum.j0 (k + 1) y0 y1 y2 y3 y4 y5 y6 y7 y8 y9 y10 y11 y12)) ∧ (∀ y0 y1 y2 y3 y4 y5 y6 y7 y8 y9 y10 y11 y12 y13 y14 y15 y16, LeO (float_shape_sum.j1 k y0 y1 y2 y3 y4 y5 y6 y7 y8 y9 y10 y11 y12 y13 y14 y15 y16) (float_shape_sum.j1 (k + 1) y0 y1 y2 y3 y4 y5 y6 y7 y8 y9 y10 y11 y12 y13 y14 y15 y16)) ∧ (∀ y0 y1 y2 y3 y4 y5 y6 y7 y8 y9 y10 y11 y12 y13 y14 y15, LeO (float_shape_sum.j2 k y0 y1 y2 y3 y4 y5 y6 y7 y8 y9 y10 y11 y12 y13 y14 y15) (float_shape_sum.j2 (k + 1) y0 y1 y2 y3 y4 y5 y6 y7 y8 y9 y10 y11 y12 y13 y14 y15)) ∧ (∀ y0 y1 y2 y3 y4 y5 y6 y7 y8 y9, LeO (float_shape_sum.j3 k y0 y1 y2 y3 y4 y5 y6 y7 y8 y9) (float_shape_sum.j3 (k + 1) y0 y1 y2 y3 y4 y5 y6 y7 y8 y9)) ∧ (∀ y0 y1 y2 y3 y4 y5 y6 y7 y8 y9 y10, LeO (float_shape_sum.j4 k y0 y1 y2 y3 y4 y5 y6 y7 y8 y9 y10) (float_shape_sum.j4 (k + 1) y0 y1 y2 y3 y4 y5 y6 y7 y8 y9 y10))
  | 0 => ⟨fun _ _ _ _ _ _ _ _ _ _ _ _ _ r h => by simp [float_shape_sum.j0] at h, fun _ _ _ _ _ _ _ _ _ _ _ _ _ _ _ _ _ r h => by simp [float_shape_sum.j1] at h, fun _ _ _ _ _ _ _ _ _ _ _ _ _ _ _ _ r h => by simp [float_shape_sum.j2] at h, fun _ _ _ _ _ _ _ _ _ _ r h => by simp [float_shape_sum.j3] at h, fun _ _ _ _ _ _ _ _ _ _ _ r h => by simp [float_shape_sum.j4] at h⟩
  | k + 1 => by
    obtain ⟨ih0, ih1, ih2, ih3, ih4⟩ := float_shape_sum.mono_l k
    refine ⟨?_, ?_, ?_, ?_, ?_⟩
    · intro y0 y1 y2 y3 y4 y5 y6 y7 y8 y9 y10 y11 y12
      unfold float_shape_sum.j0
      repeat' first
      | (with_reducible exact ih0 _ _ _ _ _ _ _ _ _ _ _ _ _)
      | (with_reducible exact ih1 _ _ _ _ _ _ _ _ _ _ _ _ _ _ _ _ _)
      | (with_reducible exact ih2 _ _ _ _ _ _ _ _ _ _ _ _ _ _ _ _)
      | (with_reducible exact ih3 _ _ _ _ _ _ _ _ _ _)
      | (with_reducible exact ih4 _ _ _ _ _ _ _ _ _ _ _)
      | (with_reducible exact float_shape_round.mono _ _ _ _ _ _ _ _ _)
      | (with_reducible exact LeO.refl _)
      | (with_reducible exact LeO.none _)
      | (with_reducible refine LeO.ite ?_ ?_)
      | (with_reducible refine LeO.bind ?_ (fun _ => ?_))
      | exact ih0 _ _ _ _ _ _ _ _ _ _ _ _ _
      | exact ih1 _ _ _ _ _ _ _ _ _ _ _ _ _ _ _ _ _
      | exact ih2 _ _ _ _ _ _ _ _ _ _ _ _ _ _ _ _
      | exact ih3 _ _ _ _ _ _ _ _ _ _
      | exact ih4 _ _ _ _ _ _ _ _ _ _ _
      | exact float_shape_round.mono _ _ _ _ _ _ _ _ _
      | exact LeO.none _
      | refine LeO.ite ?_ ?_
      | refine LeO.bind ?_ (fun _ => ?_)
    · intro y0 y1 y2 y3 y4 y5 y6 y7 y8 y9 y10 y11 y12 y13 y14 y15 y16
      unfold float_shape_sum.j1
      repeat' first
      | (with_reducible exact ih0 _ _ _ _ _ _ _ _ _ _ _ _ _)
      | (with_reducible exact ih1 _ _ _ _ _ _ _ _ _ _ _ _ _ _ _ _ _)
      | (with_reducible exact ih2 _ _ _ _ _ _ _ _ _ _ _ _ _ _ _ _)
      | (with_reducible exact ih3 _ _ _ _ _ _ _ _ _ _)
      | (with_reducible exact ih4 _ _ _ _ _ _ _ _ _ _ _)
      | (with_reducible exact float_shape_round.mono _ _ _ _ _ _ _ _ _)
      | (with_reducible exact LeO.refl _)
      | (with_reducible exact LeO.none _)
      | (with_reducible refine LeO.ite ?_ ?_)
      | (with_reducible refine LeO.bind ?_ (fun _ => ?_))
      | exact ih0 _ _ _ _ _ _ _ _ _ _ _ _ _
      | exact ih1 _ _ _ _ _ _ _ _ _ _ _ _ _ _ _ _ _
      | exact ih2 _ _ _ _ _ _ _ _ _ _ _ _ _ _ _ _
      | exact ih3 _ _ _ _ _ _ _ _ _ _
      | exact ih4 _ _ _ _ _ _ _ _ _ _ _
      | exact float_shape_round.mono _ _ _ _ _ _ _ _ _
      | exact LeO.none _
      | refine LeO.ite ?_ ?_
      | refine LeO.bind ?_ (fun _ => ?_)
    · intro y0 y1 y2 y3 y4 y5 y6 y7 y8 y9 y10 y11 y12 y13 y14 y15
      unfold float_shape_sum.j2
      repeat' first
      | (with_reducible exact ih0 _ _ _ _ _ _ _ _ _ _ _ _ _)
      | (with_reducible exact ih1 _ _ _ _ _ _ _ _ _ _ _ _ _ _ _ _ _)
      | (with_reducible exact ih2 _ _ _ _ _ _ _ _ _ _ _ _ _ _ _ _)
      | (with_reducible exact ih3 _ _ _ _ _ _ _ _ _ _)
      | (with_reducible exact ih4 _ _ _ _ _ _ _ _ _ _ _)
      | (with_reducible exact float_shape_round.mono _ _ _ _ _ _ _ _ _)
      | (with_reducible exact LeO.refl _)
      | (with_reducible exact LeO.none _)
      | (with_reducible refine LeO.ite ?_ ?_)
      | (with_reducible refine LeO.bind ?_ (fun _ => ?_))
      | exact ih0 _ _ _ _ _ _ _ _ _ _ _ _ _
      | exact ih1 _ _ _ _ _ _ _ _ _ _ _ _ _ _ _ _ _
      | exact ih2 _ _ _ _ _ _ _ _ _ _ _ _ _ _ _ _
      | exact ih3 _ _ _ _ _ _ _ _ _ _
      | exact ih4 _ _ _ _ _ _ _ _ _ _ _
      | exact float_shape_round.mono _ _ _ _ _ _ _ _ _
      | exact LeO.none _
      | refine LeO.ite ?_ ?_
      | refine LeO.bind ?_ (fun _ => ?_)
    · intro y0 y1 y2 y3 y4 y5 y6 y7 y8 y9
      unfold float_shape_sum.j3
      repeat' first
      | (with_reducible exact ih0 _ _ _ _ _ _ _ _ _ _ _ _ _)
      | (with_reducible exact ih1 _ _ _ _ _ _ _ _ _ _ _ _ _ _ _ _ _)
      | (with_reducible exact ih2 _ _ _ _ _ _ _ _ _ _ _ _ _ _ _ _)
      | (with_reducible exact ih3 _ _ _ _ _ _ _ _ _ _)
      | (with_reducible exact ih4 _ _ _ _ _ _ _ _ _ _ _)
      | (with_reducible exact float_shape_round.mono _ _ _ _ _ _ _ _ _)
      | (with_reducible exact LeO.refl _)
      | (with_reducible exact LeO.none _)
      | (with_reducible refine LeO.ite ?_ ?_)
      | (with_reducible refine LeO.bind ?_ (fun _ => ?_))
      | exact ih0 _ _ _ _ _ _ _ _ _ _ _ _ _
      | exact ih1 _ _ _ _ _ _ _ _ _ _ _ _ _ _ _ _ _
      | exact ih2 _ _ _ _ _ _ _ _ _ _ _ _ _ _ _ _
      | exact ih3 _ _ _ _ _ _ _ _ _ _
      | exact ih4 _ _ _ _ _ _ _ _ _ _ _
      | exact float_shape_round.mono _ _ _ _ _ _ _ _ _
      | exact LeO.none _
      | refine LeO.ite ?_ ?_
      | refine LeO.bind ?_ (fun _ => ?_)
    · intro y0 y1 y2 y3 y4 y5 y6 y7 y8 y9 y10
      unfold float_shape_sum.j4
      repeat' first
      | (with_reducible exact ih0 _ _ _ _ _ _ _ _ _ _ _ _ _)
      | (with_reducible exact ih1 _ _ _ _ _ _ _ _ _ _ _ _ _ _ _ _ _)
      | (with_reducible exact ih2 _ _ _ _ _ _ _ _ _ _ _ _ _ _ _ _)
      | (with_reducible exact ih3 _ _ _ _ _ _ _ _ _ _)
      | (with_reducible exact ih4 _ _ _ _ _ _ _ _ _ _ _)
      | (with_reducible exact float_shape_round.mono _ _ _ _ _ _ _ _ _)
      | (with_reducible exact LeO.refl _)
      | (with_reducible exact LeO.none _)
      | (with_reducible refine LeO.ite ?_ ?_)
      | (with_reducible refine LeO.bind ?_ (fun _ => ?_))
      | exact ih0 _ _ _ _ _ _ _ _ _ _ _ _ _
      | exact ih1 _ _ _ _ _ _ _ _ _ _ _ _ _ _ _ _ _
      | exact ih2 _ _ _ _ _ _ _ _ _ _ _ _ _ _ _ _
      | exact ih3 _ _ _ _ _ _ _ _ _ _
      | exact ih4 _ _ _ _ _ _ _ _ _ _ _
      | exact float_shape_round.mono _ _ _ _ _ _ _ _ _
      | exact LeO.none _
      | refine LeO.ite ?_ ?_
      | refine LeO.bind ?_ (fun _ => ?_)
theorem float_shape_sum.mono : ∀ a0 a1 a2 a3 a4 a5 a6 a7 a8 a9 a10 k, LeO (float_shape_sum.f k a0 a1 a2 a3 a4 a5 a6 a7 a8 a9 a10) (float_shape_sum.f (k + 1) a0 a1 a2 a3 a4 a5 a6 a7 a8 a9 a10) := by
  intro a0 a1 a2 a3 a4 a5 a6 a7 a8 a9 a10 k
  obtain ⟨ih0, ih1, ih2, ih3, ih4⟩ := float_shape_sum.mono_l k
  unfold float_shape_sum.f
  repeat' first
      | (with_reducible exact ih0 _ _ _ _ _ _ _ _ _ _ _ _ _)
      | (with_reducible exact ih1 _ _ _ _ _ _ _ _ _ _ _ _ _ _ _ _ _)
      | (with_reducible exact ih2 _ _ _ _ _ _ _ _ _ _ _ _ _ _ _ _)
      | (with_reducible exact ih3 _ _ _ _ _ _ _ _ _ _)
      | (with_reducible exact ih4 _ _ _ _ _ _ _ _ _ _ _)
      | (with_reducible exact float_shape_round.mono _ _ _ _ _ _ _ _ _)
      | (with_reducible exact LeO.refl _)
      | (with_reducible exact LeO.none _)
      | (with_reducible refine LeO.ite ?_ ?_)
      | (with_reducible refine LeO.bind ?_ (fun _ => ?_))
      | exact ih0 _ _ _ _ _ _ _ _ _ _ _ _ _
      | exact ih1 _ _ _ _ _ _ _ _ _ _ _ _ _ _ _ _ _
      | exact ih2 _ _ _ _ _ _ _ _ _ _ _ _ _ _ _ _
      | exact ih3 _ _ _ _ _ _ _ _ _ _
      | exact ih4 _ _ _ _ _ _ _ _ _ _ _
      | exact float_shape_round.mono _ _ _ _ _ _ _ _ _
      | exact LeO.none _
      | refine LeO.ite ?_ ?_
      | refine LeO.bind ?_ (fun _ => ?_)
mutual
def float_shape_add.j0 : Nat → Int → Bool → Int → Int → Int → Int → Int → Int → Int → Int → Int → Int → Option (Int × Int)
  | 0, _, _, _, _, _, _, _, _, _, _, _, _ => none
  | k + 1, x1, x10, x159000, x159001, x160000, x160001, x160002, x160003, x161000, x161001, x161002, x161003 => if x10 = true then ((float_shape_quiet.f x159000 x159001).bind fun t161 => (some (t161, 0))) else (if x160000 = 2 then (if x161000 = 2 then (float_shape_add.j1 k x1 (x160001 != x161001) x159000 x159001 x160000 x160001 x160002 x160003 x161000 x161001 x161002 x161003) else (float_shape_add.j1 k x1 false x159000 x159001 x160000 x160001 x160002 x160003 x161000 x161001 x161002 x161003)) else (float_shape_add.j1 k x1 false x159000 x159001 x160000 x160001 x160002 x160003 x161000 x161001 x161002 x161003))
def float_shape_add.j1 : Nat → Int → Bool → Int → Int → Int → Int → Int → Int → Int → Int → Int → Int → Option (Int × Int)
  | 0, _, _, _, _, _, _, _, _, _, _, _, _ => none
  | k + 1, x1, x21, x159000, x159001, x160000, x160001, x160002, x160003, x161000, x161001, x161002, x161003 => if x21 = true then ((float_shape_quiet.f x159000 x159001).bind fun t162 => (some (t162, 1))) else (if x160000 = 2 then ((float_shape_infinite.f x159000 x159001 x160001).bind fun t163 => (some (t163, 0))) else (if x161000 = 2 then ((float_shape_infinite.f x159000 x159001 x161001).bind fun t164 => (some (t164, 0))) else (if x160000 = 0 then (if x161000 = 0 then (float_shape_add.j2 k x1 (x160001 == x161001) x159000 x159001 x160000 x160001 x160002 x160003 x161000 x161001 x161002 x161003) else (float_shape_add.j2 k x1 false x159000 x159001 x160000 x160001 x160002 x160003 x161000 x161001 x161002 x161003)) else (float_shape_add.j2 k x1 false x159000 x159001 x160000 x160001 x160002 x160003 x161000 x161001 x161002 x161003))))
def float_shape_add.j2 : Nat → Int → Bool → Int → Int → Int → Int → Int → Int → Int → Int → Int → Int → Option (Int × Int)
  | 0, _, _, _, _, _, _, _, _, _, _, _, _ => none
  | k + 1, x1, x55, x159000, x159001, x160000, x160001, x160002, x160003, x161000, x161001, x161002, x161003 => if x55 = true then ((float_shape_zero.f x159000 x159001 x160001).bind fun t165 => (some (t165, 0))) else (if x160000 = 0 then (float_shape_add.j3 k x1 (x161000 == 0) x159000 x159001 x160000 x160001 x160002 x160003 x161000 x161001 x161002 x161003) else (float_shape_add.j3 k x1 false x159000 x159001 x160000 x160001 x160002 x160003 x161000 x161001 x161002 x161003))
def float_shape_add.j3 : Nat → Int → Bool → Int → Int → Int → Int → Int → Int → Int → Int → Int → Int → Option (Int × Int)
  | 0, _, _, _, _, _, _, _, _, _, _, _, _ => none
  | k + 1, x1, x75, x159000, x159001, x160000, x160001, x160002, x160003, x161000, x161001, x161002, x161003 => if x75 = true then ((float_shape_none.f x159000 x159001 x1).bind fun t166 => (some (t166, 0))) else (if x160000 = 0 then ((float_shape_round.f k x159000 x159001 x1 x161001 0 x161002 x161003 false).bind fun bt167 => (some (bt167.1, bt167.2))) else (if x161000 = 0 then ((float_shape_round.f k x159000 x159001 x1 x160001 0 x160002 x160003 false).bind fun bt169 => (some (bt169.1, bt169.2))) else (if x160003 < x161003 then ((float_shape_sum.f k x159000 x159001 x1 x161000 x161001 x161002 x161003 x160000 x160001 x160002 x160003).bind fun bt171 => (some (bt171.1, bt171.2))) else ((float_shape_sum.f k x159000 x159001 x1 x160000 x160001 x160002 x160003 x161000 x161001 x161002 x161003).bind fun bt173 => (some (bt173.1, bt173.2))))))
end
def float_shape_add.f (k : Nat) (a0_0 : Int) (a0_1 : Int) (a1 : Int) (a2_0 : Int) (a2_1 : Int) (a2_2 : Int) (a2_3 : Int) (a3_0 : Int) (a3_1 : Int) (a3_2 : Int) (a3_3 : Int) : Option (Int × Int) := if a2_0 = 3 then (float_shape_add.j0 k a1 true a0_0 a0_1 a2_0 a2_1 a2_2 a2_3 a3_0 a3_1 a3_2 a3_3) else (float_shape_add.j0 k a1 (a3_0 == 3) a0_0 a0_1 a2_0 a2_1 a2_2 a2_3 a3_0 a3_1 a3_2 a3_3)
theorem float_shape_add.mono_l : ∀ k, (∀ y0 y1 y2 y3 y4 y5 y6 y7 y8 y9 y10 y11, LeO (float_shape_add.j0 k y0 y1 y2 y3 y4 y5 y6 y7 y8 y9 y10 y11) (float_shape_add.j0 (k + 1) y0 y1 y2 y3 y4 y5 y6 y7 y8 y9 y10 y11)) ∧ (∀ y0 y1 y2 y3 y4 y5 y6 y7 y8 y9 y10 y11, LeO (float_shape_add.j1 k y0 y1 y2 y3 y4 y5 y6 y7 y8 y9 y10 y11) (float_shape_add.j1 (k + 1) y0 y1 y2 y3 y4 y5 y6 y7 y8 y9 y10 y11)) ∧ (∀ y0 y1 y2 y3 y4 y5 y6 y7 y8 y9 y10 y11, LeO (float_shape_add.j2 k y0 y1 y2 y3 y4 y5 y6 y7 y8 y9 y10 y11) (float_shape_add.j2 (k + 1) y0 y1 y2 y3 y4 y5 y6 y7 y8 y9 y10 y11)) ∧ (∀ y0 y1 y2 y3 y4 y5 y6 y7 y8 y9 y10 y11, LeO (float_shape_add.j3 k y0 y1 y2 y3 y4 y5 y6 y7 y8 y9 y10 y11) (float_shape_add.j3 (k + 1) y0 y1 y2 y3 y4 y5 y6 y7 y8 y9 y10 y11))
  | 0 => ⟨fun _ _ _ _ _ _ _ _ _ _ _ _ r h => by simp [float_shape_add.j0] at h, fun _ _ _ _ _ _ _ _ _ _ _ _ r h => by simp [float_shape_add.j1] at h, fun _ _ _ _ _ _ _ _ _ _ _ _ r h => by simp [float_shape_add.j2] at h, fun _ _ _ _ _ _ _ _ _ _ _ _ r h => by simp [float_shape_add.j3] at h⟩
  | k + 1 => by
    obtain ⟨ih0, ih1, ih2, ih3⟩ := float_shape_add.mono_l k
    refine ⟨?_, ?_, ?_, ?_⟩
    · intro y0 y1 y2 y3 y4 y5 y6 y7 y8 y9 y10 y11
      unfold float_shape_add.j0
      repeat' first
      | (with_reducible exact ih0 _ _ _ _ _ _ _ _ _ _ _ _)
      | (with_reducible exact ih1 _ _ _ _ _ _ _ _ _ _ _ _)
      | (with_reducible exact ih2 _ _ _ _ _ _ _ _ _ _ _ _)
      | (with_reducible exact ih3 _ _ _ _ _ _ _ _ _ _ _ _)
      | (with_reducible exact float_shape_round.mono _ _ _ _ _ _ _ _ _)
      | (with_reducible exact float_shape_sum.mono _ _ _ _ _ _ _ _ _ _ _ _)
      | (with_reducible exact LeO.refl _)
      | (with_reducible exact LeO.none _)
      | (with_reducible refine LeO.ite ?_ ?_)
      | (with_reducible refine LeO.bind ?_ (fun _ => ?_))
      | exact ih0 _ _ _ _ _ _ _ _ _ _ _ _
      | exact ih1 _ _ _ _ _ _ _ _ _ _ _ _
      | exact ih2 _ _ _ _ _ _ _ _ _ _ _ _
      | exact ih3 _ _ _ _ _ _ _ _ _ _ _ _
      | exact float_shape_round.mono _ _ _ _ _ _ _ _ _
      | exact float_shape_sum.mono _ _ _ _ _ _ _ _ _ _ _ _
      | exact LeO.none _
      | refine LeO.ite ?_ ?_
      | refine LeO.bind ?_ (fun _ => ?_)
    · intro y0 y1 y2 y3 y4 y5 y6 y7 y8 y9 y10 y11
      unfold float_shape_add.j1
      repeat' first
      | (with_reducible exact ih0 _ _ _ _ _ _ _ _ _ _ _ _)
      | (with_reducible exact ih1 _ _ _ _ _ _ _ _ _ _ _ _)
      | (with_reducible exact ih2 _ _ _ _ _ _ _ _ _ _ _ _)
      | (with_reducible exact ih3 _ _ _ _ _ _ _ _ _ _ _ _)
      | (with_reducible exact float_shape_round.mono _ _ _ _ _ _ _ _ _)
      | (with_reducible exact float_shape_sum.mono _ _ _ _ _ _ _ _ _ _ _ _)
      | (with_reducible exact LeO.refl _)
      | (with_reducible exact LeO.none _)
      | (with_reducible refine LeO.ite ?_ ?_)
      | (with_reducible refine LeO.bind ?_ (fun _ => ?_))
      | exact ih0 _ _ _ _ _ _ _ _ _ _ _ _
      | exact ih1 _ _ _ _ _ _ _ _ _ _ _ _
      | exact ih2 _ _ _ _ _ _ _ _ _ _ _ _
      | exact ih3 _ _ _ _ _ _ _ _ _ _ _ _
      | exact float_shape_round.mono _ _ _ _ _ _ _ _ _
      | exact float_shape_sum.mono _ _ _ _ _ _ _ _ _ _ _ _
      | exact LeO.none _
      | refine LeO.ite ?_ ?_
      | refine LeO.bind ?_ (fun _ => ?_)
    · intro y0 y1 y2 y3 y4 y5 y6 y7 y8 y9 y10 y11
      unfold float_shape_add.j2
      repeat' first
      | (with_reducible exact ih0 _ _ _ _ _ _ _ _ _ _ _ _)
      | (with_reducible exact ih1 _ _ _ _ _ _ _ _ _ _ _ _)
      | (with_reducible exact ih2 _ _ _ _ _ _ _ _ _ _ _ _)
      | (with_reducible exact ih3 _ _ _ _ _ _ _ _ _ _ _ _)
      | (with_reducible exact float_shape_round.mono _ _ _ _ _ _ _ _ _)
      | (with_reducible exact float_shape_sum.mono _ _ _ _ _ _ _ _ _ _ _ _)
      | (with_reducible exact LeO.refl _)
      | (with_reducible exact LeO.none _)
      | (with_reducible refine LeO.ite ?_ ?_)
      | (with_reducible refine LeO.bind ?_ (fun _ => ?_))
      | exact ih0 _ _ _ _ _ _ _ _ _ _ _ _
      | exact ih1 _ _ _ _ _ _ _ _ _ _ _ _
      | exact ih2 _ _ _ _ _ _ _ _ _ _ _ _
      | exact ih3 _ _ _ _ _ _ _ _ _ _ _ _
      | exact float_shape_round.mono _ _ _ _ _ _ _ _ _
      | exact float_shape_sum.mono _ _ _ _ _ _ _ _ _ _ _ _
      | exact LeO.none _
      | refine LeO.ite ?_ ?_
      | refine LeO.bind ?_ (fun _ => ?_)
    · intro y0 y1 y2 y3 y4 y5 y6 y7 y8 y9 y10 y11
      unfold float_shape_add.j3
      repeat' first
      | (with_reducible exact ih0 _ _ _ _ _ _ _ _ _ _ _ _)
      | (with_reducible exact ih1 _ _ _ _ _ _ _ _ _ _ _ _)
      | (with_reducible exact ih2 _ _ _ _ _ _ _ _ _ _ _ _)
      | (with_reducible exact ih3 _ _ _ _ _ _ _ _ _ _ _ _)
      | (with_reducible exact float_shape_round.mono _ _ _ _ _ _ _ _ _)
      | (with_reducible exact float_shape_sum.mono _ _ _ _ _ _ _ _ _ _ _ _)
      | (with_reducible exact LeO.refl _)
      | (with_reducible exact LeO.none _)
      | (with_reducible refine LeO.ite ?_ ?_)
      | (with_reducible refine LeO.bind ?_ (fun _ => ?_))
      | exact ih0 _ _ _ _ _ _ _ _ _ _ _ _
      | exact ih1 _ _ _ _ _ _ _ _ _ _ _ _
      | exact ih2 _ _ _ _ _ _ _ _ _ _ _ _
      | exact ih3 _ _ _ _ _ _ _ _ _ _ _ _
      | exact float_shape_round.mono _ _ _ _ _ _ _ _ _
      | exact float_shape_sum.mono _ _ _ _ _ _ _ _ _ _ _ _
      | exact LeO.none _
      | refine LeO.ite ?_ ?_
      | refine LeO.bind ?_ (fun _ => ?_)
theorem float_shape_add.mono : ∀ a0 a1 a2 a3 a4 a5 a6 a7 a8 a9 a10 k, LeO (float_shape_add.f k a0 a1 a2 a3 a4 a5 a6 a7 a8 a9 a10) (float_shape_add.f (k + 1) a0 a1 a2 a3 a4 a5 a6 a7 a8 a9 a10) := by
  intro a0 a1 a2 a3 a4 a5 a6 a7 a8 a9 a10 k
  obtain ⟨ih0, ih1, ih2, ih3⟩ := float_shape_add.mono_l k
  unfold float_shape_add.f
  repeat' first
      | (with_reducible exact ih0 _ _ _ _ _ _ _ _ _ _ _ _)
      | (with_reducible exact ih1 _ _ _ _ _ _ _ _ _ _ _ _)
      | (with_reducible exact ih2 _ _ _ _ _ _ _ _ _ _ _ _)
      | (with_reducible exact ih3 _ _ _ _ _ _ _ _ _ _ _ _)
      | (with_reducible exact float_shape_round.mono _ _ _ _ _ _ _ _ _)
      | (with_reducible exact float_shape_sum.mono _ _ _ _ _ _ _ _ _ _ _ _)
      | (with_reducible exact LeO.refl _)
      | (with_reducible exact LeO.none _)
      | (with_reducible refine LeO.ite ?_ ?_)
      | (with_reducible refine LeO.bind ?_ (fun _ => ?_))
      | exact ih0 _ _ _ _ _ _ _ _ _ _ _ _
      | exact ih1 _ _ _ _ _ _ _ _ _ _ _ _
      | exact ih2 _ _ _ _ _ _ _ _ _ _ _ _
      | exact ih3 _ _ _ _ _ _ _ _ _ _ _ _
      | exact float_shape_round.mono _ _ _ _ _ _ _ _ _
      | exact float_shape_sum.mono _ _ _ _ _ _ _ _ _ _ _ _
      | exact LeO.none _
      | refine LeO.ite ?_ ?_
      | refine LeO.bind ?_ (fun _ => ?_)
def float_Add.f (k : Nat) (a0 : Int) (a1 : Int) (a2 : Int) (a3 : Int) : Option (Int × Int × Int) := (float_two.f k a0 a1 a2 a3).bind fun bt175 => (if bt175.2.2.2.2.2.2.2.2.2.2 = true then ((float_shape_add.f k bt175.1 bt175.2.1 a1 bt175.2.2.1 bt175.2.2.2.1 bt175.2.2.2.2.1 bt175.2.2.2.2.2.1 bt175.2.2.2.2.2.2.1 bt175.2.2.2.2.2.2.2.1 bt175.2.2.2.2.2.2.2.2.1 bt175.2.2.2.2.2.2.2.2.2.1).bind fun bt189 => (some (bt189.1, bt189.2, 0))) else (some (0, 0, 2)))
theorem float_Add.mono : ∀ a0 a1 a2 a3 k, LeO (float_Add.f k a0 a1 a2 a3) (float_Add.f (k + 1) a0 a1 a2 a3) := by
  intro a0 a1 a2 a3 k
  unfold float_Add.f
  repeat' first
      | (with_reducible exact float_shape_add.mono _ _ _ _ _ _ _ _ _ _ _ _)
      | (with_reducible exact float_two.mono _ _ _ _ _)
      | (with_reducible exact LeO.refl _)
      | (with_reducible exact LeO.none _)
      | (with_reducible refine LeO.ite ?_ ?_)
      | (with_reducible refine LeO.bind ?_ (fun _ => ?_))
      | exact float_shape_add.mono _ _ _ _ _ _ _ _ _ _ _ _
      | exact float_two.mono _ _ _ _ _
      | exact LeO.none _
      | refine LeO.ite ?_ ?_
      | refine LeO.bind ?_ (fun _ => ?_)
def float_Class.f (k : Nat) (a0 : Int) (a1 : Int) : Option (ByteArray) := (float_two.f k a0 0 a1 a1).bind fun bt365 => (if bt365.2.2.2.2.2.2.2.2.2.2 = true then (if bt365.2.2.1 = 0 then (some (⟨#[122, 101, 114, 111]⟩ : ByteArray)) else (if bt365.2.2.1 = 2 then (some (⟨#[105, 110, 102, 105, 110, 105, 116, 101]⟩ : ByteArray)) else (if bt365.2.2.1 = 3 then (some (⟨#[110, 111, 110, 101]⟩ : ByteArray)) else (if 0 ≤ (wrap64 (bt365.1 - 1)) then (if bt365.2.2.2.2.1 < (shl .u64 1 (wrap64 (bt365.1 - 1))) then (some (⟨#[108, 101, 97, 115, 116]⟩ : ByteArray)) else (some (⟨#[110, 111, 114, 109, 97, 108]⟩ : ByteArray))) else (none))))) else (some (⟨#[]⟩ : ByteArray)))
theorem float_Class.mono : ∀ a0 a1 k, LeO (float_Class.f k a0 a1) (float_Class.f (k + 1) a0 a1) := by
  intro a0 a1 k
  unfold float_Class.f
  repeat' first
      | (with_reducible exact float_two.mono _ _ _ _ _)
      | (with_reducible exact LeO.refl _)
      | (with_reducible exact LeO.none _)
      | (with_reducible refine LeO.ite ?_ ?_)
      | (with_reducible refine LeO.bind ?_ (fun _ => ?_))
      | exact float_two.mono _ _ _ _ _
      | exact LeO.none _
      | refine LeO.ite ?_ ?_
      | refine LeO.bind ?_ (fun _ => ?_)
def quadratlaw01_Awake.f (k : Nat)  : Option (Bool) := (float_Add.f k 2 0 15360 15360).bind fun bt379 => (if bt379.1 = 16384 then (if bt379.2.1 = 0 then (if bt379.2.2 = 0 then ((float_Class.f k 2 1).bind fun t382 => (some (t382.toList == ([108, 101, 97, 115, 116] : List UInt8)))) else (some false)) else (some false)) else (some false))
theorem quadratlaw01_Awake.mono : ∀ k, LeO (quadratlaw01_Awake.f k ) (quadratlaw01_Awake.f (k + 1) ) := by
  intro  k
  unfold quadratlaw01_Awake.f
  repeat' first
      | (with_reducible exact float_Add.mono _ _ _ _ _)
      | (with_reducible exact float_Class.mono _ _ _)
      | (with_reducible exact LeO.refl _)
      | (with_reducible exact LeO.none _)
      | (with_reducible refine LeO.ite ?_ ?_)
      | (with_reducible refine LeO.bind ?_ (fun _ => ?_))
      | exact float_Add.mono _ _ _ _ _
      | exact float_Class.mono _ _ _
      | exact LeO.none _
      | refine LeO.ite ?_ ?_
      | refine LeO.bind ?_ (fun _ => ?_)
def quadratref01_Digits.f (a0 : Int) : Option (Int) := if a0 = 2 then (some 11) else (if a0 = 4 then (some 24) else (if a0 = 8 then (some 53) else (some 0)))
def quadratref01_Of.l0 : Nat → List Int → Int → Option (List Int)
  | 0, _, _ => none
  | k + 1, x3, x4 => if x4 > 0 then (if x3.length < 140737488355328 then (quadratref01_Of.l0 k (x3 ++ [(Int.tmod x4 2) % 256]) (IntKind.u64.wrap (Int.tdiv x4 2))) else (none)) else (some x3)
def quadratref01_Of.f (k : Nat) (a0 : Int) : Option (List Int) := quadratref01_Of.l0 k ([] : List Int) (IntKind.u64.wrap (a0))
theorem quadratref01_Of.mono_l : ∀ k, (∀ y0 y1, LeO (quadratref01_Of.l0 k y0 y1) (quadratref01_Of.l0 (k + 1) y0 y1))
  | 0 => fun _ _ r h => by simp [quadratref01_Of.l0] at h
  | k + 1 => by
    have ih0 := quadratref01_Of.mono_l k
    · intro y0 y1
      unfold quadratref01_Of.l0
      repeat' first
      | (with_reducible exact ih0 _ _)
      | (with_reducible exact LeO.refl _)
      | (with_reducible exact LeO.none _)
      | (with_reducible refine LeO.ite ?_ ?_)
      | (with_reducible refine LeO.bind ?_ (fun _ => ?_))
      | exact ih0 _ _
      | exact LeO.none _
      | refine LeO.ite ?_ ?_
      | refine LeO.bind ?_ (fun _ => ?_)
theorem quadratref01_Of.mono : ∀ a0 k, LeO (quadratref01_Of.f k a0) (quadratref01_Of.f (k + 1) a0) := by
  intro a0 k
  have ih0 := quadratref01_Of.mono_l k
  unfold quadratref01_Of.f
  repeat' first
      | (with_reducible exact ih0 _ _)
      | (with_reducible exact LeO.refl _)
      | (with_reducible exact LeO.none _)
      | (with_reducible refine LeO.ite ?_ ?_)
      | (with_reducible refine LeO.bind ?_ (fun _ => ?_))
      | exact ih0 _ _
      | exact LeO.none _
      | refine LeO.ite ?_ ?_
      | refine LeO.bind ?_ (fun _ => ?_)
def quadratref01_Bias.f (a0 : Int) : Option (Int) := if a0 = 2 then (some 15) else (if a0 = 4 then (some 127) else (some 1023))
def quadratref01_least.f (a0 : Int) : Option (Int) := (quadratref01_Bias.f a0).bind fun t197 => ((quadratref01_Digits.f a0).bind fun t198 => (some (wrap64 ((wrap64 (2 - t197)) - t198))))
def quadratref01_Valid.f (a0 : Int) (a1 : Int) : Option (Bool) := if a0 = 2 then (if a1 ≥ 0 then (some (decide (a1 < 65536))) else (some false)) else (if a0 = 4 then (if a1 ≥ 0 then (some (decide (a1 < 4294967296))) else (some false)) else (some (a0 == 8)))
mutual
def quadratref01_taken.j0 : Nat → Int → Int → Int → Int → Int → Int → Bool → Option (ByteArray × Int × List Int × Int)
  | 0, _, _, _, _, _, _, _ => none
  | k + 1, x0, x5, x6, x8, x9, x10, x43 => if x43 = true then (some ((⟨#[105, 110, 102, 105, 110, 105, 116, 101]⟩ : ByteArray), x10, ([] : List Int), 0)) else (if 0 ≤ x6 then (if x9 = (wrap64 ((shl .i64 1 x6) - 1)) then (some ((⟨#[110, 111, 110, 101]⟩ : ByteArray), 0, ([] : List Int), 0)) else (if x9 = 0 then (quadratref01_taken.j1 k x0 x5 x8 x9 x10 (x8 == 0)) else (quadratref01_taken.j1 k x0 x5 x8 x9 x10 false))) else (none))
def quadratref01_taken.j1 : Nat → Int → Int → Int → Int → Int → Bool → Option (ByteArray × Int × List Int × Int)
  | 0, _, _, _, _, _, _ => none
  | k + 1, x0, x5, x8, x9, x10, x62 => if x62 = true then (some ((⟨#[122, 101, 114, 111]⟩ : ByteArray), x10, ([] : List Int), 0)) else (if x9 = 0 then ((quadratref01_Of.f k x8).bind fun t201 => ((quadratref01_least.f x0).bind fun t204 => (some ((⟨#[102, 105, 110, 105, 116, 101]⟩ : ByteArray), x10, t201, t204)))) else (if 0 ≤ (wrap64 (x5 - 1)) then ((quadratref01_Of.f k (wrap64 ((shl .i64 1 (wrap64 (x5 - 1))) + x8))).bind fun t205 => ((quadratref01_Bias.f x0).bind fun t208 => (some ((⟨#[102, 105, 110, 105, 116, 101]⟩ : ByteArray), x10, t205, wrap64 ((wrap64 ((wrap64 (x9 - t208)) - x5)) + 1))))) else (none)))
end
def quadratref01_taken.f (k : Nat) (a0 : Int) (a1 : Int) : Option (ByteArray × Int × List Int × Int) := (quadratref01_Digits.f a0).bind fun t200 => (if 0 ≤ (wrap64 (t200 - 1)) then (if 0 ≤ (wrap64 ((wrap64 (8 * a0)) - t200)) then (if 0 ≤ (wrap64 ((wrap64 (8 * a0)) - 1)) then (if (wrap64 (Go.bits .and .u64 (shr .u64 (IntKind.u64.wrap (a1)) (wrap64 (t200 - 1))) (IntKind.u64.wrap ((shl .u64 1 (wrap64 ((wrap64 (8 * a0)) - t200))) - 1)))) = (wrap64 ((shl .i64 1 (wrap64 ((wrap64 (8 * a0)) - t200))) - 1)) then (quadratref01_taken.j0 k a0 t200 (wrap64 ((wrap64 (8 * a0)) - t200)) (wrap64 (Go.bits .and .u64 (IntKind.u64.wrap (a1)) (IntKind.u64.wrap ((shl .u64 1 (wrap64 (t200 - 1))) - 1)))) (wrap64 (Go.bits .and .u64 (shr .u64 (IntKind.u64.wrap (a1)) (wrap64 (t200 - 1))) (IntKind.u64.wrap ((shl .u64 1 (wrap64 ((wrap64 (8 * a0)) - t200))) - 1)))) (wrap64 (Go.bits .and .u64 (shr .u64 (IntKind.u64.wrap (a1)) (wrap64 ((wrap64 (8 * a0)) - 1))) 1)) ((wrap64 (Go.bits .and .u64 (IntKind.u64.wrap (a1)) (IntKind.u64.wrap ((shl .u64 1 (wrap64 (t200 - 1))) - 1)))) == 0)) else (quadratref01_taken.j0 k a0 t200 (wrap64 ((wrap64 (8 * a0)) - t200)) (wrap64 (Go.bits .and .u64 (IntKind.u64.wrap (a1)) (IntKind.u64.wrap ((shl .u64 1 (wrap64 (t200 - 1))) - 1)))) (wrap64 (Go.bits .and .u64 (shr .u64 (IntKind.u64.wrap (a1)) (wrap64 (t200 - 1))) (IntKind.u64.wrap ((shl .u64 1 (wrap64 ((wrap64 (8 * a0)) - t200))) - 1)))) (wrap64 (Go.bits .and .u64 (shr .u64 (IntKind.u64.wrap (a1)) (wrap64 ((wrap64 (8 * a0)) - 1))) 1)) false)) else (none)) else (none)) else (none))
theorem quadratref01_taken.mono_l : ∀ k, (∀ y0 y1 y2 y3 y4 y5 y6, LeO (quadratref01_taken.j0 k y0 y1 y2 y3 y4 y5 y6) (quadratref01_taken.j0 (k + 1) y0 y1 y2 y3 y4 y5 y6)) ∧ (∀ y0 y1 y2 y3 y4 y5, LeO (quadratref01_taken.j1 k y0 y1 y2 y3 y4 y5) (quadratref01_taken.j1 (k + 1) y0 y1 y2 y3 y4 y5))
  | 0 => ⟨fun _ _ _ _ _ _ _ r h => by simp [quadratref01_taken.j0] at h, fun _ _ _ _ _ _ r h => by simp [quadratref01_taken.j1] at h⟩
  | k + 1 => by
    obtain ⟨ih0, ih1⟩ := quadratref01_taken.mono_l k
    refine ⟨?_, ?_⟩
    · intro y0 y1 y2 y3 y4 y5 y6
      unfold quadratref01_taken.j0
      repeat' first
      | (with_reducible exact ih0 _ _ _ _ _ _ _)
      | (with_reducible exact ih1 _ _ _ _ _ _)
      | (with_reducible exact quadratref01_Of.mono _ _)
      | (with_reducible exact LeO.refl _)
      | (with_reducible exact LeO.none _)
      | (with_reducible refine LeO.ite ?_ ?_)
      | (with_reducible refine LeO.bind ?_ (fun _ => ?_))
      | exact ih0 _ _ _ _ _ _ _
      | exact ih1 _ _ _ _ _ _
      | exact quadratref01_Of.mono _ _
      | exact LeO.none _
      | refine LeO.ite ?_ ?_
      | refine LeO.bind ?_ (fun _ => ?_)
    · intro y0 y1 y2 y3 y4 y5
      unfold quadratref01_taken.j1
      repeat' first
      | (with_reducible exact ih0 _ _ _ _ _ _ _)
      | (with_reducible exact ih1 _ _ _ _ _ _)
      | (with_reducible exact quadratref01_Of.mono _ _)
      | (with_reducible exact LeO.refl _)
      | (with_reducible exact LeO.none _)
      | (with_reducible refine LeO.ite ?_ ?_)
      | (with_reducible refine LeO.bind ?_ (fun _ => ?_))
      | exact ih0 _ _ _ _ _ _ _
      | exact ih1 _ _ _ _ _ _
      | exact quadratref01_Of.mono _ _
      | exact LeO.none _
      | refine LeO.ite ?_ ?_
      | refine LeO.bind ?_ (fun _ => ?_)
theorem quadratref01_taken.mono : ∀ a0 a1 k, LeO (quadratref01_taken.f k a0 a1) (quadratref01_taken.f (k + 1) a0 a1) := by
  intro a0 a1 k
  obtain ⟨ih0, ih1⟩ := quadratref01_taken.mono_l k
  unfold quadratref01_taken.f
  repeat' first
      | (with_reducible exact ih0 _ _ _ _ _ _ _)
      | (with_reducible exact ih1 _ _ _ _ _ _)
      | (with_reducible exact quadratref01_Of.mono _ _)
      | (with_reducible exact LeO.refl _)
      | (with_reducible exact LeO.none _)
      | (with_reducible refine LeO.ite ?_ ?_)
      | (with_reducible refine LeO.bind ?_ (fun _ => ?_))
      | exact ih0 _ _ _ _ _ _ _
      | exact ih1 _ _ _ _ _ _
      | exact quadratref01_Of.mono _ _
      | exact LeO.none _
      | refine LeO.ite ?_ ?_
      | refine LeO.bind ?_ (fun _ => ?_)
def quadratref01_IsMode.f (a0 : Int) : Option (Bool) := if a0 ≥ 0 then (some (decide (a0 ≤ 3))) else (some false)
def quadratref01_bits.f (a0 : Int) (a1 : Int) (a2 : Int) (a3 : Int) : Option (Int) := (quadratref01_Digits.f a0).bind fun t209 => (if 0 ≤ (wrap64 ((wrap64 (8 * a0)) - 1)) then (if 0 ≤ (wrap64 (t209 - 1)) then (some (wrap64 (Go.bits .or .u64 (Go.bits .or .u64 (shl .u64 (IntKind.u64.wrap (a1)) (wrap64 ((wrap64 (8 * a0)) - 1))) (shl .u64 (IntKind.u64.wrap (a2)) (wrap64 (t209 - 1)))) (IntKind.u64.wrap (a3))))) else (none)) else (none))
def quadratref01_all.f (a0 : Int) : Option (Int) := (quadratref01_Digits.f a0).bind fun t210 => (if 0 ≤ (wrap64 ((wrap64 (8 * a0)) - t210)) then (some (wrap64 ((shl .i64 1 (wrap64 ((wrap64 (8 * a0)) - t210))) - 1))) else (none))
def quadratref01_asked.f (a0 : Int) (a1 : Int) (a2 : Int) (a3 : Int) : Option (Bool) := (quadratref01_IsMode.f a1).bind fun t191 => (if t191 = true then ((quadratref01_Valid.f a0 a2).bind fun t192 => (if t192 = true then ((quadratref01_Valid.f a0 a3).bind fun t193 => (some t193)) else (some false))) else (some false))
def quadratref01_Infinite.f (a0 : Int) (a1 : Int) : Option (Int) := (quadratref01_all.f a0).bind fun t214 => ((quadratref01_bits.f a0 a1 t214 0).bind fun t215 => (some t215))
def quadratref01_Up.f (l0 : List Int) (a1 : Int) : Option (List Int) := if (l0.length : Int) = 0 then (some ([] : List Int)) else (if 0 ≤ a1 then (if (a1 : Int).toNat ≤ 281474976710656 then ((some (List.replicate (a1 : Int).toNat 0 : List Int)).bind fun y216 => (if y216.length + l0.length < 140737488355328 then (some (y216 ++ l0)) else (none))) else (none)) else (none))
def quadratref01_digit.f (l0 : List Int) (a1 : Int) : Option (Int) := if a1 < 0 then (some 0) else (if a1 ≥ (l0.length : Int) then (some 0) else (if 0 ≤ a1 then (if a1 < (l0.length : Int) then (some (rd l0 a1)) else (none)) else (none)))
def quadratref01_trim.l0 : Nat → List Int → Int → Option (List Int)
  | 0, _, _ => none
  | k + 1, x0, x3 => if x3 > 0 then (if 0 ≤ (wrap64 (x3 - 1)) then (if (wrap64 (x3 - 1)) < (x0.length : Int) then (if (rd x0 (wrap64 (x3 - 1))) = 0 then (quadratref01_trim.l0 k x0 (wrap64 (x3 - 1))) else ((some (([] : List Int) : List Int)).bind fun y224 => (if 0 ≤ x3 then (if x3 ≤ (x0.length : Int) then (if y224.length + (x0.take (x3 : Int).toNat).length < 140737488355328 then (some (y224 ++ (x0.take (x3 : Int).toNat))) else (none)) else (none)) else (none)))) else (none)) else (none)) else ((some (([] : List Int) : List Int)).bind fun y231 => (if 0 ≤ x3 then (if x3 ≤ (x0.length : Int) then (if y231.length + (x0.take (x3 : Int).toNat).length < 140737488355328 then (some (y231 ++ (x0.take (x3 : Int).toNat))) else (none)) else (none)) else (none)))
def quadratref01_trim.f (k : Nat) (l0 : List Int) : Option (List Int) := quadratref01_trim.l0 k l0 (l0.length : Int)
theorem quadratref01_trim.mono_l : ∀ k, (∀ y0 y1, LeO (quadratref01_trim.l0 k y0 y1) (quadratref01_trim.l0 (k + 1) y0 y1))
  | 0 => fun _ _ r h => by simp [quadratref01_trim.l0] at h
  | k + 1 => by
    have ih0 := quadratref01_trim.mono_l k
    · intro y0 y1
      unfold quadratref01_trim.l0
      repeat' first
      | (with_reducible exact ih0 _ _)
      | (with_reducible exact LeO.refl _)
      | (with_reducible exact LeO.none _)
      | (with_reducible refine LeO.ite ?_ ?_)
      | (with_reducible refine LeO.bind ?_ (fun _ => ?_))
      | exact ih0 _ _
      | exact LeO.none _
      | refine LeO.ite ?_ ?_
      | refine LeO.bind ?_ (fun _ => ?_)
theorem quadratref01_trim.mono : ∀ a0 k, LeO (quadratref01_trim.f k a0) (quadratref01_trim.f (k + 1) a0) := by
  intro a0 k
  have ih0 := quadratref01_trim.mono_l k
  unfold quadratref01_trim.f
  repeat' first
      | (with_reducible exact ih0 _ _)
      | (with_reducible exact LeO.refl _)
      | (with_reducible exact LeO.none _)
      | (with_reducible refine LeO.ite ?_ ?_)
      | (with_reducible refine LeO.bind ?_ (fun _ => ?_))
      | exact ih0 _ _
      | exact LeO.none _
      | refine LeO.ite ?_ ?_
      | refine LeO.bind ?_ (fun _ => ?_)
mutual
def quadratref01_Plus.l0 : Nat → List Int → List Int → List Int → Int → Int → Option (List Int)
  | 0, _, _, _, _, _ => none
  | k + 1, x0, x1, x5, x6, x7 => if x7 < (x0.length : Int) then (quadratref01_Plus.j1 k x0 x1 x5 x6 x7 true) else (if x7 < (x1.length : Int) then (quadratref01_Plus.j1 k x0 x1 x5 x6 x7 true) else (quadratref01_Plus.j1 k x0 x1 x5 x6 x7 (decide (x6 > 0))))
def quadratref01_Plus.j1 : Nat → List Int → List Int → List Int → Int → Int → Bool → Option (List Int)
  | 0, _, _, _, _, _, _ => none
  | k + 1, x0, x1, x5, x6, x7, x22 => if x22 = true then ((quadratref01_digit.f x0 x7).bind fun t238 => ((quadratref01_digit.f x1 x7).bind fun t239 => (if x5.length < 140737488355328 then (quadratref01_Plus.l0 k x0 x1 (x5 ++ [(t238 + t239 + x6) % 2]) (((t238 + t239 + x6) % 256) / 2) (wrap64 (x7 + 1))) else (none)))) else ((quadratref01_trim.f k x5).bind fun t243 => (some t243))
end
def quadratref01_Plus.f (k : Nat) (l0 : List Int) (l1 : List Int) : Option (List Int) := quadratref01_Plus.l0 k l0 l1 ([] : List Int) 0 0
theorem quadratref01_Plus.mono_l : ∀ k, (∀ y0 y1 y2 y3 y4, LeO (quadratref01_Plus.l0 k y0 y1 y2 y3 y4) (quadratref01_Plus.l0 (k + 1) y0 y1 y2 y3 y4)) ∧ (∀ y0 y1 y2 y3 y4 y5, LeO (quadratref01_Plus.j1 k y0 y1 y2 y3 y4 y5) (quadratref01_Plus.j1 (k + 1) y0 y1 y2 y3 y4 y5))
  | 0 => ⟨fun _ _ _ _ _ r h => by simp [quadratref01_Plus.l0] at h, fun _ _ _ _ _ _ r h => by simp [quadratref01_Plus.j1] at h⟩
  | k + 1 => by
    obtain ⟨ih0, ih1⟩ := quadratref01_Plus.mono_l k
    refine ⟨?_, ?_⟩
    · intro y0 y1 y2 y3 y4
      unfold quadratref01_Plus.l0
      repeat' first
      | (with_reducible exact ih0 _ _ _ _ _)
      | (with_reducible exact ih1 _ _ _ _ _ _)
      | (with_reducible exact quadratref01_trim.mono _ _)
      | (with_reducible exact LeO.refl _)
      | (with_reducible exact LeO.none _)
      | (with_reducible refine LeO.ite ?_ ?_)
      | (with_reducible refine LeO.bind ?_ (fun _ => ?_))
      | exact ih0 _ _ _ _ _
      | exact ih1 _ _ _ _ _ _
      | exact quadratref01_trim.mono _ _
      | exact LeO.none _
      | refine LeO.ite ?_ ?_
      | refine LeO.bind ?_ (fun _ => ?_)
    · intro y0 y1 y2 y3 y4 y5
      unfold quadratref01_Plus.j1
      repeat' first
      | (with_reducible exact ih0 _ _ _ _ _)
      | (with_reducible exact ih1 _ _ _ _ _ _)
      | (with_reducible exact quadratref01_trim.mono _ _)
      | (with_reducible exact LeO.refl _)
      | (with_reducible exact LeO.none _)
      | (with_reducible refine LeO.ite ?_ ?_)
      | (with_reducible refine LeO.bind ?_ (fun _ => ?_))
      | exact ih0 _ _ _ _ _
      | exact ih1 _ _ _ _ _ _
      | exact quadratref01_trim.mono _ _
      | exact LeO.none _
      | refine LeO.ite ?_ ?_
      | refine LeO.bind ?_ (fun _ => ?_)
theorem quadratref01_Plus.mono : ∀ a0 a1 k, LeO (quadratref01_Plus.f k a0 a1) (quadratref01_Plus.f (k + 1) a0 a1) := by
  intro a0 a1 k
  obtain ⟨ih0, ih1⟩ := quadratref01_Plus.mono_l k
  unfold quadratref01_Plus.f
  repeat' first
      | (with_reducible exact ih0 _ _ _ _ _)
      | (with_reducible exact ih1 _ _ _ _ _ _)
      | (with_reducible exact quadratref01_trim.mono _ _)
      | (with_reducible exact LeO.refl _)
      | (with_reducible exact LeO.none _)
      | (with_reducible refine LeO.ite ?_ ?_)
      | (with_reducible refine LeO.bind ?_ (fun _ => ?_))
      | exact ih0 _ _ _ _ _
      | exact ih1 _ _ _ _ _ _
      | exact quadratref01_trim.mono _ _
      | exact LeO.none _
      | refine LeO.ite ?_ ?_
      | refine LeO.bind ?_ (fun _ => ?_)
def quadratref01_Cmp.l0 : Nat → List Int → List Int → Int → Option (Int)
  | 0, _, _, _ => none
  | k + 1, x0, x1, x5 => if x5 ≥ 0 then ((quadratref01_digit.f x0 x5).bind fun t246 => ((quadratref01_digit.f x1 x5).bind fun t247 => (if t246 = t247 then (quadratref01_Cmp.l0 k x0 x1 (wrap64 (x5 - 1))) else ((quadratref01_digit.f x0 x5).bind fun t248 => ((quadratref01_digit.f x1 x5).bind fun t249 => (some (wrap64 ((wrap64 (t248)) - (wrap64 (t249)))))))))) else (some 0)
def quadratref01_Cmp.f (k : Nat) (l0 : List Int) (l1 : List Int) : Option (Int) := quadratref01_Cmp.l0 k l0 l1 (wrap64 ((mx (l0.length : Int) (l1.length : Int)) - 1))
theorem quadratref01_Cmp.mono_l : ∀ k, (∀ y0 y1 y2, LeO (quadratref01_Cmp.l0 k y0 y1 y2) (quadratref01_Cmp.l0 (k + 1) y0 y1 y2))
  | 0 => fun _ _ _ r h => by simp [quadratref01_Cmp.l0] at h
  | k + 1 => by
    have ih0 := quadratref01_Cmp.mono_l k
    · intro y0 y1 y2
      unfold quadratref01_Cmp.l0
      repeat' first
      | (with_reducible exact ih0 _ _ _)
      | (with_reducible exact LeO.refl _)
      | (with_reducible exact LeO.none _)
      | (with_reducible refine LeO.ite ?_ ?_)
      | (with_reducible refine LeO.bind ?_ (fun _ => ?_))
      | exact ih0 _ _ _
      | exact LeO.none _
      | refine LeO.ite ?_ ?_
      | refine LeO.bind ?_ (fun _ => ?_)
theorem quadratref01_Cmp.mono : ∀ a0 a1 k, LeO (quadratref01_Cmp.f k a0 a1) (quadratref01_Cmp.f (k + 1) a0 a1) := by
  intro a0 a1 k
  have ih0 := quadratref01_Cmp.mono_l k
  unfold quadratref01_Cmp.f
  repeat' first
      | (with_reducible exact ih0 _ _ _)
      | (with_reducible exact LeO.refl _)
      | (with_reducible exact LeO.none _)
      | (with_reducible refine LeO.ite ?_ ?_)
      | (with_reducible refine LeO.bind ?_ (fun _ => ?_))
      | exact ih0 _ _ _
      | exact LeO.none _
      | refine LeO.ite ?_ ?_
      | refine LeO.bind ?_ (fun _ => ?_)
def quadratref01_Minus.l0 : Nat → List Int → List Int → List Int → Int → Int → Option (List Int)
  | 0, _, _, _, _, _ => none
  | k + 1, x0, x1, x5, x6, x7 => if x7 < (x0.length : Int) then ((quadratref01_digit.f x0 x7).bind fun t250 => ((quadratref01_digit.f x1 x7).bind fun t251 => (if x5.length < 140737488355328 then (quadratref01_Minus.l0 k x0 x1 (x5 ++ [(2 + t250 - t251 - x6) % 2]) ((1 - (((2 + t250 - t251 - x6) % 256) / 2)) % 256) (wrap64 (x7 + 1))) else (none)))) else ((quadratref01_trim.f k x5).bind fun t255 => (some t255))
def quadratref01_Minus.f (k : Nat) (l0 : List Int) (l1 : List Int) : Option (List Int) := quadratref01_Minus.l0 k l0 l1 ([] : List Int) 0 0
theorem quadratref01_Minus.mono_l : ∀ k, (∀ y0 y1 y2 y3 y4, LeO (quadratref01_Minus.l0 k y0 y1 y2 y3 y4) (quadratref01_Minus.l0 (k + 1) y0 y1 y2 y3 y4))
  | 0 => fun _ _ _ _ _ r h => by simp [quadratref01_Minus.l0] at h
  | k + 1 => by
    have ih0 := quadratref01_Minus.mono_l k
    · intro y0 y1 y2 y3 y4
      unfold quadratref01_Minus.l0
      repeat' first
      | (with_reducible exact ih0 _ _ _ _ _)
      | (with_reducible exact quadratref01_trim.mono _ _)
      | (with_reducible exact LeO.refl _)
      | (with_reducible exact LeO.none _)
      | (with_reducible refine LeO.ite ?_ ?_)
      | (with_reducible refine LeO.bind ?_ (fun _ => ?_))
      | exact ih0 _ _ _ _ _
      | exact quadratref01_trim.mono _ _
      | exact LeO.none _
      | refine LeO.ite ?_ ?_
      | refine LeO.bind ?_ (fun _ => ?_)
theorem quadratref01_Minus.mono : ∀ a0 a1 k, LeO (quadratref01_Minus.f k a0 a1) (quadratref01_Minus.f (k + 1) a0 a1) := by
  intro a0 a1 k
  have ih0 := quadratref01_Minus.mono_l k
  unfold quadratref01_Minus.f
  repeat' first
      | (with_reducible exact ih0 _ _ _ _ _)
      | (with_reducible exact quadratref01_trim.mono _ _)
      | (with_reducible exact LeO.refl _)
      | (with_reducible exact LeO.none _)
      | (with_reducible refine LeO.ite ?_ ?_)
      | (with_reducible refine LeO.bind ?_ (fun _ => ?_))
      | exact ih0 _ _ _ _ _
      | exact quadratref01_trim.mono _ _
      | exact LeO.none _
      | refine LeO.ite ?_ ?_
      | refine LeO.bind ?_ (fun _ => ?_)
def quadratref01_Down.f (l0 : List Int) (a1 : Int) : Option (List Int) := if a1 ≥ (l0.length : Int) then (some ([] : List Int)) else ((some (([] : List Int) : List Int)).bind fun y259 => (if 0 ≤ a1 then (if a1 ≤ (l0.length : Int) then (if y259.length + (l0.drop (a1 : Int).toNat).length < 140737488355328 then (some (y259 ++ (l0.drop (a1 : Int).toNat))) else (none)) else (none)) else (none)))
def quadratref01_goesUp.f (a0 : Int) (a1 : Int) (a2 : Int) (a3 : Bool) : Option (Bool) := if a0 = 0 then (if a2 > 0 then (some true) else (if a2 = 0 then (some a3) else (some false))) else (if a0 = 2 then (some (a1 == 1)) else (if a0 = 3 then (some (a1 == 0)) else (some false)))
def quadratref01_Int.l0 : Nat → List Int → Int → Int → Option (Int)
  | 0, _, _, _ => none
  | k + 1, x0, x3, x4 => if x4 < (x0.length : Int) then (if x4 < 64 then (if 0 ≤ x4 then (quadratref01_Int.l0 k x0 (Go.bits .or .u64 x3 (shl .u64 (IntKind.u64.wrap (rd x0 x4)) x4)) (wrap64 (x4 + 1))) else (none)) else (some (wrap64 (x3)))) else (some (wrap64 (x3)))
def quadratref01_Int.f (k : Nat) (l0 : List Int) : Option (Int) := quadratref01_Int.l0 k l0 0 0
theorem quadratref01_Int.mono_l : ∀ k, (∀ y0 y1 y2, LeO (quadratref01_Int.l0 k y0 y1 y2) (quadratref01_Int.l0 (k + 1) y0 y1 y2))
  | 0 => fun _ _ _ r h => by simp [quadratref01_Int.l0] at h
  | k + 1 => by
    have ih0 := quadratref01_Int.mono_l k
    · intro y0 y1 y2
      unfold quadratref01_Int.l0
      repeat' first
      | (with_reducible exact ih0 _ _ _)
      | (with_reducible exact LeO.refl _)
      | (with_reducible exact LeO.none _)
      | (with_reducible refine LeO.ite ?_ ?_)
      | (with_reducible refine LeO.bind ?_ (fun _ => ?_))
      | exact ih0 _ _ _
      | exact LeO.none _
      | refine LeO.ite ?_ ?_
      | refine LeO.bind ?_ (fun _ => ?_)
theorem quadratref01_Int.mono : ∀ a0 k, LeO (quadratref01_Int.f k a0) (quadratref01_Int.f (k + 1) a0) := by
  intro a0 k
  have ih0 := quadratref01_Int.mono_l k
  unfold quadratref01_Int.f
  repeat' first
      | (with_reducible exact ih0 _ _ _)
      | (with_reducible exact LeO.refl _)
      | (with_reducible exact LeO.none _)
      | (with_reducible refine LeO.ite ?_ ?_)
      | (with_reducible refine LeO.bind ?_ (fun _ => ?_))
      | exact ih0 _ _ _
      | exact LeO.none _
      | refine LeO.ite ?_ ?_
      | refine LeO.bind ?_ (fun _ => ?_)
def quadratref01_greatest.f (a0 : Int) (a1 : Int) : Option (Int) := (quadratref01_all.f a0).bind fun t267 => ((quadratref01_Digits.f a0).bind fun t268 => (if 0 ≤ (wrap64 (t268 - 1)) then ((quadratref01_bits.f a0 a1 (wrap64 (t267 - 1)) (wrap64 ((shl .i64 1 (wrap64 (t268 - 1))) - 1))).bind fun t269 => (some t269)) else (none)))
mutual
def quadratref01_Rounded.j0 : Nat → Int → Int → Int → List Int → Int → Bool → Int → Int → Int → Option (Int × Int)
  | 0, _, _, _, _, _, _, _, _, _ => none
  | k + 1, x0, x1, x2, x3, x4, x5, x14, x15, x16 => (quadratref01_Down.f x3 (wrap64 (x15 - x4))).bind fun t278 => ((quadratref01_Up.f t278 (wrap64 (x15 - x4))).bind fun t281 => ((quadratref01_Minus.f k x3 t281).bind fun t284 => (if (t284.length : Int) = 0 then (quadratref01_Rounded.j1 k x0 x1 x2 x3 x4 x5 x14 x15 x16 t278 t284 (!x5)) else (quadratref01_Rounded.j1 k x0 x1 x2 x3 x4 x5 x14 x15 x16 t278 t284 false))))
def quadratref01_Rounded.j1 : Nat → Int → Int → Int → List Int → Int → Bool → Int → Int → Int → List Int → List Int → Bool → Option (Int × Int)
  | 0, _, _, _, _, _, _, _, _, _, _, _, _ => none
  | k + 1, x0, x1, x2, x3, x4, x5, x14, x15, x16, x17, x18, x19 => if x19 = true then (quadratref01_Rounded.j4 k x0 x1 x2 x14 x15 x16 x17) else ((quadratref01_Bias.f x0).bind fun t287 => (if (wrap64 ((x3.length : Int) + x4)) ≤ (wrap64 (1 - t287)) then (quadratref01_Rounded.j2 k x0 x1 x2 x4 x5 x14 x15 (16 + 8) x17 x18) else (quadratref01_Rounded.j2 k x0 x1 x2 x4 x5 x14 x15 16 x17 x18)))
def quadratref01_Rounded.j4 : Nat → Int → Int → Int → Int → Int → Int → List Int → Option (Int × Int)
  | 0, _, _, _, _, _, _, _ => none
  | k + 1, x0, x1, x2, x14, x15, x16, x17 => if (x17.length : Int) > x14 then ((quadratref01_Down.f x17 1).bind fun t303 => (quadratref01_Rounded.j5 k x0 x1 x2 x14 (wrap64 (x15 + 1)) x16 t303)) else (quadratref01_Rounded.j5 k x0 x1 x2 x14 x15 x16 x17)
def quadratref01_Rounded.j5 : Nat → Int → Int → Int → Int → Int → Int → List Int → Option (Int × Int)
  | 0, _, _, _, _, _, _, _ => none
  | k + 1, x0, x1, x2, x14, x15, x16, x17 => (quadratref01_Bias.f x0).bind fun t306 => (if (wrap64 ((x17.length : Int) + x15)) > (wrap64 (t306 + 1)) then ((quadratref01_goesUp.f x1 x2 1 true).bind fun t307 => (if t307 = true then ((quadratref01_Infinite.f x0 x2).bind fun t308 => (some (t308, 20))) else ((quadratref01_greatest.f x0 x2).bind fun t309 => (some (t309, 20))))) else ((quadratref01_Int.f k x17).bind fun t310 => (if (x17.length : Int) < x14 then ((quadratref01_bits.f x0 x2 0 t310).bind fun t311 => (some (t311, x16))) else ((quadratref01_least.f x0).bind fun t312 => (if 0 ≤ (wrap64 (x14 - 1)) then ((quadratref01_bits.f x0 x2 (wrap64 ((wrap64 (x15 - t312)) + 1)) (wrap64 (t310 - (shl .i64 1 (wrap64 (x14 - 1)))))).bind fun t313 => (some (t313, x16))) else (none))))))
def quadratref01_Rounded.j2 : Nat → Int → Int → Int → Int → Bool → Int → Int → Int → List Int → List Int → Option (Int × Int)
  | 0, _, _, _, _, _, _, _, _, _, _ => none
  | k + 1, x0, x1, x2, x4, x5, x14, x15, x16, x17, x18 => if x15 > x4 then ((quadratref01_Of.f k 1).bind fun t288 => ((quadratref01_Up.f t288 (wrap64 ((wrap64 (x15 - x4)) - 1))).bind fun t291 => ((quadratref01_Cmp.f k x18 t291).bind fun t294 => (if t294 = 0 then (if x5 = true then (quadratref01_Rounded.j3 k x0 x1 x2 x14 x15 x16 x17 1) else (quadratref01_Rounded.j3 k x0 x1 x2 x14 x15 x16 x17 t294)) else (quadratref01_Rounded.j3 k x0 x1 x2 x14 x15 x16 x17 t294))))) else (quadratref01_Rounded.j3 k x0 x1 x2 x14 x15 x16 x17 (-1))
def quadratref01_Rounded.j3 : Nat → Int → Int → Int → Int → Int → Int → List Int → Int → Option (Int × Int)
  | 0, _, _, _, _, _, _, _, _ => none
  | k + 1, x0, x1, x2, x14, x15, x16, x17, x20 => (quadratref01_digit.f x17 0).bind fun t295 => ((quadratref01_goesUp.f x1 x2 x20 (t295 == 1)).bind fun t296 => (if t296 = true then ((quadratref01_Of.f k 1).bind fun t297 => ((quadratref01_Plus.f k x17 t297).bind fun t300 => (quadratref01_Rounded.j4 k x0 x1 x2 x14 x15 x16 t300))) else (quadratref01_Rounded.j4 k x0 x1 x2 x14 x15 x16 x17)))
end
def quadratref01_Rounded.f (k : Nat) (a0 : Int) (a1 : Int) (a2 : Int) (l3 : List Int) (a4 : Int) (a5 : Bool) : Option (Int × Int) := (quadratref01_Digits.f a0).bind fun t270 => ((quadratref01_Up.f l3 2).bind fun t271 => ((quadratref01_least.f a0).bind fun t274 => (if (mx (wrap64 ((wrap64 ((t271.length : Int) + (wrap64 (a4 - 2)))) - t270)) t274) < (wrap64 (a4 - 2)) then ((quadratref01_Up.f t271 (wrap64 ((wrap64 (a4 - 2)) - (mx (wrap64 ((wrap64 ((t271.length : Int) + (wrap64 (a4 - 2)))) - t270)) t274)))).bind fun t275 => (quadratref01_Rounded.j0 k a0 a1 a2 t275 (mx (wrap64 ((wrap64 ((t271.length : Int) + (wrap64 (a4 - 2)))) - t270)) t274) a5 t270 (mx (wrap64 ((wrap64 ((t271.length : Int) + (wrap64 (a4 - 2)))) - t270)) t274) 0)) else (quadratref01_Rounded.j0 k a0 a1 a2 t271 (wrap64 (a4 - 2)) a5 t270 (mx (wrap64 ((wrap64 ((t271.length : Int) + (wrap64 (a4 - 2)))) - t270)) t274) 0))))
theorem quadratref01_Rounded.mono_l : ∀ k, (∀ y0 y1 y2 y3 y4 y5 y6 y7 y8, LeO (quadratref01_Rounded.j0 k y0 y1 y2 y3 y4 y5 y6 y7 y8) (quadratref01_Rounded.j0 (k + 1) y0 y1 y2 y3 y4 y5 y6 y7 y8)) ∧ (∀ y0 y1 y2 y3 y4 y5 y6 y7 y8 y9 y10 y11, LeO (quadratref01_Rounded.j1 k y0 y1 y2 y3 y4 y5 y6 y7 y8 y9 y10 y11) (quadratref01_Rounded.j1 (k + 1) y0 y1 y2 y3 y4 y5 y6 y7 y8 y9 y10 y11)) ∧ (∀ y0 y1 y2 y3 y4 y5 y6, LeO (quadratref01_Rounded.j4 k y0 y1 y2 y3 y4 y5 y6) (quadratref01_Rounded.j4 (k + 1) y0 y1 y2 y3 y4 y5 y6)) ∧ (∀ y0 y1 y2 y3 y4 y5 y6, LeO (quadratref01_Rounded.j5 k y0 y1 y2 y3 y4 y5 y6) (quadratref01_Rounded.j5 (k + 1) y0 y1 y2 y3 y4 y5 y6)) ∧ (∀ y0 y1 y2 y3 y4 y5 y6 y7 y8 y9, LeO (quadratref01_Rounded.j2 k y0 y1 y2 y3 y4 y5 y6 y7 y8 y9) (quadratref01_Rounded.j2 (k + 1) y0 y1 y2 y3 y4 y5 y6 y7 y8 y9)) ∧ (∀ y0 y1 y2 y3 y4 y5 y6 y7, LeO (quadratref01_Rounded.j3 k y0 y1 y2 y3 y4 y5 y6 y7) (quadratref01_Rounded.j3 (k + 1) y0 y1 y2 y3 y4 y5 y6 y7))
  | 0 => ⟨fun _ _ _ _ _ _ _ _ _ r h => by simp [quadratref01_Rounded.j0] at h, fun _ _ _ _ _ _ _ _ _ _ _ _ r h => by simp [quadratref01_Rounded.j1] at h, fun _ _ _ _ _ _ _ r h => by simp [quadratref01_Rounded.j4] at h, fun _ _ _ _ _ _ _ r h => by simp [quadratref01_Rounded.j5] at h, fun _ _ _ _ _ _ _ _ _ _ r h => by simp [quadratref01_Rounded.j2] at h, fun _ _ _ _ _ _ _ _ r h => by simp [quadratref01_Rounded.j3] at h⟩
  | k + 1 => by
    obtain ⟨ih0, ih1, ih2, ih3, ih4, ih5⟩ := quadratref01_Rounded.mono_l k
    refine ⟨?_, ?_, ?_, ?_, ?_, ?_⟩
    · intro y0 y1 y2 y3 y4 y5 y6 y7 y8
      unfold quadratref01_Rounded.j0
      repeat' first
      | (with_reducible exact ih0 _ _ _ _ _ _ _ _ _)
      | (with_reducible exact ih1 _ _ _ _ _ _ _ _ _ _ _ _)
      | (with_reducible exact ih2 _ _ _ _ _ _ _)
      | (with_reducible exact ih3 _ _ _ _ _ _ _)
      | (with_reducible exact ih4 _ _ _ _ _ _ _ _ _ _)
      | (with_reducible exact ih5 _ _ _ _ _ _ _ _)
      | (with_reducible exact quadratref01_Cmp.mono _ _ _)
      | (with_reducible exact quadratref01_Int.mono _ _)
      | (with_reducible exact quadratref01_Minus.mono _ _ _)
      | (with_reducible exact quadratref01_Of.mono _ _)
      | (with_reducible exact quadratref01_Plus.mono _ _ _)
      | (with_reducible exact LeO.refl _)
      | (with_reducible exact LeO.none _)
      | (with_reducible refine LeO.ite ?_ ?_)
      | (with_reducible refine LeO.bind ?_ (fun _ => ?_))
      | exact ih0 _ _ _ _ _ _ _ _ _
      | exact ih1 _ _ _ _ _ _ _ _ _ _ _ _
      | exact ih2 _ _ _ _ _ _ _
      | exact ih3 _ _ _ _ _ _ _
      | exact ih4 _ _ _ _ _ _ _ _ _ _
      | exact ih5 _ _ _ _ _ _ _ _
      | exact quadratref01_Cmp.mono _ _ _
      | exact quadratref01_Int.mono _ _
      | exact quadratref01_Minus.mono _ _ _
      | exact quadratref01_Of.mono _ _
      | exact quadratref01_Plus.mono _ _ _
      | exact LeO.none _
      | refine LeO.ite ?_ ?_
      | refine LeO.bind ?_ (fun _ => ?_)
    · intro y0 y1 y2 y3 y4 y5 y6 y7 y8 y9 y10 y11
      unfold quadratref01_Rounded.j1
      repeat' first
      | (with_reducible exact ih0 _ _ _ _ _ _ _ _ _)
      | (with_reducible exact ih1 _ _ _ _ _ _ _ _ _ _ _ _)
      | (with_reducible exact ih2 _ _ _ _ _ _ _)
      | (with_reducible exact ih3 _ _ _ _ _ _ _)
      | (with_reducible exact ih4 _ _ _ _ _ _ _ _ _ _)
      | (with_reducible exact ih5 _ _ _ _ _ _ _ _)
      | (with_reducible exact quadratref01_Cmp.mono _ _ _)
      | (with_reducible exact quadratref01_Int.mono _ _)
      | (with_reducible exact quadratref01_Minus.mono _ _ _)
      | (with_reducible exact quadratref01_Of.mono _ _)
      | (with_reducible exact quadratref01_Plus.mono _ _ _)
      | (with_reducible exact LeO.refl _)
      | (with_reducible exact LeO.none _)
      | (with_reducible refine LeO.ite ?_ ?_)
      | (with_reducible refine LeO.bind ?_ (fun _ => ?_))
      | exact ih0 _ _ _ _ _ _ _ _ _
      | exact ih1 _ _ _ _ _ _ _ _ _ _ _ _
      | exact ih2 _ _ _ _ _ _ _
      | exact ih3 _ _ _ _ _ _ _
      | exact ih4 _ _ _ _ _ _ _ _ _ _
      | exact ih5 _ _ _ _ _ _ _ _
      | exact quadratref01_Cmp.mono _ _ _
      | exact quadratref01_Int.mono _ _
      | exact quadratref01_Minus.mono _ _ _
      | exact quadratref01_Of.mono _ _
      | exact quadratref01_Plus.mono _ _ _
      | exact LeO.none _
      | refine LeO.ite ?_ ?_
      | refine LeO.bind ?_ (fun _ => ?_)
    · intro y0 y1 y2 y3 y4 y5 y6
      unfold quadratref01_Rounded.j4
      repeat' first
      | (with_reducible exact ih0 _ _ _ _ _ _ _ _ _)
      | (with_reducible exact ih1 _ _ _ _ _ _ _ _ _ _ _ _)
      | (with_reducible exact ih2 _ _ _ _ _ _ _)
      | (with_reducible exact ih3 _ _ _ _ _ _ _)
      | (with_reducible exact ih4 _ _ _ _ _ _ _ _ _ _)
      | (with_reducible exact ih5 _ _ _ _ _ _ _ _)
      | (with_reducible exact quadratref01_Cmp.mono _ _ _)
      | (with_reducible exact quadratref01_Int.mono _ _)
      | (with_reducible exact quadratref01_Minus.mono _ _ _)
      | (with_reducible exact quadratref01_Of.mono _ _)
      | (with_reducible exact quadratref01_Plus.mono _ _ _)
      | (with_reducible exact LeO.refl _)
      | (with_reducible exact LeO.none _)
      | (with_reducible refine LeO.ite ?_ ?_)
      | (with_reducible refine LeO.bind ?_ (fun _ => ?_))
      | exact ih0 _ _ _ _ _ _ _ _ _
      | exact ih1 _ _ _ _ _ _ _ _ _ _ _ _
      | exact ih2 _ _ _ _ _ _ _
      | exact ih3 _ _ _ _ _ _ _
      | exact ih4 _ _ _ _ _ _ _ _ _ _
      | exact ih5 _ _ _ _ _ _ _ _
      | exact quadratref01_Cmp.mono _ _ _
      | exact quadratref01_Int.mono _ _
      | exact quadratref01_Minus.mono _ _ _
      | exact quadratref01_Of.mono _ _
      | exact quadratref01_Plus.mono _ _ _
      | exact LeO.none _
      | refine LeO.ite ?_ ?_
      | refine LeO.bind ?_ (fun _ => ?_)
    · intro y0 y1 y2 y3 y4 y5 y6
      unfold quadratref01_Rounded.j5
      repeat' first
      | (with_reducible exact ih0 _ _ _ _ _ _ _ _ _)
      | (with_reducible exact ih1 _ _ _ _ _ _ _ _ _ _ _ _)
      | (with_reducible exact ih2 _ _ _ _ _ _ _)
      | (with_reducible exact ih3 _ _ _ _ _ _ _)
      | (with_reducible exact ih4 _ _ _ _ _ _ _ _ _ _)
      | (with_reducible exact ih5 _ _ _ _ _ _ _ _)
      | (with_reducible exact quadratref01_Cmp.mono _ _ _)
      | (with_reducible exact quadratref01_Int.mono _ _)
      | (with_reducible exact quadratref01_Minus.mono _ _ _)
      | (with_reducible exact quadratref01_Of.mono _ _)
      | (with_reducible exact quadratref01_Plus.mono _ _ _)
      | (with_reducible exact LeO.refl _)
      | (with_reducible exact LeO.none _)
      | (with_reducible refine LeO.ite ?_ ?_)
      | (with_reducible refine LeO.bind ?_ (fun _ => ?_))
      | exact ih0 _ _ _ _ _ _ _ _ _
      | exact ih1 _ _ _ _ _ _ _ _ _ _ _ _
      | exact ih2 _ _ _ _ _ _ _
      | exact ih3 _ _ _ _ _ _ _
      | exact ih4 _ _ _ _ _ _ _ _ _ _
      | exact ih5 _ _ _ _ _ _ _ _
      | exact quadratref01_Cmp.mono _ _ _
      | exact quadratref01_Int.mono _ _
      | exact quadratref01_Minus.mono _ _ _
      | exact quadratref01_Of.mono _ _
      | exact quadratref01_Plus.mono _ _ _
      | exact LeO.none _
      | refine LeO.ite ?_ ?_
      | refine LeO.bind ?_ (fun _ => ?_)
    · intro y0 y1 y2 y3 y4 y5 y6 y7 y8 y9
      unfold quadratref01_Rounded.j2
      repeat' first
      | (with_reducible exact ih0 _ _ _ _ _ _ _ _ _)
      | (with_reducible exact ih1 _ _ _ _ _ _ _ _ _ _ _ _)
      | (with_reducible exact ih2 _ _ _ _ _ _ _)
      | (with_reducible exact ih3 _ _ _ _ _ _ _)
      | (with_reducible exact ih4 _ _ _ _ _ _ _ _ _ _)
      | (with_reducible exact ih5 _ _ _ _ _ _ _ _)
      | (with_reducible exact quadratref01_Cmp.mono _ _ _)
      | (with_reducible exact quadratref01_Int.mono _ _)
      | (with_reducible exact quadratref01_Minus.mono _ _ _)
      | (with_reducible exact quadratref01_Of.mono _ _)
      | (with_reducible exact quadratref01_Plus.mono _ _ _)
      | (with_reducible exact LeO.refl _)
      | (with_reducible exact LeO.none _)
      | (with_reducible refine LeO.ite ?_ ?_)
      | (with_reducible refine LeO.bind ?_ (fun _ => ?_))
      | exact ih0 _ _ _ _ _ _ _ _ _
      | exact ih1 _ _ _ _ _ _ _ _ _ _ _ _
      | exact ih2 _ _ _ _ _ _ _
      | exact ih3 _ _ _ _ _ _ _
      | exact ih4 _ _ _ _ _ _ _ _ _ _
      | exact ih5 _ _ _ _ _ _ _ _
      | exact quadratref01_Cmp.mono _ _ _
      | exact quadratref01_Int.mono _ _
      | exact quadratref01_Minus.mono _ _ _
      | exact quadratref01_Of.mono _ _
      | exact quadratref01_Plus.mono _ _ _
      | exact LeO.none _
      | refine LeO.ite ?_ ?_
      | refine LeO.bind ?_ (fun _ => ?_)
    · intro y0 y1 y2 y3 y4 y5 y6 y7
      unfold quadratref01_Rounded.j3
      repeat' first
      | (with_reducible exact ih0 _ _ _ _ _ _ _ _ _)
      | (with_reducible exact ih1 _ _ _ _ _ _ _ _ _ _ _ _)
      | (with_reducible exact ih2 _ _ _ _ _ _ _)
      | (with_reducible exact ih3 _ _ _ _ _ _ _)
      | (with_reducible exact ih4 _ _ _ _ _ _ _ _ _ _)
      | (with_reducible exact ih5 _ _ _ _ _ _ _ _)
      | (with_reducible exact quadratref01_Cmp.mono _ _ _)
      | (with_reducible exact quadratref01_Int.mono _ _)
      | (with_reducible exact quadratref01_Minus.mono _ _ _)
      | (with_reducible exact quadratref01_Of.mono _ _)
      | (with_reducible exact quadratref01_Plus.mono _ _ _)
      | (with_reducible exact LeO.refl _)
      | (with_reducible exact LeO.none _)
      | (with_reducible refine LeO.ite ?_ ?_)
      | (with_reducible refine LeO.bind ?_ (fun _ => ?_))
      | exact ih0 _ _ _ _ _ _ _ _ _
      | exact ih1 _ _ _ _ _ _ _ _ _ _ _ _
      | exact ih2 _ _ _ _ _ _ _
      | exact ih3 _ _ _ _ _ _ _
      | exact ih4 _ _ _ _ _ _ _ _ _ _
      | exact ih5 _ _ _ _ _ _ _ _
      | exact quadratref01_Cmp.mono _ _ _
      | exact quadratref01_Int.mono _ _
      | exact quadratref01_Minus.mono _ _ _
      | exact quadratref01_Of.mono _ _
      | exact quadratref01_Plus.mono _ _ _
      | exact LeO.none _
      | refine LeO.ite ?_ ?_
      | refine LeO.bind ?_ (fun _ => ?_)
theorem quadratref01_Rounded.mono : ∀ a0 a1 a2 a3 a4 a5 k, LeO (quadratref01_Rounded.f k a0 a1 a2 a3 a4 a5) (quadratref01_Rounded.f (k + 1) a0 a1 a2 a3 a4 a5) := by
  intro a0 a1 a2 a3 a4 a5 k
  obtain ⟨ih0, ih1, ih2, ih3, ih4, ih5⟩ := quadratref01_Rounded.mono_l k
  unfold quadratref01_Rounded.f
  repeat' first
      | (with_reducible exact ih0 _ _ _ _ _ _ _ _ _)
      | (with_reducible exact ih1 _ _ _ _ _ _ _ _ _ _ _ _)
      | (with_reducible exact ih2 _ _ _ _ _ _ _)
      | (with_reducible exact ih3 _ _ _ _ _ _ _)
      | (with_reducible exact ih4 _ _ _ _ _ _ _ _ _ _)
      | (with_reducible exact ih5 _ _ _ _ _ _ _ _)
      | (with_reducible exact quadratref01_Cmp.mono _ _ _)
      | (with_reducible exact quadratref01_Int.mono _ _)
      | (with_reducible exact quadratref01_Minus.mono _ _ _)
      | (with_reducible exact quadratref01_Of.mono _ _)
      | (with_reducible exact quadratref01_Plus.mono _ _ _)
      | (with_reducible exact LeO.refl _)
      | (with_reducible exact LeO.none _)
      | (with_reducible refine LeO.ite ?_ ?_)
      | (with_reducible refine LeO.bind ?_ (fun _ => ?_))
      | exact ih0 _ _ _ _ _ _ _ _ _
      | exact ih1 _ _ _ _ _ _ _ _ _ _ _ _
      | exact ih2 _ _ _ _ _ _ _
      | exact ih3 _ _ _ _ _ _ _
      | exact ih4 _ _ _ _ _ _ _ _ _ _
      | exact ih5 _ _ _ _ _ _ _ _
      | exact quadratref01_Cmp.mono _ _ _
      | exact quadratref01_Int.mono _ _
      | exact quadratref01_Minus.mono _ _ _
      | exact quadratref01_Of.mono _ _
      | exact quadratref01_Plus.mono _ _ _
      | exact LeO.none _
      | refine LeO.ite ?_ ?_
      | refine LeO.bind ?_ (fun _ => ?_)
def quadratref01_Quiet.f (a0 : Int) : Option (Int) := (quadratref01_all.f a0).bind fun t211 => ((quadratref01_Digits.f a0).bind fun t212 => (if 0 ≤ (wrap64 (t212 - 2)) then ((quadratref01_bits.f a0 0 t211 (shl .i64 1 (wrap64 (t212 - 2)))).bind fun t213 => (some t213)) else (none)))
def quadratref01_Zero.f (a0 : Int) (a1 : Int) : Option (Int) := (quadratref01_bits.f a0 a1 0 0).bind fun t258 => (some t258)
def float_shape_place.f (a0_0 : Int) (a0_1 : Int) (a1 : Int) : Option (Int) := if 0 ≤ (wrap64 ((wrap64 (a0_0 + a0_1)) - 1)) then (if (Go.bits .and .u64 (shr .u64 (IntKind.u64.wrap (a1)) (wrap64 ((wrap64 (a0_0 + a0_1)) - 1))) 1) = 1 then (some (wrap64 (-(wrap64 (Go.bits .and .u64 (IntKind.u64.wrap (a1)) (IntKind.u64.wrap ((shl .u64 1 (wrap64 ((wrap64 (a0_0 + a0_1)) - 1))) - 1))))))) else (some (wrap64 (Go.bits .and .u64 (IntKind.u64.wrap (a1)) (IntKind.u64.wrap ((shl .u64 1 (wrap64 ((wrap64 (a0_0 + a0_1)) - 1))) - 1)))))) else (none)
def quadratref01_negative.f (k : Nat) (a0 : Int) (a1 : Int) : Option (Int) := (quadratref01_taken.f k a0 a1).bind fun bt353 => (if bt353.1.toList = ([110, 111, 110, 101] : List UInt8) then ((quadratref01_Quiet.f a0).bind fun t359 => (some t359)) else (if 0 ≤ (wrap64 ((wrap64 (8 * a0)) - 1)) then (some (wrap64 (Go.bits .xor .u64 (IntKind.u64.wrap (a1)) (shl .u64 1 (wrap64 ((wrap64 (8 * a0)) - 1)))))) else (none)))
theorem quadratref01_negative.mono : ∀ a0 a1 k, LeO (quadratref01_negative.f k a0 a1) (quadratref01_negative.f (k + 1) a0 a1) := by
  intro a0 a1 k
  unfold quadratref01_negative.f
  repeat' first
      | (with_reducible exact quadratref01_taken.mono _ _ _)
      | (with_reducible exact LeO.refl _)
      | (with_reducible exact LeO.none _)
      | (with_reducible refine LeO.ite ?_ ?_)
      | (with_reducible refine LeO.bind ?_ (fun _ => ?_))
      | exact quadratref01_taken.mono _ _ _
      | exact LeO.none _
      | refine LeO.ite ?_ ?_
      | refine LeO.bind ?_ (fun _ => ?_)
def quadratref01_size.f (a0 : Int) (a1 : Int) : Option (Int) := if 0 ≤ (wrap64 ((wrap64 (8 * a0)) - 1)) then (some (wrap64 (Go.bits .and .u64 (IntKind.u64.wrap (a1)) (IntKind.u64.wrap ((shl .u64 1 (wrap64 ((wrap64 (8 * a0)) - 1))) - 1))))) else (none)
def bits_TrailingZeros64.f (a0 : Int) : Option (Int) := if 0 ≤ a0 ∧ a0 ≤ 18446744073709551615 then some (Lib.ctz 64 a0.toNat : Int) else none
def float_Parts.j0 : Nat → Bool → Int → Int → Int → Int → Option (Int × Int × Int × Int)
  | 0, _, _, _, _, _ => none
  | k + 1, x25, x127000, x127001, x127002, x127003 => if x25 = true then (some (0, 0, 0, 10)) else (if x127000 = 0 then (some (x127001, 0, 0, 0)) else ((bits_TrailingZeros64.f x127002).bind fun t128 => (if 0 ≤ t128 then (some (x127001, wrap64 (shr .u64 x127002 t128), wrap64 (x127003 + t128), 0)) else (none))))
def float_Parts.f (k : Nat) (a0 : Int) (a1 : Int) : Option (Int × Int × Int × Int) := (float_two.f k a0 0 a1 a1).bind fun bt114 => (if bt114.2.2.2.2.2.2.2.2.2.2 = true then (if bt114.2.2.1 = 2 then (float_Parts.j0 k true bt114.2.2.1 bt114.2.2.2.1 bt114.2.2.2.2.1 bt114.2.2.2.2.2.1) else (float_Parts.j0 k (bt114.2.2.1 == 3) bt114.2.2.1 bt114.2.2.2.1 bt114.2.2.2.2.1 bt114.2.2.2.2.2.1)) else (some (0, 0, 0, 2)))
theorem float_Parts.mono_l : ∀ k, (∀ y0 y1 y2 y3 y4, LeO (float_Parts.j0 k y0 y1 y2 y3 y4) (float_Parts.j0 (k + 1) y0 y1 y2 y3 y4))
  | 0 => fun _ _ _ _ _ r h => by simp [float_Parts.j0] at h
  | k + 1 => by
    have ih0 := float_Parts.mono_l k
    · intro y0 y1 y2 y3 y4
      unfold float_Parts.j0
      repeat' first
      | (with_reducible exact ih0 _ _ _ _ _)
      | (with_reducible exact float_two.mono _ _ _ _ _)
      | (with_reducible exact LeO.refl _)
      | (with_reducible exact LeO.none _)
      | (with_reducible refine LeO.ite ?_ ?_)
      | (with_reducible refine LeO.bind ?_ (fun _ => ?_))
      | exact ih0 _ _ _ _ _
      | exact float_two.mono _ _ _ _ _
      | exact LeO.none _
      | refine LeO.ite ?_ ?_
      | refine LeO.bind ?_ (fun _ => ?_)
theorem float_Parts.mono : ∀ a0 a1 k, LeO (float_Parts.f k a0 a1) (float_Parts.f (k + 1) a0 a1) := by
  intro a0 a1 k
  have ih0 := float_Parts.mono_l k
  unfold float_Parts.f
  repeat' first
      | (with_reducible exact ih0 _ _ _ _ _)
      | (with_reducible exact float_two.mono _ _ _ _ _)
      | (with_reducible exact LeO.refl _)
      | (with_reducible exact LeO.none _)
      | (with_reducible refine LeO.ite ?_ ?_)
      | (with_reducible refine LeO.bind ?_ (fun _ => ?_))
      | exact ih0 _ _ _ _ _
      | exact float_two.mono _ _ _ _ _
      | exact LeO.none _
      | refine LeO.ite ?_ ?_
      | refine LeO.bind ?_ (fun _ => ?_)
mutual
def quadratref01_Parts.j0 : Nat → ByteArray → Bool → ByteArray → Int → List Int → Int → Option (Int × Int × Int × Int)
  | 0, _, _, _, _, _, _ => none
  | k + 1, x18, x19, x160000, x160001, x160002, x160003 => if x19 = true then (some (0, 0, 0, 10)) else (if x18.toList = ([122, 101, 114, 111] : List UInt8) then (some (x160001, 0, 0, 0)) else (quadratref01_Parts.l0 k 0 x160000 x160001 x160002 x160003))
def quadratref01_Parts.l0 : Nat → Int → ByteArray → Int → List Int → Int → Option (Int × Int × Int × Int)
  | 0, _, _, _, _, _ => none
  | k + 1, x9, x160000, x160001, x160002, x160003 => if 0 ≤ x9 then (if x9 < (x160002.length : Int) then (if (rd x160002 x9) = 0 then (quadratref01_Parts.l0 k (wrap64 (x9 + 1)) x160000 x160001 x160002 x160003) else ((quadratref01_Down.f x160002 x9).bind fun t161 => ((quadratref01_Int.f k t161).bind fun t164 => (some (x160001, t164, wrap64 (x160003 + x9), 0))))) else (none)) else (none)
end
def quadratref01_Parts.f (k : Nat) (a0 : Int) (a1 : Int) : Option (Int × Int × Int × Int) := (quadratref01_Valid.f a0 a1).bind fun t152 => (if t152 = true then ((quadratref01_taken.f k a0 a1).bind fun bt153 => (if bt153.1.toList = ([110, 111, 110, 101] : List UInt8) then (quadratref01_Parts.j0 k bt153.1 (bt153.1.toList == ([110, 111, 110, 101] : List UInt8)) bt153.1 bt153.2.1 bt153.2.2.1 bt153.2.2.2) else (quadratref01_Parts.j0 k bt153.1 (bt153.1.toList == ([105, 110, 102, 105, 110, 105, 116, 101] : List UInt8)) bt153.1 bt153.2.1 bt153.2.2.1 bt153.2.2.2))) else (some (0, 0, 0, 2)))
theorem quadratref01_Parts.mono_l : ∀ k, (∀ y0 y1 y2 y3 y4 y5, LeO (quadratref01_Parts.j0 k y0 y1 y2 y3 y4 y5) (quadratref01_Parts.j0 (k + 1) y0 y1 y2 y3 y4 y5)) ∧ (∀ y0 y1 y2 y3 y4, LeO (quadratref01_Parts.l0 k y0 y1 y2 y3 y4) (quadratref01_Parts.l0 (k + 1) y0 y1 y2 y3 y4))
  | 0 => ⟨fun _ _ _ _ _ _ r h => by simp [quadratref01_Parts.j0] at h, fun _ _ _ _ _ r h => by simp [quadratref01_Parts.l0] at h⟩
  | k + 1 => by
    obtain ⟨ih0, ih1⟩ := quadratref01_Parts.mono_l k
    refine ⟨?_, ?_⟩
    · intro y0 y1 y2 y3 y4 y5
      unfold quadratref01_Parts.j0
      repeat' first
      | (with_reducible exact ih0 _ _ _ _ _ _)
      | (with_reducible exact ih1 _ _ _ _ _)
      | (with_reducible exact quadratref01_Int.mono _ _)
      | (with_reducible exact quadratref01_taken.mono _ _ _)
      | (with_reducible exact LeO.refl _)
      | (with_reducible exact LeO.none _)
      | (with_reducible refine LeO.ite ?_ ?_)
      | (with_reducible refine LeO.bind ?_ (fun _ => ?_))
      | exact ih0 _ _ _ _ _ _
      | exact ih1 _ _ _ _ _
      | exact quadratref01_Int.mono _ _
      | exact quadratref01_taken.mono _ _ _
      | exact LeO.none _
      | refine LeO.ite ?_ ?_
      | refine LeO.bind ?_ (fun _ => ?_)
    · intro y0 y1 y2 y3 y4
      unfold quadratref01_Parts.l0
      repeat' first
      | (with_reducible exact ih0 _ _ _ _ _ _)
      | (with_reducible exact ih1 _ _ _ _ _)
      | (with_reducible exact quadratref01_Int.mono _ _)
      | (with_reducible exact quadratref01_taken.mono _ _ _)
      | (with_reducible exact LeO.refl _)
      | (with_reducible exact LeO.none _)
      | (with_reducible refine LeO.ite ?_ ?_)
      | (with_reducible refine LeO.bind ?_ (fun _ => ?_))
      | exact ih0 _ _ _ _ _ _
      | exact ih1 _ _ _ _ _
      | exact quadratref01_Int.mono _ _
      | exact quadratref01_taken.mono _ _ _
      | exact LeO.none _
      | refine LeO.ite ?_ ?_
      | refine LeO.bind ?_ (fun _ => ?_)
theorem quadratref01_Parts.mono : ∀ a0 a1 k, LeO (quadratref01_Parts.f k a0 a1) (quadratref01_Parts.f (k + 1) a0 a1) := by
  intro a0 a1 k
  obtain ⟨ih0, ih1⟩ := quadratref01_Parts.mono_l k
  unfold quadratref01_Parts.f
  repeat' first
      | (with_reducible exact ih0 _ _ _ _ _ _)
      | (with_reducible exact ih1 _ _ _ _ _)
      | (with_reducible exact quadratref01_Int.mono _ _)
      | (with_reducible exact quadratref01_taken.mono _ _ _)
      | (with_reducible exact LeO.refl _)
      | (with_reducible exact LeO.none _)
      | (with_reducible refine LeO.ite ?_ ?_)
      | (with_reducible refine LeO.bind ?_ (fun _ => ?_))
      | exact ih0 _ _ _ _ _ _
      | exact ih1 _ _ _ _ _
      | exact quadratref01_Int.mono _ _
      | exact quadratref01_taken.mono _ _ _
      | exact LeO.none _
      | refine LeO.ite ?_ ?_
      | refine LeO.bind ?_ (fun _ => ?_)
def float_signed.f (k : Nat) (g : Int → Int) (a0 : Int) (a1 : Int) : Option (Int × Int) := (float_two.f k a0 0 a1 a1).bind fun bt => (if bt.2.2.2.2.2.2.2.2.2.2 = true then (if bt.2.2.1 = 3 then ((float_shape_quiet.f bt.1 bt.2.1).bind fun q => (some (q, 0))) else (if 0 ≤ (wrap64 (wrap64 (bt.1 + bt.2.1) - 1)) then (some (wrap64 (Go.bits .or .u64 (shl .u64 (IntKind.u64.wrap (g bt.2.2.2.1)) (wrap64 (wrap64 (bt.1 + bt.2.1) - 1))) (Go.bits .and .u64 (IntKind.u64.wrap (a1)) (IntKind.u64.wrap (shl .u64 1 (wrap64 (wrap64 (bt.1 + bt.2.1) - 1)) - 1)))), 0)) else (none))) else (some (0, 2)))
theorem float_signed.mono : ∀ g a0 a1 k, LeO (float_signed.f k g a0 a1) (float_signed.f (k + 1) g a0 a1) := by
  intro g a0 a1 k
  unfold float_signed.f
  exact LeO.bind (float_two.mono _ _ _ _ _) fun _ => LeO.refl _
def float_Neg.f (k : Nat) (a0 : Int) (a1 : Int) : Option (Int × Int) := float_signed.f k (fun own => wrap64 (1 - own)) a0 a1
theorem float_Neg.mono : ∀ a0 a1 k, LeO (float_Neg.f k a0 a1) (float_Neg.f (k + 1) a0 a1) := fun a0 a1 k => float_signed.mono _ a0 a1 k


def quadratref01_Neg.f (k : Nat) (a0 : Int) (a1 : Int) : Option (Int × Int) := (quadratref01_Valid.f a0 a1).bind fun t181 => (if t181 = true then ((quadratref01_negative.f k a0 a1).bind fun t182 => (some (t182, 0))) else (some (0, 2)))
theorem quadratref01_Neg.mono : ∀ a0 a1 k, LeO (quadratref01_Neg.f k a0 a1) (quadratref01_Neg.f (k + 1) a0 a1) := by
  intro a0 a1 k
  unfold quadratref01_Neg.f
  repeat' first
      | (with_reducible exact quadratref01_negative.mono _ _ _)
      | (with_reducible exact LeO.refl _)
      | (with_reducible exact LeO.none _)
      | (with_reducible refine LeO.ite ?_ ?_)
      | (with_reducible refine LeO.bind ?_ (fun _ => ?_))
      | exact quadratref01_negative.mono _ _ _
      | exact LeO.none _
      | refine LeO.ite ?_ ?_
      | refine LeO.bind ?_ (fun _ => ?_)
def float_Abs.f (k : Nat) (a0 : Int) (a1 : Int) : Option (Int × Int) := float_signed.f k (fun own => 0) a0 a1
theorem float_Abs.mono : ∀ a0 a1 k, LeO (float_Abs.f k a0 a1) (float_Abs.f (k + 1) a0 a1) := fun a0 a1 k => float_signed.mono _ a0 a1 k


def quadratref01_Abs.f (k : Nat) (a0 : Int) (a1 : Int) : Option (Int × Int) := (quadratref01_Valid.f a0 a1).bind fun t183 => (if t183 = true then ((quadratref01_taken.f k a0 a1).bind fun bt184 => (if bt184.1.toList = ([110, 111, 110, 101] : List UInt8) then ((quadratref01_Quiet.f a0).bind fun t190 => (some (t190, 0))) else ((quadratref01_size.f a0 a1).bind fun t191 => (some (t191, 0))))) else (some (0, 2)))
theorem quadratref01_Abs.mono : ∀ a0 a1 k, LeO (quadratref01_Abs.f k a0 a1) (quadratref01_Abs.f (k + 1) a0 a1) := by
  intro a0 a1 k
  unfold quadratref01_Abs.f
  repeat' first
      | (with_reducible exact quadratref01_taken.mono _ _ _)
      | (with_reducible exact LeO.refl _)
      | (with_reducible exact LeO.none _)
      | (with_reducible refine LeO.ite ?_ ?_)
      | (with_reducible refine LeO.bind ?_ (fun _ => ?_))
      | exact quadratref01_taken.mono _ _ _
      | exact LeO.none _
      | refine LeO.ite ?_ ?_
      | refine LeO.bind ?_ (fun _ => ?_)
def quadratref01_Class.f (k : Nat) (a0 : Int) (a1 : Int) : Option (ByteArray) := (quadratref01_Valid.f a0 a1).bind fun t206 => (if t206 = true then ((quadratref01_taken.f k a0 a1).bind fun bt207 => (if bt207.1.toList = ([102, 105, 110, 105, 116, 101] : List UInt8) then ((quadratref01_size.f a0 a1).bind fun t214 => ((quadratref01_Digits.f a0).bind fun t215 => (if 0 ≤ (wrap64 (t215 - 1)) then (if t214 < (shl .i64 1 (wrap64 (t215 - 1))) then (some (⟨#[108, 101, 97, 115, 116]⟩ : ByteArray)) else (some (⟨#[110, 111, 114, 109, 97, 108]⟩ : ByteArray))) else (none)))) else (some bt207.1))) else (some (⟨#[]⟩ : ByteArray)))
theorem quadratref01_Class.mono : ∀ a0 a1 k, LeO (quadratref01_Class.f k a0 a1) (quadratref01_Class.f (k + 1) a0 a1) := by
  intro a0 a1 k
  unfold quadratref01_Class.f
  repeat' first
      | (with_reducible exact quadratref01_taken.mono _ _ _)
      | (with_reducible exact LeO.refl _)
      | (with_reducible exact LeO.none _)
      | (with_reducible refine LeO.ite ?_ ?_)
      | (with_reducible refine LeO.bind ?_ (fun _ => ?_))
      | exact quadratref01_taken.mono _ _ _
      | exact LeO.none _
      | refine LeO.ite ?_ ?_
      | refine LeO.bind ?_ (fun _ => ?_)
def quadratlaw01_FloatParts.f (k : Nat) (a0 : Int) (a1 : Int) : Option (Bool) := (float_Parts.f k a0 a1).bind fun bt293 => ((quadratref01_Parts.f k a0 a1).bind fun bt297 => ((float_Neg.f k a0 a1).bind fun bt301 => ((quadratref01_Neg.f k a0 a1).bind fun bt303 => ((float_Abs.f k a0 a1).bind fun bt305 => ((quadratref01_Abs.f k a0 a1).bind fun bt307 => (if bt293.1 = bt297.1 then (if bt293.2.1 = bt297.2.1 then (if bt293.2.2.1 = bt297.2.2.1 then (if bt293.2.2.2 = bt297.2.2.2 then (if bt301.1 = bt303.1 then (if bt301.2 = bt303.2 then (if bt305.1 = bt307.1 then (if bt305.2 = bt307.2 then ((float_Class.f k a0 a1).bind fun t309 => ((quadratref01_Class.f k a0 a1).bind fun t310 => (if t309.toList = t310.toList then ((quadratlaw01_Awake.f k).bind fun t311 => (some t311)) else (some false)))) else (some false)) else (some false)) else (some false)) else (some false)) else (some false)) else (some false)) else (some false)) else (some false)))))))
theorem quadratlaw01_FloatParts.mono : ∀ a0 a1 k, LeO (quadratlaw01_FloatParts.f k a0 a1) (quadratlaw01_FloatParts.f (k + 1) a0 a1) := by
  intro a0 a1 k
  unfold quadratlaw01_FloatParts.f
  repeat' first
      | (with_reducible exact float_Abs.mono _ _ _)
      | (with_reducible exact float_Class.mono _ _ _)
      | (with_reducible exact float_Neg.mono _ _ _)
      | (with_reducible exact float_Parts.mono _ _ _)
      | (with_reducible exact quadratlaw01_Awake.mono _)
      | (with_reducible exact quadratref01_Abs.mono _ _ _)
      | (with_reducible exact quadratref01_Class.mono _ _ _)
      | (with_reducible exact quadratref01_Neg.mono _ _ _)
      | (with_reducible exact quadratref01_Parts.mono _ _ _)
      | (with_reducible exact LeO.refl _)
      | (with_reducible exact LeO.none _)
      | (with_reducible refine LeO.ite ?_ ?_)
      | (with_reducible refine LeO.bind ?_ (fun _ => ?_))
      | exact float_Abs.mono _ _ _
      | exact float_Class.mono _ _ _
      | exact float_Neg.mono _ _ _
      | exact float_Parts.mono _ _ _
      | exact quadratlaw01_Awake.mono _
      | exact quadratref01_Abs.mono _ _ _
      | exact quadratref01_Class.mono _ _ _
      | exact quadratref01_Neg.mono _ _ _
      | exact quadratref01_Parts.mono _ _ _
      | exact LeO.none _
      | refine LeO.ite ?_ ?_
      | refine LeO.bind ?_ (fun _ => ?_)
/-- THE ONE PURE STATEMENT of quadratlaw01_FloatParts: yours. -/
def quadratlaw01_FloatParts.Pure : Prop := ∀ (a0 : Int) (a1 : Int), (Lit.int .i64 a0).wf = true → (Lit.int .i64 a1).wf = true → ∃ k, quadratlaw01_FloatParts.f k a0 a1 = some true
end Go.Proofs.YtgpnmifejgdipaaDoor.My
