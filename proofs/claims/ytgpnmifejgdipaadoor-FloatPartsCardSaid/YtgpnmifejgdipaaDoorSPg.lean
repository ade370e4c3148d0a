/-
  What each kind of float is made of, in the program and in the reference, said alike for the three kinds. By the session's own hand (printed by gen_g.py).
-/
import Derived.Test.YtgpnmifejgdipaaDoorSPd
import Derived.Test.YtgpnmifejgdipaaDoorSPc

import Derived.Test.YtgpnmifejgdipaaDoorDf
namespace Go.Proofs.YtgpnmifejgdipaaDoor.Pf
open Go.RowKit Go.Proofs.YtgpnmifejgdipaaDoor.My Go.Proofs.YtgpnmifejgdipaaDoor.RM Go.Proofs.YtgpnmifejgdipaaDoorW.PrintWords Go.Proofs.YtgpnmifejgdipaaDoorW.PrintLast Go.Proofs.YtgpnmifejgdipaaDoorW.PrintMore

/-- The three fields put together. -/
def pk (p : Nat) (T s : Int) (x : Int × Nat × Int) : Int × Int := (wrap64 (s * T + x.1 * ((2 ^ (p - 1) : Nat) : Int) + x.2.1), x.2.2)
/-- The float that is no number. -/
def qn (p : Nat) (bias : Int) : Int := wrap64 ((2 * bias + 1) * ((2 ^ (p - 1) : Nat) : Int) + ((2 ^ (p - 2) : Nat) : Int))
/-- A kind, as the reference knows it. -/
structure RK (kind : Int) (p : Nat) (bias T : Int) : Prop where
  p0 : 11 ≤ p
  p1 : p ≤ 53
  b0 : 15 ≤ bias
  b1 : bias ≤ 1023
  dig : quadratref01_Digits.f kind = some (p : Int)
  bia : quadratref01_Bias.f kind = some bias
  lea : quadratref01_least.f kind = some (2 - bias - p)
  bit : ∀ s e f : Int, (s = 0 ∨ s = 1) → 0 ≤ e → e ≤ 2 * bias + 1 → 0 ≤ f → f < ((2 ^ (p - 1) : Nat) : Int) → quadratref01_bits.f kind s e f = some (wrap64 (s * T + e * ((2 ^ (p - 1) : Nat) : Int) + f))
  all : quadratref01_all.f kind = some (2 * bias + 1)
  qui : quadratref01_Quiet.f kind = some (qn p bias)
  zer : ∀ s : Int, (s = 0 ∨ s = 1) → quadratref01_Zero.f kind s = some (wrap64 (s * T))
  siz : ∀ a : Int, quadratref01_size.f kind a = some (wd a % T)
  t0 : 0 < T
/-- A kind, as the program knows it. -/
structure PK (p : Nat) (w bias T : Int) : Prop where
  p0 : 11 ≤ p
  p1 : p ≤ 53
  b0 : 15 ≤ bias
  b1 : bias ≤ 1023
  top : float_shape_top.f (p : Int) w = some (2 * bias + 1)
  bia : float_shape_bias.f (p : Int) w = some bias
  lea : float_shape_least.f (p : Int) w = some (2 - bias - p)
  pac : ∀ s e f : Int, (s = 0 ∨ s = 1) → 0 ≤ e → e ≤ 2 * bias + 1 → 0 ≤ f → f < ((2 ^ (p - 1) : Nat) : Int) → float_shape_pack.f (p : Int) w s e f = some (wrap64 (s * T + e * ((2 ^ (p - 1) : Nat) : Int) + f))
  inf : ∀ s : Int, (s = 0 ∨ s = 1) → float_shape_infinite.f (p : Int) w s = some (wrap64 (s * T + (2 * bias + 1) * ((2 ^ (p - 1) : Nat) : Int) + 0))
  gre : ∀ s : Int, (s = 0 ∨ s = 1) → float_shape_greatest.f (p : Int) w s = some (wrap64 (s * T + (2 * bias) * ((2 ^ (p - 1) : Nat) : Int) + ((2 ^ (p - 1) - 1 : Nat) : Int)))
  qui : float_shape_quiet.f (p : Int) w = some (qn p bias)
  zer : ∀ s : Int, (s = 0 ∨ s = 1) → float_shape_zero.f (p : Int) w s = some (wrap64 (s * T))
  non : ∀ m : Int, float_shape_none.f (p : Int) w m = some (wrap64 ((if m = 2 then 1 else 0) * T))
  pla : ∀ a : Int, float_shape_place.f (p : Int) w a = some (if wd a / T % 2 = 1 then wrap64 (-(wd a % T)) else wd a % T)

theorem bit_2 (s e f : Int) (hs : s = 0 ∨ s = 1) (he0 : 0 ≤ e) (he1 : e < 32) (hf0 : 0 ≤ f) (hf1 : f < 1024) : quadratref01_bits.f 2 s e f = some (wrap64 (s * 32768 + e * 1024 + f)) := by
  have d1 : quadratref01_Digits.f 2 = some 11 := by kernel_rfl
  have e1 : wrap64 (wrap64 (8 * 2) - 1) = 15 := by kernel_rfl
  have e2 : wrap64 (11 - 1) = 10 := by kernel_rfl
  have e3 : ∀ x : Int, shl .u64 x 15 = wd (x * 32768) := fun x => (by kernel_rfl : shl .u64 x 15 = IntKind.u64.wrap (x * 32768)).trans (wrap_wd _)
  have e4 : ∀ x : Int, shl .u64 x 10 = wd (x * 1024) := fun x => (by kernel_rfl : shl .u64 x 10 = IntKind.u64.wrap (x * 1024)).trans (wrap_wd _)
  unfold quadratref01_bits.f
  rw [d1, bs, e1, e2, if_pos (by omega), if_pos (by omega), e3, e4, wrap_wd, wrap_wd, wrap_wd]
  have w1 : wd s = s := by unfold wd; omega
  have w1' : wd e = e := by unfold wd; omega
  have w1'' : wd f = f := by unfold wd; omega
  have w2 : wd (wd s * 32768) = s * 32768 := by rw [w1]; unfold wd; omega
  have w3 : wd (wd e * 1024) = e * 1024 := by rw [w1']; unfold wd; omega
  rw [w2, w3, w1'', or_add (s * 32768) (e * 1024) 15 (by omega) (by omega) (by omega) (by omega) (by omega) (by omega),
    or_add (s * 32768 + e * 1024) f 10 (by omega) (by omega) (by omega) (by omega) (by omega) (by omega)]
theorem size_2 (a : Int) : quadratref01_size.f 2 a = some (wd a % 32768) := by
  obtain ⟨h0, h1⟩ := wd_bd a
  have e1 : wrap64 (wrap64 (8 * 2) - 1) = 15 := by kernel_rfl
  have e2 : IntKind.u64.wrap (shl .u64 1 15 - 1) = 32768 - 1 := by kernel_rfl
  have e3 : Go.bits .and .u64 (wd a) (32768 - 1) = wd a % 32768 := and_mask _ 15 (by omega) (by omega) (by omega)
  unfold quadratref01_size.f
  rw [e1, if_pos (by omega), e2, wrap_wd, e3]
  congr 1
  exact w64_id (by omega) (by omega)
theorem rk_2 : RK 2 11 15 32768 where
  p0 := by decide
  p1 := by decide
  b0 := by decide
  b1 := by decide
  dig := by kernel_rfl
  bia := by kernel_rfl
  lea := by kernel_rfl
  bit := fun s e f hs he0 he1 hf0 hf1 => by
    have h : ((2 ^ (11 - 1) : Nat) : Int) = 1024 := by decide
    rw [h] at hf1 ⊢
    exact bit_2 s e f hs he0 (by omega) hf0 hf1
  all := by kernel_rfl
  qui := by kernel_rfl
  zer := fun s hs => by rcases hs with rfl | rfl <;> kernel_rfl
  siz := size_2
  t0 := by decide
theorem none_2 (m : Int) : float_shape_none.f 11 5 m = some (wrap64 ((if m = 2 then 1 else 0) * 32768)) := by
  unfold float_shape_none.f
  by_cases h : m = 2
  · rw [if_pos h, if_pos h]; kernel_rfl
  · rw [if_neg h, if_neg h]; kernel_rfl
theorem pk_2 : PK 11 5 15 32768 where
  p0 := by decide
  p1 := by decide
  b0 := by decide
  b1 := by decide
  top := by kernel_rfl
  bia := by kernel_rfl
  lea := by kernel_rfl
  pac := fun s e f hs he0 he1 hf0 hf1 => by
    have h : ((2 ^ (11 - 1) : Nat) : Int) = 1024 := by decide
    rw [h] at hf1 ⊢
    exact pack_2 s e f hs he0 (by omega) hf0 hf1
  inf := fun s hs => by rcases hs with rfl | rfl <;> kernel_rfl
  gre := fun s hs => by rcases hs with rfl | rfl <;> kernel_rfl
  qui := by kernel_rfl
  zer := fun s hs => by rcases hs with rfl | rfl <;> kernel_rfl
  non := none_2
  pla := place_2

theorem bit_4 (s e f : Int) (hs : s = 0 ∨ s = 1) (he0 : 0 ≤ e) (he1 : e < 256) (hf0 : 0 ≤ f) (hf1 : f < 8388608) : quadratref01_bits.f 4 s e f = some (wrap64 (s * 2147483648 + e * 8388608 + f)) := by
  have d1 : quadratref01_Digits.f 4 = some 24 := by kernel_rfl
  have e1 : wrap64 (wrap64 (8 * 4) - 1) = 31 := by kernel_rfl
  have e2 : wrap64 (24 - 1) = 23 := by kernel_rfl
  have e3 : ∀ x : Int, shl .u64 x 31 = wd (x * 2147483648) := fun x => (by kernel_rfl : shl .u64 x 31 = IntKind.u64.wrap (x * 2147483648)).trans (wrap_wd _)
  have e4 : ∀ x : Int, shl .u64 x 23 = wd (x * 8388608) := fun x => (by kernel_rfl : shl .u64 x 23 = IntKind.u64.wrap (x * 8388608)).trans (wrap_wd _)
  unfold quadratref01_bits.f
  rw [d1, bs, e1, e2, if_pos (by omega), if_pos (by omega), e3, e4, wrap_wd, wrap_wd, wrap_wd]
  have w1 : wd s = s := by unfold wd; omega
  have w1' : wd e = e := by unfold wd; omega
  have w1'' : wd f = f := by unfold wd; omega
  have w2 : wd (wd s * 2147483648) = s * 2147483648 := by rw [w1]; unfold wd; omega
  have w3 : wd (wd e * 8388608) = e * 8388608 := by rw [w1']; unfold wd; omega
  rw [w2, w3, w1'', or_add (s * 2147483648) (e * 8388608) 31 (by omega) (by omega) (by omega) (by omega) (by omega) (by omega),
    or_add (s * 2147483648 + e * 8388608) f 23 (by omega) (by omega) (by omega) (by omega) (by omega) (by omega)]
theorem size_4 (a : Int) : quadratref01_size.f 4 a = some (wd a % 2147483648) := by
  obtain ⟨h0, h1⟩ := wd_bd a
  have e1 : wrap64 (wrap64 (8 * 4) - 1) = 31 := by kernel_rfl
  have e2 : IntKind.u64.wrap (shl .u64 1 31 - 1) = 2147483648 - 1 := by kernel_rfl
  have e3 : Go.bits .and .u64 (wd a) (2147483648 - 1) = wd a % 2147483648 := and_mask _ 31 (by omega) (by omega) (by omega)
  unfold quadratref01_size.f
  rw [e1, if_pos (by omega), e2, wrap_wd, e3]
  congr 1
  exact w64_id (by omega) (by omega)
theorem rk_4 : RK 4 24 127 2147483648 where
  p0 := by decide
  p1 := by decide
  b0 := by decide
  b1 := by decide
  dig := by kernel_rfl
  bia := by kernel_rfl
  lea := by kernel_rfl
  bit := fun s e f hs he0 he1 hf0 hf1 => by
    have h : ((2 ^ (24 - 1) : Nat) : Int) = 8388608 := by decide
    rw [h] at hf1 ⊢
    exact bit_4 s e f hs he0 (by omega) hf0 hf1
  all := by kernel_rfl
  qui := by kernel_rfl
  zer := fun s hs => by rcases hs with rfl | rfl <;> kernel_rfl
  siz := size_4
  t0 := by decide
theorem none_4 (m : Int) : float_shape_none.f 24 8 m = some (wrap64 ((if m = 2 then 1 else 0) * 2147483648)) := by
  unfold float_shape_none.f
  by_cases h : m = 2
  · rw [if_pos h, if_pos h]; kernel_rfl
  · rw [if_neg h, if_neg h]; kernel_rfl
theorem pk_4 : PK 24 8 127 2147483648 where
  p0 := by decide
  p1 := by decide
  b0 := by decide
  b1 := by decide
  top := by kernel_rfl
  bia := by kernel_rfl
  lea := by kernel_rfl
  pac := fun s e f hs he0 he1 hf0 hf1 => by
    have h : ((2 ^ (24 - 1) : Nat) : Int) = 8388608 := by decide
    rw [h] at hf1 ⊢
    exact pack_4 s e f hs he0 (by omega) hf0 hf1
  inf := fun s hs => by rcases hs with rfl | rfl <;> kernel_rfl
  gre := fun s hs => by rcases hs with rfl | rfl <;> kernel_rfl
  qui := by kernel_rfl
  zer := fun s hs => by rcases hs with rfl | rfl <;> kernel_rfl
  non := none_4
  pla := place_4

theorem bit_8 (s e f : Int) (hs : s = 0 ∨ s = 1) (he0 : 0 ≤ e) (he1 : e < 2048) (hf0 : 0 ≤ f) (hf1 : f < 4503599627370496) : quadratref01_bits.f 8 s e f = some (wrap64 (s * 9223372036854775808 + e * 4503599627370496 + f)) := by
  have d1 : quadratref01_Digits.f 8 = some 53 := by kernel_rfl
  have e1 : wrap64 (wrap64 (8 * 8) - 1) = 63 := by kernel_rfl
  have e2 : wrap64 (53 - 1) = 52 := by kernel_rfl
  have e3 : ∀ x : Int, shl .u64 x 63 = wd (x * 9223372036854775808) := fun x => (by kernel_rfl : shl .u64 x 63 = IntKind.u64.wrap (x * 9223372036854775808)).trans (wrap_wd _)
  have e4 : ∀ x : Int, shl .u64 x 52 = wd (x * 4503599627370496) := fun x => (by kernel_rfl : shl .u64 x 52 = IntKind.u64.wrap (x * 4503599627370496)).trans (wrap_wd _)
  unfold quadratref01_bits.f
  rw [d1, bs, e1, e2, if_pos (by omega), if_pos (by omega), e3, e4, wrap_wd, wrap_wd, wrap_wd]
  have w1 : wd s = s := by unfold wd; omega
  have w1' : wd e = e := by unfold wd; omega
  have w1'' : wd f = f := by unfold wd; omega
  have w2 : wd (wd s * 9223372036854775808) = s * 9223372036854775808 := by rw [w1]; unfold wd; omega
  have w3 : wd (wd e * 4503599627370496) = e * 4503599627370496 := by rw [w1']; unfold wd; omega
  rw [w2, w3, w1'', or_add (s * 9223372036854775808) (e * 4503599627370496) 63 (by omega) (by omega) (by omega) (by omega) (by omega) (by omega),
    or_add (s * 9223372036854775808 + e * 4503599627370496) f 52 (by omega) (by omega) (by omega) (by omega) (by omega) (by omega)]
theorem size_8 (a : Int) : quadratref01_size.f 8 a = some (wd a % 9223372036854775808) := by
  obtain ⟨h0, h1⟩ := wd_bd a
  have e1 : wrap64 (wrap64 (8 * 8) - 1) = 63 := by kernel_rfl
  have e2 : IntKind.u64.wrap (shl .u64 1 63 - 1) = 9223372036854775808 - 1 := by kernel_rfl
  have e3 : Go.bits .and .u64 (wd a) (9223372036854775808 - 1) = wd a % 9223372036854775808 := and_mask _ 63 (by omega) (by omega) (by omega)
  unfold quadratref01_size.f
  rw [e1, if_pos (by omega), e2, wrap_wd, e3]
  congr 1
  exact w64_id (by omega) (by omega)
theorem rk_8 : RK 8 53 1023 9223372036854775808 where
  p0 := by decide
  p1 := by decide
  b0 := by decide
  b1 := by decide
  dig := by kernel_rfl
  bia := by kernel_rfl
  lea := by kernel_rfl
  bit := fun s e f hs he0 he1 hf0 hf1 => by
    have h : ((2 ^ (53 - 1) : Nat) : Int) = 4503599627370496 := by decide
    rw [h] at hf1 ⊢
    exact bit_8 s e f hs he0 (by omega) hf0 hf1
  all := by kernel_rfl
  qui := by kernel_rfl
  zer := fun s hs => by rcases hs with rfl | rfl <;> kernel_rfl
  siz := size_8
  t0 := by decide
theorem none_8 (m : Int) : float_shape_none.f 53 11 m = some (wrap64 ((if m = 2 then 1 else 0) * 9223372036854775808)) := by
  unfold float_shape_none.f
  by_cases h : m = 2
  · rw [if_pos h, if_pos h]; kernel_rfl
  · rw [if_neg h, if_neg h]; kernel_rfl
theorem pk_8 : PK 53 11 1023 9223372036854775808 where
  p0 := by decide
  p1 := by decide
  b0 := by decide
  b1 := by decide
  top := by kernel_rfl
  bia := by kernel_rfl
  lea := by kernel_rfl
  pac := fun s e f hs he0 he1 hf0 hf1 => by
    have h : ((2 ^ (53 - 1) : Nat) : Int) = 4503599627370496 := by decide
    rw [h] at hf1 ⊢
    exact pack_8 s e f hs he0 (by omega) hf0 hf1
  inf := fun s hs => by rcases hs with rfl | rfl <;> kernel_rfl
  gre := fun s hs => by rcases hs with rfl | rfl <;> kernel_rfl
  qui := by kernel_rfl
  zer := fun s hs => by rcases hs with rfl | rfl <;> kernel_rfl
  non := none_8
  pla := place_8

end Go.Proofs.YtgpnmifejgdipaaDoor.Pf
