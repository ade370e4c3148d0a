/-
  What float.two, place, pack and their like come to. By the session's own hand (printed by gen_d.py).
-/
import Derived.Test.YtgpnmifejgdipaaDoorSPb
import Derived.Test.YtgpnmifejgdipaaDoorDf
namespace Go.Proofs.YtgpnmifejgdipaaDoor.Pf
open Go.RowKit Go.Proofs.YtgpnmifejgdipaaDoor.My Go.Proofs.YtgpnmifejgdipaaDoorW.PrintWords Go.Proofs.YtgpnmifejgdipaaDoorW.PrintLast Go.Proofs.YtgpnmifejgdipaaDoorW.PrintMore

/-- What two hands back. -/
def twv (p w : Int) (x y : Int × Int × Int × Int × Bool) : Int × Int × Int × Int × Int × Int × Int × Int × Int × Int × Bool :=
  (p, w, x.1, x.2.1, x.2.2.1, x.2.2.2.1, y.1, y.2.1, y.2.2.1, y.2.2.2.1, x.2.2.2.2 && y.2.2.2.2)
theorem rdv_ok (P W lst off u : Int) : (rdv P W lst off u).2.2.2.2 = true := by unfold rdv; dsimp only; (repeat' split) <;> rfl
theorem two_none (k : Nat) (kind mode a b : Int) (h2 : kind ≠ 2) (h4 : kind ≠ 4) (h8 : kind ≠ 8) : float_two.f k kind mode a b = some (0, 0, 0, 0, 0, 0, 0, 0, 0, 0, false) := by
  unfold float_two.f float_of.f
  rw [if_neg h2, if_neg h4, if_neg h8]; rfl

theorem two_2 (k : Nat) (mode a b : Int) (m0 : 0 ≤ mode) (m1 : mode < 4) (h0 : 0 ≤ a) (h1 : a < 65536) (g0 : 0 ≤ b) (g1 : b < 65536) : float_two.f (k + 3) 2 mode a b = some (twv 11 5 (rdv 1024 32 (-24) (-25) (wd a)) (rdv 1024 32 (-24) (-25) (wd b))) := by
  have e1 : float_of.f 2 = some (11, 5, true) := by kernel_rfl
  unfold float_two.f
  simp only [e1, bs, read_11 k a h0 h1, read_11 k b g0 g1]
  rw [if_neg (by decide), if_neg (by omega), if_neg (by omega)]
  rfl
theorem two_mode_2 (k : Nat) (mode a b : Int) (m : mode < 0 ∨ 4 ≤ mode) : float_two.f k 2 mode a b = some (11, 5, 0, 0, 0, 0, 0, 0, 0, 0, false) := by
  have e1 : float_of.f 2 = some (11, 5, true) := by kernel_rfl
  unfold float_two.f
  simp only [e1, bs]
  rw [if_neg (by decide)]
  by_cases h : mode < 0
  · rw [if_pos h]
  · rw [if_neg h, if_pos (by omega)]
theorem place_2 (a : Int) : float_shape_place.f 11 5 a = some (if wd a / 32768 % 2 = 1 then wrap64 (-(wd a % 32768)) else wd a % 32768) := by
  obtain ⟨hu0, hu1⟩ := wd_bd a
  have e1 : wrap64 (wrap64 (11 + 5) - 1) = 15 := by kernel_rfl
  have e2 : ∀ x : Int, shr .u64 x 15 = x / 32768 := fun x => by kernel_rfl
  have e3 : wd (shl .u64 1 15 - 1) = 32767 := by kernel_rfl
  have hS : Go.bits .and .u64 (wd a / 32768) 1 = wd a / 32768 % 2 := and_mask _ 1 (by omega) (by omega) (by omega)
  have hM : Go.bits .and .u64 (wd a) 32767 = wd a % 32768 := and_mask _ 15 (by omega) (by omega) (by omega)
  have hM' : wrap64 (wd a % 32768) = wd a % 32768 := w64_id (by omega) (by omega)
  unfold float_shape_place.f
  simp only [e1, e2, wrap_wd, e3, hS, hM, hM']
  rw [if_pos (by omega)]
  split <;> rfl
theorem pack_2 (s e f : Int) (hs : s = 0 ∨ s = 1) (he0 : 0 ≤ e) (he1 : e < 32) (hf0 : 0 ≤ f) (hf1 : f < 1024) : float_shape_pack.f 11 5 s e f = some (wrap64 (s * 32768 + e * 1024 + f)) := by
  have e1 : wrap64 (wrap64 (11 + 5) - 1) = 15 := by kernel_rfl
  have e2 : wrap64 (11 - 1) = 10 := by kernel_rfl
  have e3 : ∀ x : Int, shl .u64 x 15 = wd (x * 32768) := fun x => (by kernel_rfl : shl .u64 x 15 = IntKind.u64.wrap (x * 32768)).trans (wrap_wd _)
  have e4 : ∀ x : Int, shl .u64 x 10 = wd (x * 1024) := fun x => (by kernel_rfl : shl .u64 x 10 = IntKind.u64.wrap (x * 1024)).trans (wrap_wd _)
  unfold float_shape_pack.f
  rw [e1, e2, if_pos (by omega), if_pos (by omega), e3, e4, wrap_wd]
  have w1 : wd s = s := by unfold wd; omega
  have w2 : wd (wd s * 32768) = s * 32768 := by rw [w1]; unfold wd; omega
  have w3 : wd (e * 1024) = e * 1024 := by unfold wd; omega
  rw [w2, w3, or_add (s * 32768) (e * 1024) 15 (by omega) (by omega) (by omega) (by omega) (by omega) (by omega),
    or_add (s * 32768 + e * 1024) f 10 (by omega) (by omega) (by omega) (by omega) (by omega) (by omega)]
theorem quiet_2 : float_shape_quiet.f 11 5 = some (31744 + 512) := by kernel_rfl
theorem zero_2 (s : Int) (hs : s = 0 ∨ s = 1) : float_shape_zero.f 11 5 s = some (wrap64 (s * 32768)) := by
  unfold float_shape_zero.f
  rw [pack_2 s 0 0 hs (by omega) (by omega) (by omega) (by omega)]
  simp

theorem two_bad_2 (k : Nat) (mode a b : Int) (m0 : 0 ≤ mode) (m1 : mode < 4) (ha0 : -9223372036854775808 ≤ a) (ha1 : a < 9223372036854775808) (hb0 : -9223372036854775808 ≤ b) (hb1 : b < 9223372036854775808) (h : ¬ (0 ≤ a ∧ a < 65536) ∨ ¬ (0 ≤ b ∧ b < 65536)) :
    ∃ x1 x2 x3 x4 y1 y2 y3 y4, float_two.f (k + 3) 2 mode a b = some (11, 5, x1, x2, x3, x4, y1, y2, y3, y4, false) := by
  have e1 : float_of.f 2 = some (11, 5, true) := by kernel_rfl
  have hr : ∀ c : Int, -9223372036854775808 ≤ c → c < 9223372036854775808 → ∃ z, float_shape_read.f (k + 3) 11 5 c = some z ∧ (¬ (0 ≤ c ∧ c < 65536) → z.2.2.2.2 = false) := by
    intro c c0 c1
    by_cases hc : 0 ≤ c ∧ c < 65536
    · exact ⟨_, read_11 k c hc.1 hc.2, fun hn => absurd hc hn⟩
    · exact ⟨_, read_bad_11 k c c0 c1 hc, fun _ => rfl⟩
  obtain ⟨x, hx, hx'⟩ := hr a ha0 ha1
  obtain ⟨y, hy, hy'⟩ := hr b hb0 hb1
  have hok : (x.2.2.2.2 && y.2.2.2.2) = false := by
    rcases h with h | h
    · rw [hx' h]; rfl
    · rw [hy' h]; simp
  refine ⟨x.1, x.2.1, x.2.2.1, x.2.2.2.1, y.1, y.2.1, y.2.2.1, y.2.2.2.1, ?_⟩
  unfold float_two.f
  simp only [e1, bs, hx, hy, hok]
  rw [if_neg (by decide), if_neg (by omega), if_neg (by omega)]

theorem two_4 (k : Nat) (mode a b : Int) (m0 : 0 ≤ mode) (m1 : mode < 4) (h0 : 0 ≤ a) (h1 : a < 4294967296) (g0 : 0 ≤ b) (g1 : b < 4294967296) : float_two.f (k + 3) 4 mode a b = some (twv 24 8 (rdv 8388608 256 (-149) (-150) (wd a)) (rdv 8388608 256 (-149) (-150) (wd b))) := by
  have e1 : float_of.f 4 = some (24, 8, true) := by kernel_rfl
  unfold float_two.f
  simp only [e1, bs, read_24 k a h0 h1, read_24 k b g0 g1]
  rw [if_neg (by decide), if_neg (by omega), if_neg (by omega)]
  rfl
theorem two_mode_4 (k : Nat) (mode a b : Int) (m : mode < 0 ∨ 4 ≤ mode) : float_two.f k 4 mode a b = some (24, 8, 0, 0, 0, 0, 0, 0, 0, 0, false) := by
  have e1 : float_of.f 4 = some (24, 8, true) := by kernel_rfl
  unfold float_two.f
  simp only [e1, bs]
  rw [if_neg (by decide)]
  by_cases h : mode < 0
  · rw [if_pos h]
  · rw [if_neg h, if_pos (by omega)]
theorem place_4 (a : Int) : float_shape_place.f 24 8 a = some (if wd a / 2147483648 % 2 = 1 then wrap64 (-(wd a % 2147483648)) else wd a % 2147483648) := by
  obtain ⟨hu0, hu1⟩ := wd_bd a
  have e1 : wrap64 (wrap64 (24 + 8) - 1) = 31 := by kernel_rfl
  have e2 : ∀ x : Int, shr .u64 x 31 = x / 2147483648 := fun x => by kernel_rfl
  have e3 : wd (shl .u64 1 31 - 1) = 2147483647 := by kernel_rfl
  have hS : Go.bits .and .u64 (wd a / 2147483648) 1 = wd a / 2147483648 % 2 := and_mask _ 1 (by omega) (by omega) (by omega)
  have hM : Go.bits .and .u64 (wd a) 2147483647 = wd a % 2147483648 := and_mask _ 31 (by omega) (by omega) (by omega)
  have hM' : wrap64 (wd a % 2147483648) = wd a % 2147483648 := w64_id (by omega) (by omega)
  unfold float_shape_place.f
  simp only [e1, e2, wrap_wd, e3, hS, hM, hM']
  rw [if_pos (by omega)]
  split <;> rfl
theorem pack_4 (s e f : Int) (hs : s = 0 ∨ s = 1) (he0 : 0 ≤ e) (he1 : e < 256) (hf0 : 0 ≤ f) (hf1 : f < 8388608) : float_shape_pack.f 24 8 s e f = some (wrap64 (s * 2147483648 + e * 8388608 + f)) := by
  have e1 : wrap64 (wrap64 (24 + 8) - 1) = 31 := by kernel_rfl
  have e2 : wrap64 (24 - 1) = 23 := by kernel_rfl
  have e3 : ∀ x : Int, shl .u64 x 31 = wd (x * 2147483648) := fun x => (by kernel_rfl : shl .u64 x 31 = IntKind.u64.wrap (x * 2147483648)).trans (wrap_wd _)
  have e4 : ∀ x : Int, shl .u64 x 23 = wd (x * 8388608) := fun x => (by kernel_rfl : shl .u64 x 23 = IntKind.u64.wrap (x * 8388608)).trans (wrap_wd _)
  unfold float_shape_pack.f
  rw [e1, e2, if_pos (by omega), if_pos (by omega), e3, e4, wrap_wd]
  have w1 : wd s = s := by unfold wd; omega
  have w2 : wd (wd s * 2147483648) = s * 2147483648 := by rw [w1]; unfold wd; omega
  have w3 : wd (e * 8388608) = e * 8388608 := by unfold wd; omega
  rw [w2, w3, or_add (s * 2147483648) (e * 8388608) 31 (by omega) (by omega) (by omega) (by omega) (by omega) (by omega),
    or_add (s * 2147483648 + e * 8388608) f 23 (by omega) (by omega) (by omega) (by omega) (by omega) (by omega)]
theorem quiet_4 : float_shape_quiet.f 24 8 = some (2139095040 + 4194304) := by kernel_rfl
theorem zero_4 (s : Int) (hs : s = 0 ∨ s = 1) : float_shape_zero.f 24 8 s = some (wrap64 (s * 2147483648)) := by
  unfold float_shape_zero.f
  rw [pack_4 s 0 0 hs (by omega) (by omega) (by omega) (by omega)]
  simp

theorem two_bad_4 (k : Nat) (mode a b : Int) (m0 : 0 ≤ mode) (m1 : mode < 4) (ha0 : -9223372036854775808 ≤ a) (ha1 : a < 9223372036854775808) (hb0 : -9223372036854775808 ≤ b) (hb1 : b < 9223372036854775808) (h : ¬ (0 ≤ a ∧ a < 4294967296) ∨ ¬ (0 ≤ b ∧ b < 4294967296)) :
    ∃ x1 x2 x3 x4 y1 y2 y3 y4, float_two.f (k + 3) 4 mode a b = some (24, 8, x1, x2, x3, x4, y1, y2, y3, y4, false) := by
  have e1 : float_of.f 4 = some (24, 8, true) := by kernel_rfl
  have hr : ∀ c : Int, -9223372036854775808 ≤ c → c < 9223372036854775808 → ∃ z, float_shape_read.f (k + 3) 24 8 c = some z ∧ (¬ (0 ≤ c ∧ c < 4294967296) → z.2.2.2.2 = false) := by
    intro c c0 c1
    by_cases hc : 0 ≤ c ∧ c < 4294967296
    · exact ⟨_, read_24 k c hc.1 hc.2, fun hn => absurd hc hn⟩
    · exact ⟨_, read_bad_24 k c c0 c1 hc, fun _ => rfl⟩
  obtain ⟨x, hx, hx'⟩ := hr a ha0 ha1
  obtain ⟨y, hy, hy'⟩ := hr b hb0 hb1
  have hok : (x.2.2.2.2 && y.2.2.2.2) = false := by
    rcases h with h | h
    · rw [hx' h]; rfl
    · rw [hy' h]; simp
  refine ⟨x.1, x.2.1, x.2.2.1, x.2.2.2.1, y.1, y.2.1, y.2.2.1, y.2.2.2.1, ?_⟩
  unfold float_two.f
  simp only [e1, bs, hx, hy, hok]
  rw [if_neg (by decide), if_neg (by omega), if_neg (by omega)]

theorem two_8 (k : Nat) (mode a b : Int) (m0 : 0 ≤ mode) (m1 : mode < 4) : float_two.f (k + 3) 8 mode a b = some (twv 53 11 (rdv 4503599627370496 2048 (-1074) (-1075) (wd a)) (rdv 4503599627370496 2048 (-1074) (-1075) (wd b))) := by
  have e1 : float_of.f 8 = some (53, 11, true) := by kernel_rfl
  unfold float_two.f
  simp only [e1, bs, read_53 k a , read_53 k b ]
  rw [if_neg (by decide), if_neg (by omega), if_neg (by omega)]
  rfl
theorem two_mode_8 (k : Nat) (mode a b : Int) (m : mode < 0 ∨ 4 ≤ mode) : float_two.f k 8 mode a b = some (53, 11, 0, 0, 0, 0, 0, 0, 0, 0, false) := by
  have e1 : float_of.f 8 = some (53, 11, true) := by kernel_rfl
  unfold float_two.f
  simp only [e1, bs]
  rw [if_neg (by decide)]
  by_cases h : mode < 0
  · rw [if_pos h]
  · rw [if_neg h, if_pos (by omega)]
theorem place_8 (a : Int) : float_shape_place.f 53 11 a = some (if wd a / 9223372036854775808 % 2 = 1 then wrap64 (-(wd a % 9223372036854775808)) else wd a % 9223372036854775808) := by
  obtain ⟨hu0, hu1⟩ := wd_bd a
  have e1 : wrap64 (wrap64 (53 + 11) - 1) = 63 := by kernel_rfl
  have e2 : ∀ x : Int, shr .u64 x 63 = x / 9223372036854775808 := fun x => by kernel_rfl
  have e3 : wd (shl .u64 1 63 - 1) = 9223372036854775807 := by kernel_rfl
  have hS : Go.bits .and .u64 (wd a / 9223372036854775808) 1 = wd a / 9223372036854775808 % 2 := and_mask _ 1 (by omega) (by omega) (by omega)
  have hM : Go.bits .and .u64 (wd a) 9223372036854775807 = wd a % 9223372036854775808 := and_mask _ 63 (by omega) (by omega) (by omega)
  have hM' : wrap64 (wd a % 9223372036854775808) = wd a % 9223372036854775808 := w64_id (by omega) (by omega)
  unfold float_shape_place.f
  simp only [e1, e2, wrap_wd, e3, hS, hM, hM']
  rw [if_pos (by omega)]
  split <;> rfl
theorem pack_8 (s e f : Int) (hs : s = 0 ∨ s = 1) (he0 : 0 ≤ e) (he1 : e < 2048) (hf0 : 0 ≤ f) (hf1 : f < 4503599627370496) : float_shape_pack.f 53 11 s e f = some (wrap64 (s * 9223372036854775808 + e * 4503599627370496 + f)) := by
  have e1 : wrap64 (wrap64 (53 + 11) - 1) = 63 := by kernel_rfl
  have e2 : wrap64 (53 - 1) = 52 := by kernel_rfl
  have e3 : ∀ x : Int, shl .u64 x 63 = wd (x * 9223372036854775808) := fun x => (by kernel_rfl : shl .u64 x 63 = IntKind.u64.wrap (x * 9223372036854775808)).trans (wrap_wd _)
  have e4 : ∀ x : Int, shl .u64 x 52 = wd (x * 4503599627370496) := fun x => (by kernel_rfl : shl .u64 x 52 = IntKind.u64.wrap (x * 4503599627370496)).trans (wrap_wd _)
  unfold float_shape_pack.f
  rw [e1, e2, if_pos (by omega), if_pos (by omega), e3, e4, wrap_wd]
  have w1 : wd s = s := by unfold wd; omega
  have w2 : wd (wd s * 9223372036854775808) = s * 9223372036854775808 := by rw [w1]; unfold wd; omega
  have w3 : wd (e * 4503599627370496) = e * 4503599627370496 := by unfold wd; omega
  rw [w2, w3, or_add (s * 9223372036854775808) (e * 4503599627370496) 63 (by omega) (by omega) (by omega) (by omega) (by omega) (by omega),
    or_add (s * 9223372036854775808 + e * 4503599627370496) f 52 (by omega) (by omega) (by omega) (by omega) (by omega) (by omega)]
theorem quiet_8 : float_shape_quiet.f 53 11 = some (9218868437227405312 + 2251799813685248) := by kernel_rfl
theorem zero_8 (s : Int) (hs : s = 0 ∨ s = 1) : float_shape_zero.f 53 11 s = some (wrap64 (s * 9223372036854775808)) := by
  unfold float_shape_zero.f
  rw [pack_8 s 0 0 hs (by omega) (by omega) (by omega) (by omega)]
  simp

end Go.Proofs.YtgpnmifejgdipaaDoor.Pf
