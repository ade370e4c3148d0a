/-
  Plain numbers: what the masks and shifts of 64 bits come to. By the session's own hand.
-/
import Derived.Test.YtgpnmifejgdipaaDoorDf
import Derived.Laws.BitsAllLaws
namespace Go.Proofs.YtgpnmifejgdipaaDoor.Pf
open Go.RowKit Go.Proofs.YtgpnmifejgdipaaDoorW.PrintWords Go.Proofs.YtgpnmifejgdipaaDoorW.PrintLast Go.Proofs.YtgpnmifejgdipaaDoorW.PrintMore

/-- Said without 'rfl', so that simp does not leave it to the kernel. -/
theorem bs {α β : Type} (x : α) (f : α → Option β) : (some x).bind f = f x := by
  generalize h : some x = y
  subst h
  rfl
/-- More rounds tell the same. -/
theorem atm {α : Type} {g : Nat → Option α} (h : ∀ k r, g k = some r → g (k + 1) = some r) {k : Nat} {r : α} (hr : g k = some r) : ∀ j, g (k + j) = some r
  | 0 => hr
  | j + 1 => h _ _ (atm h hr j)
theorem atle {α : Type} {g : Nat → Option α} (h : ∀ k r, g k = some r → g (k + 1) = some r) {k : Nat} {r : α} (hr : g k = some r) (m : Nat) (hm : k ≤ m) : g m = some r := by
  obtain ⟨j, rfl⟩ : ∃ j, m = k + j := ⟨m - k, by omega⟩
  exact atm h hr j
theorem wrap_u64 (n : Int) : IntKind.u64.wrap n = n % 18446744073709551616 := by simp [IntKind.wrap, IntKind.bits, IntKind.signed]
theorem w64_id {n : Int} (h0 : -9223372036854775808 ≤ n) (h1 : n < 9223372036854775808) : wrap64 n = n := by unfold wrap64; omega
/-- A mask of the lowest digits. -/
theorem and_mask (x : Int) (n : Nat) (hn : n < 64) (h0 : 0 ≤ x) (h1 : x < 18446744073709551616) : Go.bits .and .u64 x (2 ^ n - 1) = x % 2 ^ n := by
  have hp : (2 : Nat) ^ n < 18446744073709551616 := Nat.pow_lt_pow_right (by omega) hn
  have hp0 := Nat.two_pow_pos n
  have e : ((2 : Int) ^ n - 1) = ((2 ^ n - 1 : Nat) : Int) := by
    rw [Int.ofNat_sub hp0]; simp
  rw [u64_and x _ h0 h1 (by rw [e]; omega) (by rw [e]; omega), e, Int.toNat_natCast, Nat.and_two_pow_sub_one_eq_mod]
  rw [Int.natCast_emod]
  simp [Int.toNat_of_nonneg h0]
theorem or_add (x y : Int) (n : Nat) (hx : x % 2 ^ n = 0) (hx0 : 0 ≤ x) (hx1 : x < 18446744073709551616) (hy0 : 0 ≤ y) (hy : y < 2 ^ n) (hy1 : y < 18446744073709551616) : Go.bits .or .u64 x y = x + y := by
  rw [u64_or x y hx0 hx1 hy0 hy1]
  obtain ⟨a, rfl⟩ := Int.eq_ofNat_of_zero_le hx0
  obtain ⟨b, rfl⟩ := Int.eq_ofNat_of_zero_le hy0
  simp only [Int.toNat_natCast]
  rw [nat_join n a b (by have : ((a % 2 ^ n : Nat) : Int) = 0 := by rw [Int.natCast_emod]; simpa using hx
                         omega) (by have : (b : Int) < ((2 ^ n : Nat) : Int) := by simpa using hy
                                    omega)]
  simp
theorem or_split (x y : Int) (n : Nat) (hx : x % 2 ^ n = 0) (hx0 : 0 ≤ x) (hx1 : x < 18446744073709551616) (hy0 : 0 ≤ y) (hy : y < 2 ^ n) (hy1 : y < 18446744073709551616) : Go.bits .or .u64 y x = x + y := by
  have hc : Go.bits .or .u64 y x = Go.bits .or .u64 x y := by rw [u64_or _ _ hy0 hy1 hx0 hx1, u64_or _ _ hx0 hx1 hy0 hy1, Nat.or_comm]
  rw [hc, or_add x y n hx hx0 hx1 hy0 hy hy1]
end Go.Proofs.YtgpnmifejgdipaaDoor.Pf
