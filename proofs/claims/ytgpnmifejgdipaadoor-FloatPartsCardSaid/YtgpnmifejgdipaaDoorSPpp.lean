/-
  FloatParts: what a float consists of, its opposite, its size and its class. By the session's own hand (printed by gen_pp.py).
-/
import Derived.Test.YtgpnmifejgdipaaDoorSPbk
import Derived.Test.YtgpnmifejgdipaaDoorSPaw
import Derived.Lib.TrailingZeros
import Derived.Test.YtgpnmifejgdipaaDoorDf
set_option linter.unusedVariables false
set_option linter.unusedSimpArgs false
namespace Go.Proofs.YtgpnmifejgdipaaDoor.Pf
open Go.RowKit Go.Proofs.YtgpnmifejgdipaaDoor.My Go.Proofs.YtgpnmifejgdipaaDoor.RM Go.Proofs.YtgpnmifejgdipaaDoorW.PrintWords Go.Proofs.YtgpnmifejgdipaaDoorW.PrintLast Go.Proofs.YtgpnmifejgdipaaDoorW.PrintMore
theorem ifp {α : Type} {c : Prop} {d : Decidable c} {a b : α} (h : c) : @ite α c d a b = a := by
  cases d with
  | isTrue g => rfl
  | isFalse g => exact absurd h g
theorem ifn {α : Type} {c : Prop} {d : Decidable c} {a b : α} (h : ¬ c) : @ite α c d a b = b := by
  cases d with
  | isTrue g => exact absurd g h
  | isFalse g => rfl
theorem tz_odd (m : Nat) (h0 : m ≠ 0) (h1 : m < 9007199254740992) : ∃ q n : Nat, m = (2 * q + 1) * 2 ^ n ∧ n < 64 ∧ bits_TrailingZeros64.f (m : Int) = some (n : Int) ∧ wrap64 (shr .u64 (m : Int) (n : Int)) = ((2 * q + 1 : Nat) : Int) := by
  obtain ⟨q, hq, hn⟩ := Lib.ctzFrom_spec 64 m (by omega) (by omega)
  have e : Lib.ctz 64 m = Lib.ctzFrom 64 m := by simp [Lib.ctz, h0]
  have hm : m = (2 * q + 1) * 2 ^ Lib.ctzFrom 64 m := by rw [Nat.mul_comm]; exact hq
  generalize Lib.ctzFrom 64 m = n at *
  refine ⟨q, n, hm, hn, ?_, ?_⟩
  · unfold bits_TrailingZeros64.f
    rw [if_pos (by omega), Int.toNat_natCast, e]
  · have hd : m / 2 ^ n = 2 * q + 1 := by
      rw [hm]; exact Nat.mul_div_cancel _ (Nat.two_pow_pos n)
    have hs : shr .u64 (m : Int) (n : Int) = ((m / 2 ^ n : Nat) : Int) := by
      unfold shr
      rw [Int.toNat_natCast, show min n IntKind.u64.bits = n from Nat.min_eq_left (by show n ≤ 64; omega)]
      push_cast; rfl
    have hle : m / 2 ^ n ≤ m := Nat.div_le_self ..
    rw [hs, hd, w64_id (by omega) (by omega)]
theorem rparts_l0 (q n m : Nat) (hm : m = (2 * q + 1) * 2 ^ n) (hm1 : m < 9007199254740992) (w : ByteArray) (s e : Int) : ∀ (j i k : Nat), i + j = n → j + 80 ≤ k → quadratref01_Parts.l0 k (i : Int) w s (nat m) e = some (s, ((2 * q + 1 : Nat) : Int), wrap64 (e + n), 0) := by
  have hle : 2 ^ n ≤ m := by rw [hm]; exact Nat.le_mul_of_pos_left _ (by omega)
  have hb : n < blen m := lt_blen.2 hle
  have hb1 : blen m ≤ 53 := blen_le.2 hm1
  intro j
  induction j with
  | zero =>
    intro i k hij hk
    obtain ⟨k, rfl⟩ : ∃ r, k = r + 1 := ⟨k - 1, by omega⟩
    have hi : i = n := by omega
    subst hi
    have hd : m / 2 ^ i = 2 * q + 1 := by rw [hm]; exact Nat.mul_div_cancel _ (Nat.two_pow_pos i)
    have hr : rd (nat m) (i : Int) = ((m / 2 ^ i % 2 : Nat) : Int) := by unfold rd; rw [Int.toNat_natCast, getD_nat]
    have hq : 2 * q + 1 ≤ m := by rw [← hd]; exact Nat.div_le_self ..
    simp only [quadratref01_Parts.l0, length_nat]
    rw [if_pos (by omega), if_pos (by omega), hr, hd, if_neg (by omega), down_nat m i (by omega), bs, hd, int_nat _ _ (by omega) (by omega), bs, w64n _ (by omega)]
  | succ j ih =>
    intro i k hij hk
    have g1 : (0 : Int) ≤ (i : Int) := Int.natCast_nonneg i
    have g2 : (i : Int) < (blen m : Int) := by clear hm hm1 hle; omega
    have h := ih (i + 1) (k - 1) (by clear hm hm1 hle; omega) (by clear hm hm1 hle; omega)
    obtain ⟨k, rfl⟩ : ∃ r, k = r + 1 := ⟨k - 1, by omega⟩
    have hr : rd (nat m) (i : Int) = ((m / 2 ^ i % 2 : Nat) : Int) := by unfold rd; rw [Int.toNat_natCast, getD_nat]
    have hd : m / 2 ^ i % 2 = 0 := by
      have : m = ((2 * q + 1) * 2 ^ j * 2) * 2 ^ i := by
        rw [hm, ← hij, show i + (j + 1) = j + 1 + i by omega, Nat.pow_add, Nat.pow_succ]; simp only [Nat.mul_assoc]
      rw [this, Nat.mul_div_cancel _ (Nat.two_pow_pos i), Nat.mul_mod_left]
    have e4 : wrap64 ((i : Int) + 1) = ((i + 1 : Nat) : Int) := by clear hd hr h hm hm1 hle; rw [w64_id (by omega) (by omega)]; omega
    simp only [quadratref01_Parts.l0, length_nat]
    rw [if_pos g1, if_pos g2, hr, hd, if_pos (by rfl), e4]
    exact h
/-- A kind: what the four functions ask of it. -/
structure XK (V : Int → Prop) (kind : Int) (p : Nat) (w bias T P W l o : Int) : Prop where
  bk : BK V kind p w bias T P W l o
  rk : RK kind p bias T
  tak : ∀ (k : Nat) (a : Int), quadratref01_taken.f (k + 72) kind a = some (tkv P W l o (wd a))
  val : ∀ a, V a → quadratref01_Valid.f kind a = some true
  sig : ∀ a, (rdv P W l o (wd a)).2.1 = wd a / T % 2
  sg0 : 0 ≤ wrap64 (wrap64 ((p : Int) + w) - 1)
  sgn : ∀ (a g : Int), (g = 0 ∨ g = 1) → wrap64 (Go.bits .or .u64 (shl .u64 (IntKind.u64.wrap g) (wrap64 (wrap64 ((p : Int) + w) - 1))) (Go.bits .and .u64 (IntKind.u64.wrap a) (IntKind.u64.wrap (shl .u64 1 (wrap64 (wrap64 ((p : Int) + w) - 1)) - 1)))) = wrap64 (g * T + wd a % T)
  ng0 : 0 ≤ wrap64 (wrap64 (8 * kind) - 1)
  neg : ∀ a, V a → wrap64 (Go.bits .xor .u64 (IntKind.u64.wrap a) (shl .u64 1 (wrap64 (wrap64 (8 * kind) - 1)))) = wrap64 ((1 - wd a / T % 2) * T + wd a % T)
  siz : ∀ a, wrap64 (0 * T + wd a % T) = wd a % T
  lo : ∀ (a s : Int) (m : Nat) (x : Int), rdv P W l o (wd a) = (1, s, (m : Int), x, true) → l ≤ x → ((m : Int) < P ↔ wd a % T < P)
  ll : l = 2 - bias - p
  c1 : 0 ≤ wrap64 ((p : Int) - 1)
  c2 : shl .u64 1 (wrap64 ((p : Int) - 1)) = P
  c3 : shl .i64 1 (wrap64 ((p : Int) - 1)) = P

theorem xor_2 (u : Int) (h0 : 0 ≤ u) (h1 : u < 65536) : Go.bits .xor .u64 u 32768 = (1 - u / 32768 % 2) * 32768 + u % 32768 := by
  obtain ⟨v, rfl⟩ := Int.eq_ofNat_of_zero_le h0
  have e : ((32768 : Nat) : Int) = 32768 := by decide +kernel
  rw [← e, u64_xor_nat v 32768 (by omega) (by decide)]
  have hm : (v ^^^ 32768) % 32768 = v % 32768 := by
    have := @Nat.xor_mod_two_pow v 32768 15
    rw [show (2 : Nat) ^ 15 = 32768 by decide +kernel, Nat.mod_self, Nat.xor_zero] at this
    exact this
  have hd : (v ^^^ 32768) / 32768 = v / 32768 ^^^ 1 := by
    have := @Nat.xor_div_two_pow v 32768 15
    rw [show (2 : Nat) ^ 15 = 32768 by decide +kernel, Nat.div_self (by decide)] at this
    exact this
  have hx : v / 32768 ^^^ 1 = 1 - v / 32768 := by
    have : v / 32768 = 0 ∨ v / 32768 = 1 := by omega
    rcases this with h | h <;> rw [h] <;> rfl
  rw [hx] at hd
  have h2 := Nat.div_add_mod (v ^^^ 32768) 32768
  rw [hm, hd] at h2
  omega
theorem xk_2 : XK U2 2 11 5 15 32768 1024 32 (-24) (-25) where
  bk := bk_2
  rk := rk_2
  tak := taken_2
  val := fun a ha => by
    first
    | exact valid_2 a
    | (rw [valid_2 a, decide_eq_true]; exact ha)
  sig := fun a => (more_2 (wd a)).1
  sg0 := by decide +kernel
  sgn := fun a g hg => by
    obtain ⟨hu0, hu1⟩ := wd_bd a
    have e1 : wrap64 (wrap64 (((11 : Nat) : Int) + 5) - 1) = 15 := by kernel_rfl
    have e3 : IntKind.u64.wrap (shl .u64 1 15 - 1) = 32767 := by kernel_rfl
    have e4 : ∀ x : Int, shl .u64 x 15 = wd (x * 32768) := fun x => (by kernel_rfl : shl .u64 x 15 = IntKind.u64.wrap (x * 32768)).trans (wrap_wd _)
    have hM : Go.bits .and .u64 (wd a) 32767 = wd a % 32768 := and_mask _ 15 (by omega) (by omega) (by omega)
    have w1 : wd g = g := by unfold wd; omega
    have w2 : wd (g * 32768) = g * 32768 := by unfold wd; omega
    rw [e1, e3, wrap_wd, wrap_wd, e4, hM, w1, w2]
    rw [or_add (g * 32768) (wd a % 32768) 15 (by rcases hg with rfl | rfl <;> decide +kernel) (by omega) (by omega) (by omega) (by omega) (by omega)]
  ng0 := by decide +kernel
  neg := fun a ha => by
    obtain ⟨hu0, hu1⟩ := wd_bd a
    have ha' : wd a < 65536 := by
      unfold U2 at ha
      unfold wd; omega
    have e1 : wrap64 (wrap64 (8 * 2) - 1) = 15 := by kernel_rfl
    have e2 : shl .u64 1 15 = 32768 := by kernel_rfl
    rw [e1, e2, wrap_wd, xor_2 _ hu0 ha']
  siz := fun a => by
    obtain ⟨hu0, hu1⟩ := wd_bd a
    rw [Int.zero_mul, Int.zero_add, w64_id (by omega) (by omega)]
  lo := fun a s m x h hx => by
    obtain ⟨h1, h2, h3, h4⟩ := rdi_2 _ _ _ _ h
    by_cases c : (m : Int) < 1024
    · rw [if_pos c] at h2
      rw [h2]
    · rw [if_neg c] at h2
      rw [h2]; omega
  ll := by decide +kernel
  c1 := by decide +kernel
  c2 := by kernel_rfl
  c3 := by kernel_rfl

theorem xor_4 (u : Int) (h0 : 0 ≤ u) (h1 : u < 4294967296) : Go.bits .xor .u64 u 2147483648 = (1 - u / 2147483648 % 2) * 2147483648 + u % 2147483648 := by
  obtain ⟨v, rfl⟩ := Int.eq_ofNat_of_zero_le h0
  have e : ((2147483648 : Nat) : Int) = 2147483648 := by decide +kernel
  rw [← e, u64_xor_nat v 2147483648 (by omega) (by decide)]
  have hm : (v ^^^ 2147483648) % 2147483648 = v % 2147483648 := by
    have := @Nat.xor_mod_two_pow v 2147483648 31
    rw [show (2 : Nat) ^ 31 = 2147483648 by decide +kernel, Nat.mod_self, Nat.xor_zero] at this
    exact this
  have hd : (v ^^^ 2147483648) / 2147483648 = v / 2147483648 ^^^ 1 := by
    have := @Nat.xor_div_two_pow v 2147483648 31
    rw [show (2 : Nat) ^ 31 = 2147483648 by decide +kernel, Nat.div_self (by decide)] at this
    exact this
  have hx : v / 2147483648 ^^^ 1 = 1 - v / 2147483648 := by
    have : v / 2147483648 = 0 ∨ v / 2147483648 = 1 := by omega
    rcases this with h | h <;> rw [h] <;> rfl
  rw [hx] at hd
  have h2 := Nat.div_add_mod (v ^^^ 2147483648) 2147483648
  rw [hm, hd] at h2
  omega
theorem xk_4 : XK U4 4 24 8 127 2147483648 8388608 256 (-149) (-150) where
  bk := bk_4
  rk := rk_4
  tak := taken_4
  val := fun a ha => by
    first
    | exact valid_4 a
    | (rw [valid_4 a, decide_eq_true]; exact ha)
  sig := fun a => (more_4 (wd a)).1
  sg0 := by decide +kernel
  sgn := fun a g hg => by
    obtain ⟨hu0, hu1⟩ := wd_bd a
    have e1 : wrap64 (wrap64 (((24 : Nat) : Int) + 8) - 1) = 31 := by kernel_rfl
    have e3 : IntKind.u64.wrap (shl .u64 1 31 - 1) = 2147483647 := by kernel_rfl
    have e4 : ∀ x : Int, shl .u64 x 31 = wd (x * 2147483648) := fun x => (by kernel_rfl : shl .u64 x 31 = IntKind.u64.wrap (x * 2147483648)).trans (wrap_wd _)
    have hM : Go.bits .and .u64 (wd a) 2147483647 = wd a % 2147483648 := and_mask _ 31 (by omega) (by omega) (by omega)
    have w1 : wd g = g := by unfold wd; omega
    have w2 : wd (g * 2147483648) = g * 2147483648 := by unfold wd; omega
    rw [e1, e3, wrap_wd, wrap_wd, e4, hM, w1, w2]
    rw [or_add (g * 2147483648) (wd a % 2147483648) 31 (by rcases hg with rfl | rfl <;> decide +kernel) (by omega) (by omega) (by omega) (by omega) (by omega)]
  ng0 := by decide +kernel
  neg := fun a ha => by
    obtain ⟨hu0, hu1⟩ := wd_bd a
    have ha' : wd a < 4294967296 := by
      unfold U4 at ha
      unfold wd; omega
    have e1 : wrap64 (wrap64 (8 * 4) - 1) = 31 := by kernel_rfl
    have e2 : shl .u64 1 31 = 2147483648 := by kernel_rfl
    rw [e1, e2, wrap_wd, xor_4 _ hu0 ha']
  siz := fun a => by
    obtain ⟨hu0, hu1⟩ := wd_bd a
    rw [Int.zero_mul, Int.zero_add, w64_id (by omega) (by omega)]
  lo := fun a s m x h hx => by
    obtain ⟨h1, h2, h3, h4⟩ := rdi_4 _ _ _ _ h
    by_cases c : (m : Int) < 8388608
    · rw [if_pos c] at h2
      rw [h2]
    · rw [if_neg c] at h2
      rw [h2]; omega
  ll := by decide +kernel
  c1 := by decide +kernel
  c2 := by kernel_rfl
  c3 := by kernel_rfl

theorem xor_8 (u : Int) (h0 : 0 ≤ u) (h1 : u < 18446744073709551616) : Go.bits .xor .u64 u 9223372036854775808 = (1 - u / 9223372036854775808 % 2) * 9223372036854775808 + u % 9223372036854775808 := by
  obtain ⟨v, rfl⟩ := Int.eq_ofNat_of_zero_le h0
  have e : ((9223372036854775808 : Nat) : Int) = 9223372036854775808 := by decide +kernel
  rw [← e, u64_xor_nat v 9223372036854775808 (by omega) (by decide)]
  have hm : (v ^^^ 9223372036854775808) % 9223372036854775808 = v % 9223372036854775808 := by
    have := @Nat.xor_mod_two_pow v 9223372036854775808 63
    rw [show (2 : Nat) ^ 63 = 9223372036854775808 by decide +kernel, Nat.mod_self, Nat.xor_zero] at this
    exact this
  have hd : (v ^^^ 9223372036854775808) / 9223372036854775808 = v / 9223372036854775808 ^^^ 1 := by
    have := @Nat.xor_div_two_pow v 9223372036854775808 63
    rw [show (2 : Nat) ^ 63 = 9223372036854775808 by decide +kernel, Nat.div_self (by decide)] at this
    exact this
  have hx : v / 9223372036854775808 ^^^ 1 = 1 - v / 9223372036854775808 := by
    have : v / 9223372036854775808 = 0 ∨ v / 9223372036854775808 = 1 := by omega
    rcases this with h | h <;> rw [h] <;> rfl
  rw [hx] at hd
  have h2 := Nat.div_add_mod (v ^^^ 9223372036854775808) 9223372036854775808
  rw [hm, hd] at h2
  omega
theorem xk_8 : XK U8 8 53 11 1023 9223372036854775808 4503599627370496 2048 (-1074) (-1075) where
  bk := bk_8
  rk := rk_8
  tak := taken_8
  val := fun a ha => by
    first
    | exact valid_8 a
    | (rw [valid_8 a, decide_eq_true]; exact ha)
  sig := fun a => (more_8 (wd a)).1
  sg0 := by decide +kernel
  sgn := fun a g hg => by
    obtain ⟨hu0, hu1⟩ := wd_bd a
    have e1 : wrap64 (wrap64 (((53 : Nat) : Int) + 11) - 1) = 63 := by kernel_rfl
    have e3 : IntKind.u64.wrap (shl .u64 1 63 - 1) = 9223372036854775807 := by kernel_rfl
    have e4 : ∀ x : Int, shl .u64 x 63 = wd (x * 9223372036854775808) := fun x => (by kernel_rfl : shl .u64 x 63 = IntKind.u64.wrap (x * 9223372036854775808)).trans (wrap_wd _)
    have hM : Go.bits .and .u64 (wd a) 9223372036854775807 = wd a % 9223372036854775808 := and_mask _ 63 (by omega) (by omega) (by omega)
    have w1 : wd g = g := by unfold wd; omega
    have w2 : wd (g * 9223372036854775808) = g * 9223372036854775808 := by unfold wd; omega
    rw [e1, e3, wrap_wd, wrap_wd, e4, hM, w1, w2]
    rw [or_add (g * 9223372036854775808) (wd a % 9223372036854775808) 63 (by rcases hg with rfl | rfl <;> decide +kernel) (by omega) (by omega) (by omega) (by omega) (by omega)]
  ng0 := by decide +kernel
  neg := fun a ha => by
    obtain ⟨hu0, hu1⟩ := wd_bd a
    have ha' : wd a < 18446744073709551616 := by
      unfold U8 at ha
      unfold wd; omega
    have e1 : wrap64 (wrap64 (8 * 8) - 1) = 63 := by kernel_rfl
    have e2 : shl .u64 1 63 = 9223372036854775808 := by kernel_rfl
    rw [e1, e2, wrap_wd, xor_8 _ hu0 ha']
  siz := fun a => by
    obtain ⟨hu0, hu1⟩ := wd_bd a
    rw [Int.zero_mul, Int.zero_add, w64_id (by omega) (by omega)]
  lo := fun a s m x h hx => by
    obtain ⟨h1, h2, h3, h4⟩ := rdi_8 _ _ _ _ h
    by_cases c : (m : Int) < 4503599627370496
    · rw [if_pos c] at h2
      rw [h2]
    · rw [if_neg c] at h2
      rw [h2]; omega
  ll := by decide +kernel
  c1 := by decide +kernel
  c2 := by kernel_rfl
  c3 := by kernel_rfl


section
variable {V : Int → Prop} {kind w bias T P W l o : Int} {p : Nat} (H : XK V kind p w bias T P W l o)
include H
theorem two_at (k : Nat) (a : Int) (ha : V a) : float_two.f (k + 3) kind 0 a a = some ((p : Int), w, (rdv P W l o (wd a)).1, (rdv P W l o (wd a)).2.1, (rdv P W l o (wd a)).2.2.1, (rdv P W l o (wd a)).2.2.2.1, (rdv P W l o (wd a)).1, (rdv P W l o (wd a)).2.1, (rdv P W l o (wd a)).2.2.1, (rdv P W l o (wd a)).2.2.2.1, true) := by
  have h := H.bk.two k 0 a a (by decide) (by decide) ha ha
  unfold twv at h
  rw [rdv_ok] at h
  exact h
theorem parts_eq (k : Nat) (a : Int) (ha : V a) : ∃ r, float_Parts.f (k + 400) kind a = some r ∧ quadratref01_Parts.f (k + 400) kind a = some r := by
  have hp1 := H.bk.pkk.p1
  have hp0 := H.bk.pkk.p0; have hb0 := H.bk.pkk.b0; have hb1 := H.bk.pkk.b1
  have hv := H.bk.view a
  have ht := H.tak (k + 328) a
  have h2 := two_at H (k + 397) a ha
  have hok := rdv_ok P W l o (wd a)
  unfold float_Parts.f quadratref01_Parts.f
  rw [show k + 397 + 3 = k + 400 from rfl] at h2
  rw [show k + 328 + 72 = k + 400 from rfl] at ht
  rw [h2, H.val a ha, ht, bs, bs, ifp (show true = true from rfl), bs]
  generalize rdv P W l o (wd a) = x at *
  generalize tkv P W l o (wd a) = x' at *
  dsimp only
  rw [ifp (show true = true from rfl)]
  cases hv with
  | none s hs => exact ⟨(0, 0, 0, 10), rfl, by kernel_rfl⟩
  | inf s hs => exact ⟨(0, 0, 0, 10), rfl, by kernel_rfl⟩
  | zero s hs => exact ⟨(s, 0, 0, 0), rfl, by kernel_rfl⟩
  | fin s hs m e hm0 hm1 he0 he1 hl =>
    have hm53 : m < 9007199254740992 := Nat.lt_of_lt_of_le hm1 (Nat.le_trans (Nat.pow_le_pow_right (by omega) hp1) (by decide))
    obtain ⟨q, n, hm, hn, h1, h2⟩ := tz_odd m hm0 hm53
    refine ⟨(s, ((2 * q + 1 : Nat) : Int), wrap64 (e + n), 0), ?_, ?_⟩
    · try dsimp only
      rw [ifn (by decide)]
      rw [show k + 400 = (k + 399) + 1 from rfl]
      simp only [float_Parts.j0]
      rw [ifn (by decide), ifn (by decide), h1, bs, ifp (by omega), h2]
    · dsimp only
      rw [ifn (by decide +kernel)]
      rw [show k + 400 = (k + 399) + 1 from rfl]
      simp only [quadratref01_Parts.j0]
      rw [ifn (by decide +kernel), ifn (by decide +kernel)]
      exact rparts_l0 q n m hm hm53 sFin s e n 0 (k + 399) (by omega) (by omega)
theorem signed_eq (k : Nat) (a : Int) (ha : V a) (g : Int → Int) (hg : ∀ s, (s = 0 ∨ s = 1) → g s = 0 ∨ g s = 1) : float_signed.f (k + 400) g kind a = some (if (rdv P W l o (wd a)).1 = 3 then qn p bias else wrap64 (g (wd a / T % 2) * T + wd a % T), 0) := by
  have h2 := two_at H (k + 397) a ha
  have hok := rdv_ok P W l o (wd a)
  have hs := H.sig a
  unfold float_signed.f
  rw [show k + 397 + 3 = k + 400 from rfl] at h2
  rw [h2, bs]
  generalize rdv P W l o (wd a) = x at *
  dsimp only
  rw [ifp (show true = true from rfl)]
  try dsimp only
  by_cases h3 : x.1 = 3
  · rw [ifp h3, ifp h3, H.bk.pkk.qui, bs]
  · rw [ifn h3, ifn h3, ifp H.sg0, hs, H.sgn a _ (hg _ (by omega))]
theorem neg_eq (k : Nat) (a : Int) (ha : V a) : ∃ r, float_Neg.f (k + 400) kind a = some r ∧ quadratref01_Neg.f (k + 400) kind a = some r := by
  refine ⟨_, signed_eq H k a ha (fun own => wrap64 (1 - own)) (fun s hs => by rcases hs with rfl | rfl; exact .inr (by decide +kernel); exact .inl (by decide +kernel)), ?_⟩
  have hv := H.bk.view a
  have ht := H.tak (k + 328) a
  have hn := H.neg a ha
  have hw : wrap64 (1 - wd a / T % 2) = 1 - wd a / T % 2 := w64_id (by omega) (by omega)
  unfold quadratref01_Neg.f quadratref01_negative.f
  rw [show k + 328 + 72 = k + 400 from rfl] at ht
  rw [H.val a ha, ht, bs, ifp (show true = true from rfl), bs]
  generalize rdv P W l o (wd a) = x at *
  generalize tkv P W l o (wd a) = x' at *
  rw [hw]
  cases hv with
  | none s hs => dsimp only; rw [ifp (by decide +kernel), H.rk.qui, bs, bs, ifp rfl]
  | inf s hs => dsimp only; rw [ifn (by decide +kernel), ifp H.ng0, hn, bs, ifn (by decide)]
  | zero s hs => dsimp only; rw [ifn (by decide +kernel), ifp H.ng0, hn, bs, ifn (by decide)]
  | fin s hs m e hm0 hm1 he0 he1 hl => dsimp only; rw [ifn (by decide +kernel), ifp H.ng0, hn, bs, ifn (by decide)]
theorem abs_eq (k : Nat) (a : Int) (ha : V a) : ∃ r, float_Abs.f (k + 400) kind a = some r ∧ quadratref01_Abs.f (k + 400) kind a = some r := by
  refine ⟨_, signed_eq H k a ha (fun own => 0) (fun s hs => .inl rfl), ?_⟩
  have hv := H.bk.view a
  have ht := H.tak (k + 328) a
  have hn := H.siz a
  unfold quadratref01_Abs.f
  rw [show k + 328 + 72 = k + 400 from rfl] at ht
  rw [H.val a ha, ht, bs, ifp (show true = true from rfl), bs]
  generalize rdv P W l o (wd a) = x at *
  generalize tkv P W l o (wd a) = x' at *
  try dsimp only
  cases hv with
  | none s hs => dsimp only; rw [ifp (by decide +kernel), H.rk.qui, bs, ifp rfl]
  | inf s hs => dsimp only; rw [ifn (by decide +kernel), H.rk.siz, bs, hn, ifn (by decide)]
  | zero s hs => dsimp only; rw [ifn (by decide +kernel), H.rk.siz, bs, hn, ifn (by decide)]
  | fin s hs m e hm0 hm1 he0 he1 hl => dsimp only; rw [ifn (by decide +kernel), H.rk.siz, bs, hn, ifn (by decide)]
theorem class_eq (k : Nat) (a : Int) (ha : V a) : ∃ r, float_Class.f (k + 400) kind a = some r ∧ quadratref01_Class.f (k + 400) kind a = some r := by
  have hv := H.bk.view a
  have ht := H.tak (k + 328) a
  have h2 := two_at H (k + 397) a ha
  have hok := rdv_ok P W l o (wd a)
  have hlo := H.lo a
  unfold float_Class.f quadratref01_Class.f
  rw [show k + 397 + 3 = k + 400 from rfl] at h2
  rw [show k + 328 + 72 = k + 400 from rfl] at ht
  rw [h2, H.val a ha, ht, bs, bs, ifp (show true = true from rfl), bs]
  generalize rdv P W l o (wd a) = x at *
  generalize tkv P W l o (wd a) = x' at *
  dsimp only
  rw [ifp (show true = true from rfl)]
  try dsimp only
  cases hv with
  | none s hs => exact ⟨sNone, rfl, by dsimp only; rw [ifn (by decide +kernel)]⟩
  | inf s hs => exact ⟨sInf, rfl, by dsimp only; rw [ifn (by decide +kernel)]⟩
  | zero s hs => exact ⟨sZero, rfl, by dsimp only; rw [ifn (by decide +kernel)]⟩
  | fin s hs m e hm0 hm1 he0 he1 hl =>
    have h := hlo s m e rfl (by have := H.ll; omega)
    dsimp only
    rw [ifn (by decide), ifn (by decide), ifn (by decide), ifp H.c1, H.c2, ifp (show sFin.toList = ([102, 105, 110, 105, 116, 101] : List UInt8) by decide +kernel), H.rk.siz, bs, H.rk.dig, bs, ifp H.c1, H.c3]
    by_cases c : (m : Int) < P
    · rw [ifp c, ifp (h.1 c)]; exact ⟨_, rfl, rfl⟩
    · rw [ifn c, ifn (fun hh => c (h.2 hh))]; exact ⟨_, rfl, rfl⟩
theorem parts_seen (a : Int) (ha : V a) : quadratlaw01_FloatParts.f 500 kind a = some true := by
  obtain ⟨r1, p1, q1⟩ := parts_eq H 100 a ha
  obtain ⟨r2, p2, q2⟩ := neg_eq H 100 a ha
  obtain ⟨r3, p3, q3⟩ := abs_eq H 100 a ha
  obtain ⟨r4, p4, q4⟩ := class_eq H 100 a ha
  have hw := awake 400
  unfold quadratlaw01_FloatParts.f
  rw [p1, q1, p2, q2, p3, q3, p4, q4, bs, bs, bs, bs, bs, bs, ifp rfl, ifp rfl, ifp rfl, ifp rfl, ifp rfl, ifp rfl, ifp rfl, ifp rfl, bs, bs, ifp rfl, hw, bs]
end
theorem parts_bad (kind a : Int) (hv : quadratref01_Valid.f kind a = some false) (h : ∃ p w x1 x2 x3 x4 y1 y2 y3 y4, float_two.f 500 kind 0 a a = some (p, w, x1, x2, x3, x4, y1, y2, y3, y4, false)) : quadratlaw01_FloatParts.f 500 kind a = some true := by
  obtain ⟨p, w, x1, x2, x3, x4, y1, y2, y3, y4, h⟩ := h
  have hw := awake 400
  have f1 : ¬ false = true := by decide
  unfold quadratlaw01_FloatParts.f float_Parts.f float_Neg.f float_Abs.f float_Class.f float_signed.f quadratref01_Parts.f quadratref01_Neg.f quadratref01_Abs.f quadratref01_Class.f
  rw [h, hv]
  simp only [bs, Bool.false_eq_true, if_false, if_true, eq_self, hw]
theorem FloatParts (kind a : Int) (g0 : -9223372036854775808 ≤ a) (g1 : a < 9223372036854775808) : ∃ k, quadratlaw01_FloatParts.f k kind a = some true := by
  have ha : -9223372036854775808 ≤ a ∧ a < 9223372036854775808 := ⟨g0, g1⟩
  refine ⟨500, ?_⟩
  by_cases h2 : kind = 2
  · subst h2
    by_cases hu : 0 ≤ a ∧ a < 65536
    · exact parts_seen xk_2 a hu
    · refine parts_bad 2 a (by rw [valid_2, decide_eq_false hu]) ?_
      obtain ⟨y1, y2, y3, y4, z1, z2, z3, z4, ht⟩ := two_bad_2 497 0 a a (by decide) (by decide) ha.1 ha.2 ha.1 ha.2 (.inl hu)
      exact ⟨_, _, y1, y2, y3, y4, z1, z2, z3, z4, ht⟩
  by_cases h4 : kind = 4
  · subst h4
    by_cases hu : 0 ≤ a ∧ a < 4294967296
    · exact parts_seen xk_4 a hu
    · refine parts_bad 4 a (by rw [valid_4, decide_eq_false hu]) ?_
      obtain ⟨y1, y2, y3, y4, z1, z2, z3, z4, ht⟩ := two_bad_4 497 0 a a (by decide) (by decide) ha.1 ha.2 ha.1 ha.2 (.inl hu)
      exact ⟨_, _, y1, y2, y3, y4, z1, z2, z3, z4, ht⟩
  by_cases h8 : kind = 8
  · subst h8
    exact parts_seen xk_8 a ha
  · exact parts_bad kind a (valid_none kind a h2 h4 h8) ⟨_, _, _, _, _, _, _, _, _, _, two_none 500 kind 0 a a h2 h4 h8⟩
end Go.Proofs.YtgpnmifejgdipaaDoor.Pf
