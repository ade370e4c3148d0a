/-
  The program's right: a number's words without their last digits, and the class of what is left. By the session's own hand.
-/
import Derived.Test.YtgpnmifejgdipaaDoorSPi
import Derived.Test.YtgpnmifejgdipaaDoorDf
set_option linter.unusedVariables false
namespace Go.Proofs.YtgpnmifejgdipaaDoor.Pf
open Go.RowKit Go.Proofs.YtgpnmifejgdipaaDoor.My Go.Proofs.YtgpnmifejgdipaaDoor.RM Go.Proofs.YtgpnmifejgdipaaDoorW.PrintWords Go.Proofs.YtgpnmifejgdipaaDoorW.PrintLast Go.Proofs.YtgpnmifejgdipaaDoorW.PrintMore

def hf (N : Nat) : Nat → Bool
  | 0 => false
  | i + 1 => N / 2 ^ i % 2 == 1
def bl (N : Nat) (more : Bool) : Nat → Bool
  | 0 => more
  | i + 1 => more || decide (N % 2 ^ i ≠ 0)
def c4 (half below : Bool) : Nat := if half then (if below then 3 else 2) else (if below then 1 else 0)
theorem bl_step (N : Nat) (more : Bool) (i : Nat) : bl N more (i + 1) = (bl N more i || hf N i) := by
  cases i with
  | zero => simp [bl, hf, Nat.mod_one]
  | succ i =>
    simp only [bl, hf]
    have h := bit_mod N i
    have hp := Nat.two_pow_pos i
    have hd : N / 2 ^ i % 2 < 2 := Nat.mod_lt _ (by omega)
    rw [h]
    generalize N % 2 ^ i = a at *
    rcases (by omega : N / 2 ^ i % 2 = 0 ∨ N / 2 ^ i % 2 = 1) with h0 | h0
    · rw [h0]; simp
    · rw [h0]; simp
      try omega
theorem c4_aux (a x d : Nat) (more : Bool) (hp : 0 < x) (hlt : a < x) (hd : d = 0 ∨ d = 1) : c4 (d == 1) (more || decide (a ≠ 0)) = (if a + x * d = 0 then (if more then 1 else 0) else if a + x * d < x then 1 else if a + x * d = x then (if more then 3 else 2) else 3) := by
  unfold c4
  rcases hd with rfl | rfl
  · by_cases ha : a = 0
    · simp [ha]
    · simp [ha, hlt]
  · simp only [Nat.mul_one]
    have h1 : ¬ a + x = 0 := by omega
    have h2 : ¬ a + x < x := by omega
    rw [if_neg h1, if_neg h2]
    by_cases ha : a = 0
    · simp [ha]
    · have h3 : ¬ a + x = x := by omega
      simp [ha]
theorem c4_cls (N i : Nat) (more : Bool) : c4 (hf N (i + 1)) (bl N more (i + 1)) = cls (N % 2 ^ (i + 1)) (i + 1) more := by
  have hp := Nat.two_pow_pos i
  have hd : N / 2 ^ i % 2 < 2 := Nat.mod_lt _ (by omega)
  have hlt := Nat.mod_lt N hp
  have := c4_aux (N % 2 ^ i) (2 ^ i) (N / 2 ^ i % 2) more hp hlt (by omega)
  unfold cls
  rw [bit_mod, Nat.add_sub_cancel]
  exact this
theorem right_j3 (k : Nat) (m : Int) (half below : Bool) : float_exact_right.j2 (k + 2) m half below = some (m, (c4 half below : Int)) := by
  unfold c4
  cases half <;> cases below <;> simp [float_exact_right.j2, float_exact_right.j3]
theorem words_half (hi lo : Nat) (h1 : hi < 18446744073709551616) (h0 : lo < 18446744073709551616) :
    Go.bits .or .u64 ((lo : Int) / 2) (IntKind.u64.wrap ((hi : Int) * 9223372036854775808)) = ((hi % 2 * 9223372036854775808 + lo / 2 : Nat) : Int) := by
  have e : IntKind.u64.wrap ((hi : Int) * 9223372036854775808) = ((hi % 2 * 9223372036854775808 : Nat) : Int) := by rw [wrap_u64]; omega
  rw [e, or_split _ _ 63 (by omega) (by omega) (by omega) (by omega) (by omega) (by omega)]
  omega
theorem low_bit (lo : Nat) (h0 : lo < 18446744073709551616) : (Go.bits .and .u64 (lo : Int) 1 == 1) = (lo % 2 == 1) := by
  have := and_mask (lo : Int) 1 (by omega) (by omega) (by omega)
  rw [show (1 : Int) = 2 ^ 1 - 1 from rfl, this]
  rcases Nat.mod_two_eq_zero_or_one lo with h | h
  · have : (lo : Int) % 2 ^ 1 = 0 := by omega
    rw [this, h]; rfl
  · have : (lo : Int) % 2 ^ 1 = 1 := by omega
    rw [this, h]; rfl
theorem right_l0 (N : Nat) (more : Bool) (hN : N ≠ 0) : ∀ (j i k hi lo : Nat), N / 2 ^ i = hi * 18446744073709551616 + lo → hi < 18446744073709551616 → lo < 18446744073709551616 → N / 2 ^ (i + j) < 18446744073709551616 → 1 ≤ i + j → j < 100000 → j + 5 ≤ k →
    float_exact_right.l0 k (j : Int) (hi : Int) (lo : Int) (hf N i) (bl N more i) = some (((N / 2 ^ (i + j) : Nat) : Int), ((cls (N % 2 ^ (i + j)) (i + j) more : Nat) : Int)) := by
  intro j
  induction j with
  | zero =>
    intro i k hi lo hv h1 h0 hlt hij _ hk
    obtain ⟨k, rfl⟩ : ∃ m, k = m + 4 := ⟨k - 4, by omega⟩
    obtain ⟨i, rfl⟩ : ∃ m, i = m + 1 := ⟨i - 1, by omega⟩
    simp only [float_exact_right.l0, float_exact_right.j1]
    rw [if_neg (by omega), if_neg (by omega), right_j3, c4_cls]
    have : lo = N / 2 ^ (i + 1 + 0) := by rw [Nat.add_zero] at hlt ⊢; omega
    rw [← this, Nat.add_zero]
  | succ j ih =>
    intro i k hi lo hv h1 h0 hlt hij hj hk
    obtain ⟨k, rfl⟩ : ∃ m, k = m + 1 := ⟨k - 1, by omega⟩
    have e1 : wrap64 (((j + 1 : Nat) : Int) - 1) = (j : Int) := by rw [w64_id (by omega) (by omega)]; omega
    have e2 : (hi : Int) / 2 = ((hi / 2 : Nat) : Int) := by omega
    have e3 := words_half hi lo h1 h0
    have e4 := low_bit lo h0
    have hv' : N / 2 ^ (i + 1) = hi / 2 * 18446744073709551616 + (hi % 2 * 9223372036854775808 + lo / 2) := by
      rw [Nat.pow_succ, ← Nat.div_div_eq_div_mul, hv]; omega
    have hh : hf N (i + 1) = (lo % 2 == 1) := by
      simp only [hf]; rw [hv]
      have : (hi * 18446744073709551616 + lo) % 2 = lo % 2 := by omega
      rw [this]
    have hgo := ih (i + 1) k (hi / 2) (hi % 2 * 9223372036854775808 + lo / 2) hv' (by omega) (by omega) (by rw [show i + 1 + j = i + (j + 1) from by omega]; exact hlt) (by omega) (by omega) (by omega)
    rw [show i + 1 + j = i + (j + 1) from by omega, bl_step, hh] at hgo
    simp only [float_exact_right.l0]
    rw [if_pos (by omega), e1, e2, e3, e4]
    have hall : (if bl N more i = true then float_exact_right.l0 k (j : Int) ((hi / 2 : Nat) : Int) ((hi % 2 * 9223372036854775808 + lo / 2 : Nat) : Int) (lo % 2 == 1) true else float_exact_right.l0 k (j : Int) ((hi / 2 : Nat) : Int) ((hi % 2 * 9223372036854775808 + lo / 2 : Nat) : Int) (lo % 2 == 1) (hf N i)) = some (((N / 2 ^ (i + (j + 1)) : Nat) : Int), ((cls (N % 2 ^ (i + (j + 1))) (i + (j + 1)) more : Nat) : Int)) := by
      cases hb : bl N more i with
      | true => rw [hb] at hgo; simpa using hgo
      | false => rw [hb] at hgo; simpa using hgo
    by_cases hz : hi = 0
    · rw [if_pos (by omega)]
      by_cases hz2 : lo = 0
      · rw [if_pos (by omega)]
        cases hhf : hf N i with
        | true => rw [hhf] at hall; simpa using hall
        | false =>
          simp only [Bool.false_eq_true, if_false]
          obtain ⟨k, rfl⟩ : ∃ m, k = m + 3 := ⟨k - 3, by omega⟩
          simp only [float_exact_right.j1]
          rw [if_pos (by omega), right_j3]
          have hv0 : N / 2 ^ i = 0 := by omega
          have hNi : N < 2 ^ i := by
            have := Nat.div_eq_zero_iff.1 hv0
            have hp := Nat.two_pow_pos i
            omega
          obtain ⟨i, rfl⟩ : ∃ m, i = m + 1 := by
            cases i with
            | zero => simp at hNi; exact absurd hNi hN
            | succ m => exact ⟨m, rfl⟩
          have hNi' : N < 2 ^ i := by
            simp only [hf] at hhf
            have hd : N / 2 ^ i % 2 = 0 := by
              have : N / 2 ^ i % 2 < 2 := Nat.mod_lt _ (by omega)
              have : ¬ N / 2 ^ i % 2 = 1 := by simpa using hhf
              omega
            have hq : N / 2 ^ i < 2 := by
              rw [Nat.div_lt_iff_lt_mul (Nat.two_pow_pos i), Nat.mul_comm, ← Nat.pow_succ]; exact hNi
            have aux : ∀ y : Nat, y % 2 = 0 → y < 2 → y = 0 := fun y _ _ => by omega
            have hq0 : N / 2 ^ i = 0 := aux _ hd hq
            have := Nat.div_eq_zero_iff.1 hq0
            have hp := Nat.two_pow_pos i
            omega
          have hle : 2 ^ i ≤ 2 ^ (i + 1 + (j + 1) - 1) := pow_lt_64 (by omega)
          have hle2 : 2 ^ i ≤ 2 ^ (i + 1 + (j + 1)) := pow_lt_64 (by omega)
          have hd0 : N / 2 ^ (i + 1 + (j + 1)) = 0 := Nat.div_eq_of_lt (Nat.lt_of_lt_of_le hNi' hle2)
          have hm0 : N % 2 ^ (i + 1 + (j + 1)) = N := Nat.mod_eq_of_lt (Nat.lt_of_lt_of_le hNi' hle2)
          rw [hd0, hm0, hz2]
          unfold cls
          rw [if_neg hN, if_pos (Nat.lt_of_lt_of_le hNi' hle)]
          rfl
      · rw [if_neg (by omega)]; exact hall
    · rw [if_neg (by omega)]; exact hall
end Go.Proofs.YtgpnmifejgdipaaDoor.Pf
