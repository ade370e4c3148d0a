/-
  FloatSums: sums and differences are what the reference says (printed by gen_s4.py). By the session's own hand.
-/
import Derived.Test.YtgpnmifejgdipaaSPsu3
import Derived.Test.YtgpnmifejgdipaaSPaw
import Derived.Test.YtgpnmifejgdipaaDf
set_option linter.unusedVariables false
set_option linter.unusedSimpArgs false
namespace Go.Proofs.Ytgpnmifejgdipaa.Pf
open Go.RowKit Go.Proofs.Ytgpnmifejgdipaa.My Go.Proofs.Ytgpnmifejgdipaa.RM Go.Proofs.YtgpnmifejgdipaaW.PrintWords Go.Proofs.YtgpnmifejgdipaaW.PrintLast Go.Proofs.YtgpnmifejgdipaaW.PrintMore
theorem xor_two_pow {n r : Nat} (h : r < 2 ^ n) : r ^^^ 2 ^ n = 2 ^ n + r := by
  apply Nat.eq_of_testBit_eq
  intro i
  rw [Nat.testBit_xor, Nat.testBit_two_pow]
  rcases Nat.lt_trichotomy i n with hi | hi | hi
  · rw [Nat.testBit_two_pow_add_gt hi, decide_eq_false (by omega), Bool.xor_false]
  · subst hi; rw [Nat.testBit_two_pow_add_eq, Nat.testBit_lt_two_pow h]; simp
  · have h1 : r < 2 ^ i := Nat.lt_of_lt_of_le h (Nat.pow_le_pow_right (by omega) (by omega))
    have h2 : 2 ^ n + r < 2 ^ i := by
      have : 2 ^ (n + 1) ≤ 2 ^ i := Nat.pow_le_pow_right (by omega) hi
      have : 2 ^ (n + 1) = 2 * 2 ^ n := by rw [Nat.pow_succ, Nat.mul_comm]
      omega
    rw [Nat.testBit_lt_two_pow h1, Nat.testBit_lt_two_pow h2, decide_eq_false (by omega), Bool.xor_false]
theorem xor_two_pow' {n r : Nat} (h : r < 2 ^ n) : (2 ^ n + r) ^^^ 2 ^ n = r := by
  rw [← xor_two_pow h, Nat.xor_assoc, Nat.xor_self, Nat.xor_zero]
theorem xor_nat (n u : Nat) (h : u < 2 * 2 ^ n) : u ^^^ 2 ^ n = if u < 2 ^ n then 2 ^ n + u else u - 2 ^ n := by
  by_cases c : u < 2 ^ n
  · rw [if_pos c, xor_two_pow c]
  · rw [if_neg c]
    obtain ⟨r, rfl⟩ : ∃ r, u = 2 ^ n + r := ⟨u - 2 ^ n, by omega⟩
    rw [xor_two_pow' (by omega)]; omega
/-- the opposite, as the reference tells it -/
def neg' (z : ByteArray × Int × List Int × Int) : ByteArray × Int × List Int × Int := if z.1.toList = ([110, 111, 110, 101] : List UInt8) then z else (z.1, 1 - z.2.1, z.2.2.1, z.2.2.2)
def neg (z : Int × Int × Int × Int × Bool) : Int × Int × Int × Int × Bool := (z.1, 1 - z.2.1, z.2.2.1, z.2.2.2)
theorem vw_neg {p : Nat} {bias : Int} {x : Int × Int × Int × Int × Bool} {x' : ByteArray × Int × List Int × Int} (h : Vw p bias x x') : Vw p bias (neg x) (neg' x') := by
  cases h with
  | none s hs => unfold neg neg'; rw [if_pos (of_eq_true sq_sNone_none)]; exact .none (1 - s) (by omega)
  | inf s hs => unfold neg neg'; rw [if_neg (of_eq_false sq_sInf_none)]; exact .inf (1 - s) (by omega)
  | zero s hs => unfold neg neg'; rw [if_neg (of_eq_false sq_sZero_none)]; exact .zero (1 - s) (by omega)
  | fin s hs m e a1 a2 a3 a4 a5 => unfold neg neg'; rw [if_neg (of_eq_false sq_sFin_none)]; exact .fin (1 - s) (by omega) m e a1 a2 a3 a4 a5
/-- All that a sum looks at. -/
def Both (K : Nat) (kind mode a b : Int) : Prop := quadratref01_asked.f kind mode a b = some true ∧ (0 ≤ mode ∧ mode ≤ 3) ∧ ∃ (p : Nat) (w bias T : Int) (x y : Int × Int × Int × Int × Bool) (x' y' : ByteArray × Int × List Int × Int) (nb : Int),
  RK kind p bias T ∧ PK p w bias T ∧ float_two.f K kind mode a b = some (twv p w x y) ∧ quadratref01_taken.f K kind a = some x' ∧ quadratref01_taken.f K kind b = some y' ∧ Vw p bias x x' ∧ Vw p bias y y' ∧ (x.1 = 0 → a = wrap64 (x.2.1 * T)) ∧
  quadratref01_negative.f K kind b = some nb ∧ quadratref01_asked.f kind mode a nb = some true ∧ quadratref01_taken.f K kind nb = some (neg' y')
theorem tkv_neg_2 (u : Int) (h0 : 0 ≤ u) (h1 : u < 65536) (hn : (tkv 1024 32 (-24) (-25) u).1.toList ≠ ([110, 111, 110, 101] : List UInt8)) :
    tkv 1024 32 (-24) (-25) (if u < 32768 then 32768 + u else u - 32768) = neg' (tkv 1024 32 (-24) (-25) u) := by
  unfold neg'
  rw [if_neg hn]
  have hT : (1024 : Int) * 32 = 32768 := by decide
  have e1 : (if u < 32768 then 32768 + u else u - 32768) / 1024 % 32 = u / 1024 % 32 := by split <;> omega
  have e2 : (if u < 32768 then 32768 + u else u - 32768) % 1024 = u % 1024 := by split <;> omega
  have e3 : (if u < 32768 then 32768 + u else u - 32768) / 32768 % 2 = 1 - u / 32768 % 2 := by split <;> omega
  unfold tkv at hn ⊢
  simp only [e1, e2, e3, hT] at hn ⊢
  by_cases c1 : u / 1024 % 32 = 32 - 1
  · by_cases c2 : u % 1024 = 0
    · simp only [if_pos c1, if_pos c2]
    · simp only [if_pos c1, if_neg c2] at hn; exact absurd (of_eq_true sq_sNone_none) hn
  · by_cases c3 : u / 1024 % 32 = 0
    · by_cases c2 : u % 1024 = 0
      · simp only [if_neg c1, if_pos c3, if_pos c2]
      · simp only [if_neg c1, if_pos c3, if_neg c2]
    · simp only [if_neg c1, if_neg c3]
theorem tkv_none_2 (u : Int) (hn : (tkv 1024 32 (-24) (-25) u).1.toList = ([110, 111, 110, 101] : List UInt8)) : tkv 1024 32 (-24) (-25) u = (sNone, 0, [], 0) := by
  unfold tkv at hn ⊢
  dsimp only at hn ⊢
  by_cases c1 : u / 1024 % 32 = 32 - 1
  · rw [if_pos c1] at hn ⊢
    by_cases c2 : u % 1024 = 0
    · rw [if_pos c2] at hn; exact absurd hn (of_eq_false sq_sInf_none)
    · rw [if_neg c2]
  · rw [if_neg c1] at hn
    by_cases c3 : u / 1024 % 32 = 0
    · rw [if_pos c3] at hn
      by_cases c2 : u % 1024 = 0
      · rw [if_pos c2] at hn; exact absurd hn (of_eq_false sq_sZero_none)
      · rw [if_neg c2] at hn; exact absurd hn (of_eq_false sq_sFin_none)
    · rw [if_neg c3] at hn; exact absurd hn (of_eq_false sq_sFin_none)
theorem xor_2 (u : Int) (h0 : 0 ≤ u) (h1 : u < 65536) : Go.bits .xor .u64 u 32768 = if u < 32768 then 32768 + u else u - 32768 := by
  obtain ⟨n, rfl⟩ := Int.eq_ofNat_of_zero_le h0
  have := xor_nat 15 n (by omega)
  rw [u64_xor (n : Int) 32768 h0 (by omega) (by decide) (by decide), Int.toNat_natCast, show (Int.toNat 32768) = 2 ^ 15 from rfl, this]
  split <;> split <;> omega
theorem neg_2 (k : Nat) (b : Int) (hb : 0 ≤ wd b ∧ wd b < 65536) : ∃ nb, quadratref01_negative.f (k + 72) 2 b = some nb ∧ 0 ≤ wd nb ∧ wd nb < 65536 ∧ nb = wrap64 (wd nb) ∧ tkv 1024 32 (-24) (-25) (wd nb) = neg' (tkv 1024 32 (-24) (-25) (wd b)) := by
  unfold quadratref01_negative.f
  rw [taken_2 k b, bs]
  by_cases hn : (tkv 1024 32 (-24) (-25) (wd b)).1.toList = ([110, 111, 110, 101] : List UInt8)
  · rw [if_pos hn, rk_2.qui, bs]
    refine ⟨_, rfl, by decide +kernel, by decide +kernel, by kernel_rfl, ?_⟩
    unfold neg'
    rw [if_pos hn, tkv_none_2 _ hn]
    kernel_rfl
  · have e1 : wrap64 (wrap64 (8 * 2) - 1) = 15 := by kernel_rfl
    have e2 : shl .u64 1 15 = 32768 := by kernel_rfl
    rw [if_neg hn, e1, if_pos (by decide), e2, wrap_wd, xor_2 _ hb.1 hb.2]
    have e3 : wd (wrap64 (if wd b < 32768 then 32768 + wd b else wd b - 32768)) = if wd b < 32768 then 32768 + wd b else wd b - 32768 := by
      have : 0 ≤ (if wd b < 32768 then 32768 + wd b else wd b - 32768) ∧ (if wd b < 32768 then 32768 + wd b else wd b - 32768) < 65536 := by split <;> omega
      generalize (if wd b < 32768 then 32768 + wd b else wd b - 32768) = v at this
      unfold wrap64; unfold wd; omega
    refine ⟨_, rfl, ?_⟩
    rw [e3]
    exact ⟨by split <;> omega, by split <;> omega, rfl, tkv_neg_2 _ hb.1 hb.2 hn⟩
theorem both_2 (k : Nat) (mode a b : Int) (hm0 : 0 ≤ mode) (hm1 : mode < 4) (ha : 0 ≤ a ∧ a < 65536) (hb : 0 ≤ b ∧ b < 65536) : Both (k + 72) 2 mode a b := by
  have hi := isMode_ok mode hm0 hm1
  have hq : ∀ c, (0 ≤ c ∧ c < 65536) → quadratref01_asked.f 2 mode a c = some true := fun c hc => by unfold quadratref01_asked.f; rw [hi, valid_2, valid_2, decide_eq_true ha, decide_eq_true hc]; rfl
  have wa : wd a = a := by unfold wd; omega
  have wb : wd b = b := by unfold wd; omega
  obtain ⟨nb, n1, n2, n3, n4, n5⟩ := neg_2 k b (by rw [wb]; exact hb)
  have hnb : nb = wd nb := by rw [n4]; unfold wrap64; unfold wd at *; omega
  refine ⟨hq b hb, ⟨hm0, by omega⟩, 11, 5, 15, 32768, _, _, _, _, nb, rk_2, pk_2, two_2 (k + 69) mode a b hm0 hm1 ha.1 ha.2 hb.1 hb.2, taken_2 k a, taken_2 k b, view_2 (wd a) (wd_bd a).1 (wd_bd a).2, view_2 (wd b) (wd_bd b).1 (wd_bd b).2, ?_, n1, hq nb (by rw [hnb]; exact ⟨n2, n3⟩), ?_⟩
  · intro hz
    obtain ⟨m1, m2⟩ := more_2 (wd a)
    have := m2 hz
    rw [m1]
    rw [wa] at *
    rw [show a / 32768 % 2 * 32768 = a by omega]
    unfold wrap64; omega
  · rw [taken_2 k nb, n5]
theorem tkv_neg_4 (u : Int) (h0 : 0 ≤ u) (h1 : u < 4294967296) (hn : (tkv 8388608 256 (-149) (-150) u).1.toList ≠ ([110, 111, 110, 101] : List UInt8)) :
    tkv 8388608 256 (-149) (-150) (if u < 2147483648 then 2147483648 + u else u - 2147483648) = neg' (tkv 8388608 256 (-149) (-150) u) := by
  unfold neg'
  rw [if_neg hn]
  have hT : (8388608 : Int) * 256 = 2147483648 := by decide
  have e1 : (if u < 2147483648 then 2147483648 + u else u - 2147483648) / 8388608 % 256 = u / 8388608 % 256 := by split <;> omega
  have e2 : (if u < 2147483648 then 2147483648 + u else u - 2147483648) % 8388608 = u % 8388608 := by split <;> omega
  have e3 : (if u < 2147483648 then 2147483648 + u else u - 2147483648) / 2147483648 % 2 = 1 - u / 2147483648 % 2 := by split <;> omega
  unfold tkv at hn ⊢
  simp only [e1, e2, e3, hT] at hn ⊢
  by_cases c1 : u / 8388608 % 256 = 256 - 1
  · by_cases c2 : u % 8388608 = 0
    · simp only [if_pos c1, if_pos c2]
    · simp only [if_pos c1, if_neg c2] at hn; exact absurd (of_eq_true sq_sNone_none) hn
  · by_cases c3 : u / 8388608 % 256 = 0
    · by_cases c2 : u % 8388608 = 0
      · simp only [if_neg c1, if_pos c3, if_pos c2]
      · simp only [if_neg c1, if_pos c3, if_neg c2]
    · simp only [if_neg c1, if_neg c3]
theorem tkv_none_4 (u : Int) (hn : (tkv 8388608 256 (-149) (-150) u).1.toList = ([110, 111, 110, 101] : List UInt8)) : tkv 8388608 256 (-149) (-150) u = (sNone, 0, [], 0) := by
  unfold tkv at hn ⊢
  dsimp only at hn ⊢
  by_cases c1 : u / 8388608 % 256 = 256 - 1
  · rw [if_pos c1] at hn ⊢
    by_cases c2 : u % 8388608 = 0
    · rw [if_pos c2] at hn; exact absurd hn (of_eq_false sq_sInf_none)
    · rw [if_neg c2]
  · rw [if_neg c1] at hn
    by_cases c3 : u / 8388608 % 256 = 0
    · rw [if_pos c3] at hn
      by_cases c2 : u % 8388608 = 0
      · rw [if_pos c2] at hn; exact absurd hn (of_eq_false sq_sZero_none)
      · rw [if_neg c2] at hn; exact absurd hn (of_eq_false sq_sFin_none)
    · rw [if_neg c3] at hn; exact absurd hn (of_eq_false sq_sFin_none)
theorem xor_4 (u : Int) (h0 : 0 ≤ u) (h1 : u < 4294967296) : Go.bits .xor .u64 u 2147483648 = if u < 2147483648 then 2147483648 + u else u - 2147483648 := by
  obtain ⟨n, rfl⟩ := Int.eq_ofNat_of_zero_le h0
  have := xor_nat 31 n (by omega)
  rw [u64_xor (n : Int) 2147483648 h0 (by omega) (by decide) (by decide), Int.toNat_natCast, show (Int.toNat 2147483648) = 2 ^ 31 from rfl, this]
  split <;> split <;> omega
theorem neg_4 (k : Nat) (b : Int) (hb : 0 ≤ wd b ∧ wd b < 4294967296) : ∃ nb, quadratref01_negative.f (k + 72) 4 b = some nb ∧ 0 ≤ wd nb ∧ wd nb < 4294967296 ∧ nb = wrap64 (wd nb) ∧ tkv 8388608 256 (-149) (-150) (wd nb) = neg' (tkv 8388608 256 (-149) (-150) (wd b)) := by
  unfold quadratref01_negative.f
  rw [taken_4 k b, bs]
  by_cases hn : (tkv 8388608 256 (-149) (-150) (wd b)).1.toList = ([110, 111, 110, 101] : List UInt8)
  · rw [if_pos hn, rk_4.qui, bs]
    refine ⟨_, rfl, by decide +kernel, by decide +kernel, by kernel_rfl, ?_⟩
    unfold neg'
    rw [if_pos hn, tkv_none_4 _ hn]
    kernel_rfl
  · have e1 : wrap64 (wrap64 (8 * 4) - 1) = 31 := by kernel_rfl
    have e2 : shl .u64 1 31 = 2147483648 := by kernel_rfl
    rw [if_neg hn, e1, if_pos (by decide), e2, wrap_wd, xor_4 _ hb.1 hb.2]
    have e3 : wd (wrap64 (if wd b < 2147483648 then 2147483648 + wd b else wd b - 2147483648)) = if wd b < 2147483648 then 2147483648 + wd b else wd b - 2147483648 := by
      have : 0 ≤ (if wd b < 2147483648 then 2147483648 + wd b else wd b - 2147483648) ∧ (if wd b < 2147483648 then 2147483648 + wd b else wd b - 2147483648) < 4294967296 := by split <;> omega
      generalize (if wd b < 2147483648 then 2147483648 + wd b else wd b - 2147483648) = v at this
      unfold wrap64; unfold wd; omega
    refine ⟨_, rfl, ?_⟩
    rw [e3]
    exact ⟨by split <;> omega, by split <;> omega, rfl, tkv_neg_4 _ hb.1 hb.2 hn⟩
theorem both_4 (k : Nat) (mode a b : Int) (hm0 : 0 ≤ mode) (hm1 : mode < 4) (ha : 0 ≤ a ∧ a < 4294967296) (hb : 0 ≤ b ∧ b < 4294967296) : Both (k + 72) 4 mode a b := by
  have hi := isMode_ok mode hm0 hm1
  have hq : ∀ c, (0 ≤ c ∧ c < 4294967296) → quadratref01_asked.f 4 mode a c = some true := fun c hc => by unfold quadratref01_asked.f; rw [hi, valid_4, valid_4, decide_eq_true ha, decide_eq_true hc]; rfl
  have wa : wd a = a := by unfold wd; omega
  have wb : wd b = b := by unfold wd; omega
  obtain ⟨nb, n1, n2, n3, n4, n5⟩ := neg_4 k b (by rw [wb]; exact hb)
  have hnb : nb = wd nb := by rw [n4]; unfold wrap64; unfold wd at *; omega
  refine ⟨hq b hb, ⟨hm0, by omega⟩, 24, 8, 127, 2147483648, _, _, _, _, nb, rk_4, pk_4, two_4 (k + 69) mode a b hm0 hm1 ha.1 ha.2 hb.1 hb.2, taken_4 k a, taken_4 k b, view_4 (wd a) (wd_bd a).1 (wd_bd a).2, view_4 (wd b) (wd_bd b).1 (wd_bd b).2, ?_, n1, hq nb (by rw [hnb]; exact ⟨n2, n3⟩), ?_⟩
  · intro hz
    obtain ⟨m1, m2⟩ := more_4 (wd a)
    have := m2 hz
    rw [m1]
    rw [wa] at *
    rw [show a / 2147483648 % 2 * 2147483648 = a by omega]
    unfold wrap64; omega
  · rw [taken_4 k nb, n5]
theorem tkv_neg_8 (u : Int) (h0 : 0 ≤ u) (h1 : u < 18446744073709551616) (hn : (tkv 4503599627370496 2048 (-1074) (-1075) u).1.toList ≠ ([110, 111, 110, 101] : List UInt8)) :
    tkv 4503599627370496 2048 (-1074) (-1075) (if u < 9223372036854775808 then 9223372036854775808 + u else u - 9223372036854775808) = neg' (tkv 4503599627370496 2048 (-1074) (-1075) u) := by
  unfold neg'
  rw [if_neg hn]
  have hT : (4503599627370496 : Int) * 2048 = 9223372036854775808 := by decide
  have e1 : (if u < 9223372036854775808 then 9223372036854775808 + u else u - 9223372036854775808) / 4503599627370496 % 2048 = u / 4503599627370496 % 2048 := by split <;> omega
  have e2 : (if u < 9223372036854775808 then 9223372036854775808 + u else u - 9223372036854775808) % 4503599627370496 = u % 4503599627370496 := by split <;> omega
  have e3 : (if u < 9223372036854775808 then 9223372036854775808 + u else u - 9223372036854775808) / 9223372036854775808 % 2 = 1 - u / 9223372036854775808 % 2 := by split <;> omega
  unfold tkv at hn ⊢
  simp only [e1, e2, e3, hT] at hn ⊢
  by_cases c1 : u / 4503599627370496 % 2048 = 2048 - 1
  · by_cases c2 : u % 4503599627370496 = 0
    · simp only [if_pos c1, if_pos c2]
    · simp only [if_pos c1, if_neg c2] at hn; exact absurd (of_eq_true sq_sNone_none) hn
  · by_cases c3 : u / 4503599627370496 % 2048 = 0
    · by_cases c2 : u % 4503599627370496 = 0
      · simp only [if_neg c1, if_pos c3, if_pos c2]
      · simp only [if_neg c1, if_pos c3, if_neg c2]
    · simp only [if_neg c1, if_neg c3]
theorem tkv_none_8 (u : Int) (hn : (tkv 4503599627370496 2048 (-1074) (-1075) u).1.toList = ([110, 111, 110, 101] : List UInt8)) : tkv 4503599627370496 2048 (-1074) (-1075) u = (sNone, 0, [], 0) := by
  unfold tkv at hn ⊢
  dsimp only at hn ⊢
  by_cases c1 : u / 4503599627370496 % 2048 = 2048 - 1
  · rw [if_pos c1] at hn ⊢
    by_cases c2 : u % 4503599627370496 = 0
    · rw [if_pos c2] at hn; exact absurd hn (of_eq_false sq_sInf_none)
    · rw [if_neg c2]
  · rw [if_neg c1] at hn
    by_cases c3 : u / 4503599627370496 % 2048 = 0
    · rw [if_pos c3] at hn
      by_cases c2 : u % 4503599627370496 = 0
      · rw [if_pos c2] at hn; exact absurd hn (of_eq_false sq_sZero_none)
      · rw [if_neg c2] at hn; exact absurd hn (of_eq_false sq_sFin_none)
    · rw [if_neg c3] at hn; exact absurd hn (of_eq_false sq_sFin_none)
theorem xor_8 (u : Int) (h0 : 0 ≤ u) (h1 : u < 18446744073709551616) : Go.bits .xor .u64 u 9223372036854775808 = if u < 9223372036854775808 then 9223372036854775808 + u else u - 9223372036854775808 := by
  obtain ⟨n, rfl⟩ := Int.eq_ofNat_of_zero_le h0
  have := xor_nat 63 n (by omega)
  rw [u64_xor (n : Int) 9223372036854775808 h0 (by omega) (by decide) (by decide), Int.toNat_natCast, show (Int.toNat 9223372036854775808) = 2 ^ 63 from rfl, this]
  split <;> split <;> omega
theorem neg_8 (k : Nat) (b : Int) (hb : 0 ≤ wd b ∧ wd b < 18446744073709551616) : ∃ nb, quadratref01_negative.f (k + 72) 8 b = some nb ∧ 0 ≤ wd nb ∧ wd nb < 18446744073709551616 ∧ nb = wrap64 (wd nb) ∧ tkv 4503599627370496 2048 (-1074) (-1075) (wd nb) = neg' (tkv 4503599627370496 2048 (-1074) (-1075) (wd b)) := by
  unfold quadratref01_negative.f
  rw [taken_8 k b, bs]
  by_cases hn : (tkv 4503599627370496 2048 (-1074) (-1075) (wd b)).1.toList = ([110, 111, 110, 101] : List UInt8)
  · rw [if_pos hn, rk_8.qui, bs]
    refine ⟨_, rfl, by decide +kernel, by decide +kernel, by kernel_rfl, ?_⟩
    unfold neg'
    rw [if_pos hn, tkv_none_8 _ hn]
    kernel_rfl
  · have e1 : wrap64 (wrap64 (8 * 8) - 1) = 63 := by kernel_rfl
    have e2 : shl .u64 1 63 = 9223372036854775808 := by kernel_rfl
    rw [if_neg hn, e1, if_pos (by decide), e2, wrap_wd, xor_8 _ hb.1 hb.2]
    have e3 : wd (wrap64 (if wd b < 9223372036854775808 then 9223372036854775808 + wd b else wd b - 9223372036854775808)) = if wd b < 9223372036854775808 then 9223372036854775808 + wd b else wd b - 9223372036854775808 := by
      have : 0 ≤ (if wd b < 9223372036854775808 then 9223372036854775808 + wd b else wd b - 9223372036854775808) ∧ (if wd b < 9223372036854775808 then 9223372036854775808 + wd b else wd b - 9223372036854775808) < 18446744073709551616 := by split <;> omega
      generalize (if wd b < 9223372036854775808 then 9223372036854775808 + wd b else wd b - 9223372036854775808) = v at this
      unfold wrap64; unfold wd; omega
    refine ⟨_, rfl, ?_⟩
    rw [e3]
    exact ⟨by split <;> omega, by split <;> omega, rfl, tkv_neg_8 _ hb.1 hb.2 hn⟩
theorem both_8 (k : Nat) (mode a b : Int) (hm0 : 0 ≤ mode) (hm1 : mode < 4) (ha0 : -9223372036854775808 ≤ a) (ha1 : a < 9223372036854775808) : Both (k + 72) 8 mode a b := by
  have hi := isMode_ok mode hm0 hm1
  have hq : ∀ c, quadratref01_asked.f 8 mode a c = some true := fun c => by unfold quadratref01_asked.f; rw [hi, valid_8, valid_8]; rfl
  obtain ⟨nb, n1, n2, n3, n4, n5⟩ := neg_8 k b (wd_bd b)
  refine ⟨hq b, ⟨hm0, by omega⟩, 53, 11, 1023, 9223372036854775808, _, _, _, _, nb, rk_8, pk_8, two_8 (k + 69) mode a b hm0 hm1, taken_8 k a, taken_8 k b, view_8 (wd a) (wd_bd a).1 (wd_bd a).2, view_8 (wd b) (wd_bd b).1 (wd_bd b).2, ?_, n1, hq nb, ?_⟩
  · intro hz
    obtain ⟨m1, m2⟩ := more_8 (wd a)
    have := m2 hz
    rw [m1]
    have hw := wd_bd a
    have e : a = wrap64 (wd a) := by unfold wrap64; unfold wd; omega
    rw [show wd a / 9223372036854775808 % 2 * 9223372036854775808 = wd a by omega]
    exact e
  · rw [taken_8 k nb, n5]
theorem ask2 (k : Nat) (kind mode a b : Int) (ha0 : -9223372036854775808 ≤ a) (ha1 : a < 9223372036854775808) (hb0 : -9223372036854775808 ≤ b) (hb1 : b < 9223372036854775808) :
    Refused (k + 72) kind mode a b ∨ Both (k + 72) kind mode a b := by
  rcases ask k kind mode a b ha0 ha1 hb0 hb1 with h | ⟨hq, hm, _⟩
  · exact .inl h
  refine .inr ?_
  by_cases h2 : kind = 2
  · subst h2
    unfold quadratref01_asked.f at hq
    rw [isMode_ok mode hm.1 (by omega), bs, if_pos rfl, valid_2, valid_2, bs] at hq
    by_cases ha : 0 ≤ a ∧ a < 65536
    · rw [decide_eq_true ha, if_pos rfl, bs] at hq
      exact both_2 k mode a b hm.1 (by omega) ha (by simpa using hq)
    · rw [decide_eq_false ha, if_neg (by simp)] at hq; cases hq
  by_cases h4 : kind = 4
  · subst h4
    unfold quadratref01_asked.f at hq
    rw [isMode_ok mode hm.1 (by omega), bs, if_pos rfl, valid_4, valid_4, bs] at hq
    by_cases ha : 0 ≤ a ∧ a < 4294967296
    · rw [decide_eq_true ha, if_pos rfl, bs] at hq
      exact both_4 k mode a b hm.1 (by omega) ha (by simpa using hq)
    · rw [decide_eq_false ha, if_neg (by simp)] at hq; cases hq
  by_cases h8 : kind = 8
  · subst h8; exact both_8 k mode a b hm.1 (by omega) ha0 ha1
  exfalso
  unfold quadratref01_asked.f at hq
  rw [isMode_ok mode hm.1 (by omega), bs, if_pos rfl, valid_none kind a h2 h4 h8, bs, if_neg (by simp)] at hq
  cases hq
theorem sums_eq (k : Nat) (hk : 100600 ≤ k) (kind mode a b : Int) (ha0 : -9223372036854775808 ≤ a) (ha1 : a < 9223372036854775808) (hb0 : -9223372036854775808 ≤ b) (hb1 : b < 9223372036854775808) :
    (∃ r, float_Add.f k kind mode a b = some r ∧ quadratref01_Add.f k kind mode a b = some r) ∧ ∃ r, float_Sub.f k kind mode a b = some r ∧ quadratref01_Sub.f k kind mode a b = some r := by
  obtain ⟨k, rfl⟩ : ∃ m, k = m + 72 := ⟨k - 72, by omega⟩
  rcases ask2 k kind mode a b ha0 ha1 hb0 hb1 with ⟨hq, p, w, x1, x2, x3, x4, y1, y2, y3, y4, ht⟩ | ⟨hq, hm, p, w, bias, T, x, y, x', y', nb, hr, hp, ht, hx, hy, vx, vy, hz, hn, hqn, hyn⟩
  · refine ⟨⟨(0, 0, 2), ?_, ?_⟩, (0, 0, 2), ?_, ?_⟩
    · unfold float_Add.f; rw [ht, bs, if_neg (by simp)]
    · unfold quadratref01_Add.f; rw [hq, bs, if_neg (by simp)]
    · unfold float_Sub.f; rw [ht, bs, if_neg (by simp)]
    · unfold quadratref01_Sub.f; rw [hq, bs, if_neg (by simp)]
  · have hb : (x.2.2.2.2 && y.2.2.2.2) = true := by cases vx <;> cases vy <;> rfl
    obtain ⟨r, r1, r2⟩ := add_agree hr hp (k + 72) (by omega) mode a hm vx vy hz
    obtain ⟨q, q1, q2⟩ := add_agree hr hp (k + 72) (by omega) mode a hm vx (vw_neg vy) hz
    refine ⟨⟨(r.1, r.2, 0), ?_, ?_⟩, (q.1, q.2, 0), ?_, ?_⟩
    · unfold float_Add.f
      rw [ht, bs, if_pos (show (twv (p : Int) w x y).2.2.2.2.2.2.2.2.2.2 = true from hb)]
      simp only [twv]
      rw [r1, bs]
    · unfold quadratref01_Add.f
      rw [hq, bs, if_pos rfl, hx, bs, hy, bs]
      exact r2
    · unfold float_Sub.f
      rw [ht, bs, if_pos (show (twv (p : Int) w x y).2.2.2.2.2.2.2.2.2.2 = true from hb)]
      have ew : wrap64 (1 - y.2.1) = 1 - y.2.1 := by cases vy <;> (dsimp only; exact w64_id (by omega) (by omega))
      simp only [twv, ew]
      simp only [neg] at q1
      rw [q1, bs]
    · unfold quadratref01_Sub.f quadratref01_Add.f
      rw [hq, bs, if_pos rfl, hn, bs, hqn, bs, if_pos rfl, hx, bs, hyn, bs]
      have := q2
      unfold rAdd at this
      rw [this, bs]
theorem FloatSums (kind mode a b : Int) (ha0 : -9223372036854775808 ≤ a) (ha1 : a < 9223372036854775808) (hb0 : -9223372036854775808 ≤ b) (hb1 : b < 9223372036854775808) : ∃ k, quadratlaw01_FloatSums.f k kind mode a b = some true := by
  refine ⟨200000, ?_⟩
  obtain ⟨⟨r, h1, h2⟩, q, h3, h4⟩ := sums_eq 200000 (by omega) kind mode a b ha0 ha1 hb0 hb1
  unfold quadratlaw01_FloatSums.f
  have ha : quadratlaw01_Awake.f 200000 = some true := awake 199900
  rw [h1, bs, h2, bs, h3, bs, h4, bs, if_pos rfl, if_pos rfl, if_pos rfl, if_pos rfl, if_pos rfl, if_pos rfl, ha, bs]
end Go.Proofs.Ytgpnmifejgdipaa.Pf
