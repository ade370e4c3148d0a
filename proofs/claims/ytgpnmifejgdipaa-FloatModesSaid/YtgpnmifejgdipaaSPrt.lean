/-
  FloatRoots: roots are what the reference says. By the session's own hand.
-/
import Derived.Test.YtgpnmifejgdipaaSPsu2
import Derived.Test.YtgpnmifejgdipaaSPcv
import Derived.Test.YtgpnmifejgdipaaDf
set_option linter.unusedVariables false
set_option linter.unusedSimpArgs false
namespace Go.Proofs.Ytgpnmifejgdipaa.Pf
open Go.RowKit Go.Proofs.Ytgpnmifejgdipaa.My Go.Proofs.Ytgpnmifejgdipaa.RM Go.Proofs.YtgpnmifejgdipaaW.PrintWords Go.Proofs.YtgpnmifejgdipaaW.PrintLast Go.Proofs.YtgpnmifejgdipaaW.PrintMore

/-- r is the whole root of N -/
def Rt (r N : Nat) : Prop := r * r ≤ N ∧ N < (r + 1) * (r + 1)
theorem rt_unique {r s N : Nat} (h : Rt r N) (g : Rt s N) : r = s := by
  obtain ⟨h1, h2⟩ := h
  obtain ⟨g1, g2⟩ := g
  rcases Nat.lt_trichotomy r s with c | c | c
  · have := Nat.mul_le_mul (show r + 1 ≤ s from c) (show r + 1 ≤ s from c); omega
  · exact c
  · have := Nat.mul_le_mul (show s + 1 ≤ r from c) (show s + 1 ≤ r from c); omega
theorem rt_div {r N b : Nat} (hb : 0 < b) (h : Rt r (N * (b * b))) : Rt (r / b) N := by
  obtain ⟨h1, h2⟩ := h
  have e := Nat.div_add_mod r b
  have l := Nat.mod_lt r hb
  generalize r / b = q at *
  generalize r % b = m at *
  have hbb := Nat.mul_pos hb hb
  constructor
  · have a1 : b * q ≤ r := by omega
    have a2 := Nat.mul_le_mul a1 a1
    have a3 : (q * q) * (b * b) = (b * q) * (b * q) := by rw [Nat.mul_comm b q, Nat.mul_mul_mul_comm]
    exact Nat.le_of_mul_le_mul_right (by rw [a3]; exact Nat.le_trans a2 h1) hbb
  · have a1 : r + 1 ≤ b * (q + 1) := by rw [Nat.mul_add, Nat.mul_one]; omega
    have a2 := Nat.mul_le_mul a1 a1
    have a3 : ((q + 1) * (q + 1)) * (b * b) = (b * (q + 1)) * (b * (q + 1)) := by rw [Nat.mul_comm b (q + 1), Nat.mul_mul_mul_comm]
    exact Nat.lt_of_mul_lt_mul_right (a := b * b) (by rw [a3]; exact Nat.lt_of_lt_of_le h2 a2)
theorem rt_sq {r b : Nat} : Rt (r * b) (r * r * (b * b)) := by
  have e : r * b * (r * b) = r * r * (b * b) := Nat.mul_mul_mul_comm ..
  refine ⟨by rw [e]; exact Nat.le_refl _, ?_⟩
  rw [← e]
  exact Nat.mul_lt_mul'' (Nat.lt_succ_self _) (Nat.lt_succ_self _)
theorem rt_more {r1 r2 N b : Nat} (hb : 0 < b) (h1 : Rt r1 N) (h2 : Rt r2 (N * (b * b))) : (decide (r2 * r2 ≠ N * (b * b)) || decide (r2 % b ≠ 0)) = decide (r1 * r1 ≠ N) := by
  have hq := rt_unique (rt_div hb h2) h1
  have e := Nat.div_add_mod r2 b
  rw [hq] at e
  by_cases hm : r2 % b = 0
  · have e2 : r2 = r1 * b := by rw [hm, Nat.add_zero] at e; rw [← e, Nat.mul_comm]
    rw [decide_eq_false (show ¬ r2 % b ≠ 0 by omega), Bool.or_false]
    have e3 : r2 * r2 = r1 * r1 * (b * b) := by rw [e2, Nat.mul_mul_mul_comm]
    rw [e3]
    have hbb := Nat.mul_pos hb hb
    by_cases c : r1 * r1 = N
    · rw [c]; simp
    · have : r1 * r1 * (b * b) ≠ N * (b * b) := fun h => c (Nat.eq_of_mul_eq_mul_right hbb h)
      rw [decide_eq_true this, decide_eq_true c]
  · rw [decide_eq_true hm, Bool.or_true]
    have : r1 * r1 ≠ N := by
      rintro rfl
      have := rt_unique h2 rt_sq
      rw [this, Nat.mul_mod_left] at hm
      exact hm rfl
    rw [decide_eq_true this]
/-- Roots of a number, and of that number with zeros behind, round alike. -/
theorem root_agree (p : Nat) (bias mode : Int) {N r1 r2 d : Nat} {E : Int} (h1 : Rt r1 N) (h2 : Rt r2 (N * (2 ^ d * 2 ^ d))) (hp : p < blen r1) :
    R p bias mode 0 r2 (E - d) (decide (r2 * r2 ≠ N * (2 ^ d * 2 ^ d))) = R p bias mode 0 r1 E (decide (r1 * r1 ≠ N)) := by
  have hq := rt_unique (rt_div (Nat.two_pow_pos d) h2) h1
  have hb : blen r1 = blen r2 - d := by rw [← hq, blen_div_pow]
  have hd : d < blen r2 := by omega
  have hge := quant_ge p (2 - bias - p) r2 (E - d) (blen r2 - 1) (pow_blen_le (by rintro rfl; simp [blen_zero] at hd))
  have s := R_sticky p bias mode 0 r2 d (E - d) (decide (r2 * r2 ≠ N * (2 ^ d * 2 ^ d))) (by omega) hd
  rw [← s, hq, rt_more (Nat.two_pow_pos d) h1 h2]
  congr 1
  omega

-- the program
theorem mul64 (t : Nat) (h : t < 2 ^ 63) : bits_Mul64.f (t : Int) (t : Int) = some (((t * t / 18446744073709551616 : Nat) : Int), ((t * t % 18446744073709551616 : Nat) : Int)) := by
  unfold bits_Mul64.f
  rw [if_pos (by omega), Int.toNat_natCast]
theorem proot (hi lo N : Nat) (h1 : hi < 18446744073709551616) (h0 : lo < 18446744073709551616) (hN : N = hi * 18446744073709551616 + lo) : ∀ (i m k : Nat), i ≤ 63 → m % 2 ^ i = 0 → m + 2 ^ i ≤ 2 ^ 63 → m * m ≤ N → N < (m + 2 ^ i) * (m + 2 ^ i) → i < k →
    ∃ r : Nat, Rt r N ∧ r < 2 ^ 63 ∧ float_root.l0 k hi lo (m : Int) ((i : Int) - 1) = some ((r : Int), decide (r * r ≠ N)) := by
  intro i
  induction i with
  | zero =>
    intro m k _ _ hm hl hu hk
    obtain ⟨k, rfl⟩ : ∃ q, k = q + 1 := ⟨k - 1, by omega⟩
    refine ⟨m, ⟨hl, by simpa using hu⟩, by simp at hm; omega, ?_⟩
    simp only [float_root.l0]
    rw [if_neg (by omega), mul64 m (by simp at hm; omega), bs]
    have hd := Nat.div_add_mod (m * m) 18446744073709551616
    have hl := Nat.mod_lt (m * m) (show 0 < 18446744073709551616 by decide)
    generalize m * m / 18446744073709551616 = a at *
    generalize m * m % 18446744073709551616 = b at *
    by_cases c : (a : Int) = hi
    · rw [if_pos c]
      by_cases c2 : b = lo
      · rw [decide_eq_false (by omega)]; simp [c2]
      · rw [decide_eq_true (by omega)]
        have : (((b : Nat) : Int) != (lo : Int)) = true := by simp; omega
        rw [this]
    · rw [if_neg c, decide_eq_true (by omega)]
  | succ i ih =>
    intro m k hi' hm hs hl hu hk
    obtain ⟨k, rfl⟩ : ∃ q, k = q + 1 := ⟨k - 1, by omega⟩
    have hp := Nat.two_pow_pos i
    have e2 : 2 ^ (i + 1) = 2 * 2 ^ i := by rw [Nat.pow_succ]; omega
    have hpi : 2 ^ i ≤ 2 ^ 62 := Nat.pow_le_pow_right (by omega) (by omega)
    simp only [float_root.l0]
    have ei : (((i + 1 : Nat) : Int) - 1) = (i : Int) := by omega
    rw [ei, if_pos (by omega), if_pos (by omega)]
    have hsh : shl .u64 1 (i : Int) = ((2 ^ i : Nat) : Int) := by
      have := shl_u64 1 i (by omega)
      rw [Nat.one_mul, Nat.mod_eq_of_lt (by omega)] at this
      exact this
    have hm0 : m % 2 ^ i = 0 := by
      have : m % (2 * 2 ^ i) % 2 ^ i = m % 2 ^ i := Nat.mod_mul_left_mod m 2 (2 ^ i)
      rw [← this, ← e2, hm, Nat.zero_mod]
    have hor : Go.bits .or .u64 (m : Int) ((2 ^ i : Nat) : Int) = ((m + 2 ^ i : Nat) : Int) := by
      rw [or_add (m : Int) ((2 ^ i : Nat) : Int) (i + 1) ?_ (by omega) (by omega) (by omega) ?_ (by omega)]
      · push_cast; rfl
      · have : ((2 : Int) ^ (i + 1)) = ((2 ^ (i + 1) : Nat) : Int) := by push_cast; rfl
        rw [this]; omega
      · have : ((2 : Int) ^ (i + 1)) = ((2 ^ (i + 1) : Nat) : Int) := by push_cast; rfl
        rw [this]; omega
    rw [hsh, hor, mul64 (m + 2 ^ i) (by omega), bs]
    have hw : wrap64 ((i : Int) - 1) = (i : Int) - 1 := w64_id (by omega) (by omega)
    rw [hw]
    have hmod : (m + 2 ^ i) % 2 ^ i = 0 := by rw [Nat.add_mod_right]; exact hm0
    have yes := ih (m + 2 ^ i) k (by omega) hmod (by omega)
    have no := ih m k (by omega) hm0 (by omega) hl
    have eu : m + 2 ^ (i + 1) = m + 2 ^ i + 2 ^ i := by omega
    rw [eu] at hu
    have hd := Nat.div_add_mod ((m + 2 ^ i) * (m + 2 ^ i)) 18446744073709551616
    have hlm := Nat.mod_lt ((m + 2 ^ i) * (m + 2 ^ i)) (show 0 < 18446744073709551616 by decide)
    generalize (m + 2 ^ i) * (m + 2 ^ i) = S at *
    generalize S / 18446744073709551616 = a at *
    generalize S % 18446744073709551616 = b at *
    by_cases c : (a : Int) < hi
    · rw [if_pos c]; exact yes (by omega) hu (by omega)
    · rw [if_neg c]
      by_cases c1 : (a : Int) = hi
      · rw [if_pos c1]
        by_cases c2 : (b : Int) ≤ lo
        · rw [if_pos c2]; exact yes (by omega) hu (by omega)
        · rw [if_neg c2]; exact no (by omega) (by omega)
      · rw [if_neg c1]; exact no (by omega) (by omega)
/-- a word of 64 digits, shifted by 61 or 62 -/
theorem left64 (m n : Nat) (hm : m < 18446744073709551616) (hn : n ≤ 62) : float_left.f (m : Int) (n : Int) = some (((m / 2 ^ (64 - n) : Nat) : Int), ((m * 2 ^ n % 18446744073709551616 : Nat) : Int)) ∧ m / 2 ^ (64 - n) * 18446744073709551616 + m * 2 ^ n % 18446744073709551616 = m * 2 ^ n := by
  constructor
  · unfold float_left.f
    have e : wrap64 (64 - (n : Int)) = ((64 - n : Nat) : Int) := by rw [w64_id (by omega) (by omega)]; omega
    rw [if_neg (by omega), e, if_pos (by omega), if_pos (by omega), shr_u64 m (64 - n) (by omega), shl_u64 m n (by omega)]
  · have hp := Nat.two_pow_pos n
    have h64 : 18446744073709551616 = 2 ^ n * 2 ^ (64 - n) := by rw [← Nat.pow_add]; have : n + (64 - n) = 64 := by omega
                                                                 rw [this]
    have hdm := Nat.div_add_mod (m * 2 ^ n) 18446744073709551616
    have : m * 2 ^ n / 18446744073709551616 = m / 2 ^ (64 - n) := by
      rw [h64, Nat.mul_comm m, Nat.mul_div_mul_left _ _ hp]
    rw [this] at hdm
    omega

-- the reference
theorem blen_mul_le (a b : Nat) : blen (a * b) ≤ blen a + blen b := by
  rw [blen_le, Nat.pow_add]
  have h1 := lt_pow_blen a
  have h2 := lt_pow_blen b
  by_cases h : b = 0
  · subst h; rw [Nat.mul_zero]; exact Nat.mul_pos (Nat.two_pow_pos _) (Nat.two_pow_pos _)
  · exact Nat.lt_of_lt_of_le (Nat.mul_lt_mul_of_pos_right h1 (Nat.pos_of_ne_zero h)) (Nat.mul_le_mul_left _ (Nat.le_of_lt h2))
theorem times_l0 (a b : Nat) (ha : blen a ≤ 300) (hb : blen b ≤ 300) : ∀ (j i k : Nat), i + j = blen b → 8000 + j < k →
    quadratref01_Times.l0 k (nat a) (nat b) (nat (a * (b % 2 ^ i))) (i : Int) = some (nat (a * b)) := by
  intro j
  induction j with
  | zero =>
    intro i k hi hk
    obtain ⟨k, rfl⟩ : ∃ q, k = q + 1 := ⟨k - 1, by omega⟩
    simp only [quadratref01_Times.l0]
    rw [length_nat, if_neg (by omega), Nat.mod_eq_of_lt (by have := lt_pow_blen b; rwa [← hi, Nat.add_zero] at this)]
  | succ j ih =>
    intro i k hi hk
    obtain ⟨k, rfl⟩ : ∃ q, k = q + 1 := ⟨k - 1, by omega⟩
    simp only [quadratref01_Times.l0]
    have hr : rd (nat b) (i : Int) = ((b / 2 ^ i % 2 : Nat) : Int) := by unfold rd; rw [Int.toNat_natCast, getD_nat]
    have hd : b / 2 ^ i % 2 < 2 := Nat.mod_lt _ (by omega)
    have hw : wrap64 ((i : Int) + 1) = ((i + 1 : Nat) : Int) := by rw [w64_id (by omega) (by omega)]; push_cast; rfl
    have hm := bit_mod b i
    rw [length_nat, if_pos (by omega), if_pos (by omega), hr, hw]
    by_cases c : b / 2 ^ i % 2 = 1
    · rw [if_pos (by omega), up_nat a i (by omega), bs]
      have l1 : blen (a * (b % 2 ^ i)) ≤ 600 := Nat.le_trans (blen_mono (Nat.mul_le_mul_left a (Nat.mod_le b (2 ^ i)))) (Nat.le_trans (blen_mul_le a b) (by omega))
      have l2 : blen (a * 2 ^ i) ≤ 600 := by
        by_cases h0 : a = 0
        · subst h0; rw [Nat.zero_mul, blen_zero]; omega
        · rw [blen_mul_pow h0]; omega
      rw [plus_nat _ _ k (by omega) (by omega), bs]
      have e : a * (b % 2 ^ i) + a * 2 ^ i = a * (b % 2 ^ (i + 1)) := by rw [hm, c, Nat.mul_one, Nat.mul_add]
      rw [e]
      exact ih (i + 1) k (by omega) (by omega)
    · rw [if_neg (by omega)]
      have e : b % 2 ^ i = b % 2 ^ (i + 1) := by rw [hm, show b / 2 ^ i % 2 = 0 by omega, Nat.mul_zero, Nat.add_zero]
      rw [e]
      exact ih (i + 1) k (by omega) (by omega)
theorem times_nat (a b k : Nat) (ha : blen a ≤ 300) (hb : blen b ≤ 300) (hk : 9000 ≤ k) : quadratref01_Times.f k (nat a) (nat b) = some (nat (a * b)) := by
  unfold quadratref01_Times.f
  have := times_l0 a b ha hb (blen b) 0 k (by omega) (by omega)
  rw [Nat.pow_zero, Nat.mod_one, Nat.mul_zero, nat_zero] at this
  exact this
theorem cmpn_ne (a b : Nat) : (cmpn a b != 0) = decide (a ≠ b) := by
  unfold cmpn
  by_cases h : a < b
  · rw [if_pos h, decide_eq_true (by omega)]; rfl
  · rw [if_neg h]
    by_cases c : a = b
    · rw [if_pos c, decide_eq_false (by omega)]; rfl
    · rw [if_neg c, decide_eq_true c]; rfl
theorem cmpn_le (a b : Nat) : cmpn a b ≤ 0 ↔ a ≤ b := by unfold cmpn; split <;> (try split) <;> omega
theorem blen_sq {m N : Nat} (h : m * m ≤ N) (hN : blen N ≤ 200) : blen m ≤ 100 := by
  rw [blen_le] at hN ⊢
  apply Classical.byContradiction
  intro c
  have := Nat.mul_le_mul (show 2 ^ 100 ≤ m by omega) (show 2 ^ 100 ≤ m by omega)
  have e : 2 ^ 100 * 2 ^ 100 = 2 ^ 200 := by rw [← Nat.pow_add]
  omega
theorem rroot (N : Nat) (hN : blen N ≤ 200) : ∀ (i m k : Nat), i ≤ 110 → m * m ≤ N → N < (m + 2 ^ i) * (m + 2 ^ i) → 20000 + i < k →
    ∃ r : Nat, Rt r N ∧ quadratref01_root.l0 k (nat N) (nat m) ((i : Int) - 1) = some (nat r, decide (r * r ≠ N)) := by
  intro i
  induction i with
  | zero =>
    intro m k _ hl hu hk
    obtain ⟨k, rfl⟩ : ∃ q, k = q + 1 := ⟨k - 1, by omega⟩
    have bm := blen_sq hl hN
    refine ⟨m, ⟨hl, by simpa using hu⟩, ?_⟩
    simp only [quadratref01_root.l0]
    have b2 := blen_mul_le m m
    rw [if_neg (by omega), times_nat m m k (by omega) (by omega) (by omega), bs, cmp_nat _ _ k (by omega) (by omega) (by omega), bs, cmpn_ne]
  | succ i ih =>
    intro m k hi hl hu hk
    obtain ⟨k, rfl⟩ : ∃ q, k = q + 1 := ⟨k - 1, by omega⟩
    have bm := blen_sq hl hN
    simp only [quadratref01_root.l0]
    have ei : (((i + 1 : Nat) : Int) - 1) = (i : Int) := by omega
    have e1 : blen 1 = 1 := by decide
    have e2 : blen (1 * 2 ^ i) = 1 + i := by rw [blen_mul_pow (by decide)]; omega
    have b3 : blen (m + 2 ^ i) ≤ 112 := by
      rw [blen_le] at bm ⊢
      have : 2 ^ i ≤ 2 ^ 110 := Nat.pow_le_pow_right (by omega) (by omega)
      have e3 : (2 : Nat) ^ 112 = 4 * 2 ^ 110 := by rw [show (112 : Nat) = 110 + 2 from rfl, Nat.pow_add, Nat.mul_comm]
      have e4 : (2 : Nat) ^ 100 ≤ 2 ^ 110 := Nat.pow_le_pow_right (by omega) (by omega)
      omega
    have b4 := blen_mul_le (m + 2 ^ i) (m + 2 ^ i)
    have hw : wrap64 ((i : Int) - 1) = (i : Int) - 1 := w64_id (by omega) (by omega)
    rw [ei, if_pos (by omega), one_nat k (by omega), bs, up_nat 1 i (by omega), bs, plus_nat _ _ k (by omega) (by omega), bs, Nat.one_mul, times_nat _ _ k (by omega) (by omega) (by omega), bs,
      cmp_nat _ _ k (by omega) (by omega) (by omega), bs, hw]
    have eu : m + 2 ^ (i + 1) = m + 2 ^ i + 2 ^ i := by rw [Nat.pow_succ]; omega
    rw [eu] at hu
    by_cases c : (m + 2 ^ i) * (m + 2 ^ i) ≤ N
    · rw [if_pos ((cmpn_le _ _).2 c)]; exact ih (m + 2 ^ i) k (by omega) c hu (by omega)
    · rw [if_neg (fun h => c ((cmpn_le _ _).1 h))]; exact ih m k (by omega) hl (by omega) (by omega)
theorem rroot_f (N k : Nat) (hN : blen N ≤ 200) (hk : 20200 ≤ k) : ∃ r : Nat, Rt r N ∧ quadratref01_root.f k (nat N) = some (nat r, decide (r * r ≠ N)) := by
  unfold quadratref01_root.f
  have e : wrap64 (Int.tdiv (wrap64 (((nat N).length : Int) + 1)) 2) = (((blen N + 1) / 2 + 1 : Nat) : Int) - 1 := by
    rw [length_nat, w64_id (n := (blen N : Int) + 1) (by omega) (by omega), Int.tdiv_eq_ediv_of_nonneg (by omega), w64_id (by omega) (by omega)]
    omega
  rw [e, ← nat_zero]
  refine rroot N hN ((blen N + 1) / 2 + 1) 0 k (by omega) (by omega) ?_ (by omega)
  rw [Nat.zero_add, ← Nat.pow_add]
  exact Nat.lt_of_lt_of_le (lt_pow_blen N) (Nat.pow_le_pow_right (by omega) (by omega))

/-- Roots of the same value, at two scales, round alike. -/
theorem root_scale (p : Nat) (bias mode : Int) {m u v r1 r2 : Nat} {E1 E2 : Int} (h1 : Rt r1 (m * 2 ^ u)) (h2 : Rt r2 (m * 2 ^ v)) (hE : 2 * E1 + u = 2 * E2 + v) (hp1 : p < blen r1) (hp2 : p < blen r2) :
    R p bias mode 0 r2 E2 (decide (r2 * r2 ≠ m * 2 ^ v)) = R p bias mode 0 r1 E1 (decide (r1 * r1 ≠ m * 2 ^ u)) := by
  by_cases c : u ≤ v
  · obtain ⟨d, rfl⟩ : ∃ d, v = u + 2 * d := ⟨(v - u) / 2, by omega⟩
    have e : m * 2 ^ (u + 2 * d) = m * 2 ^ u * (2 ^ d * 2 ^ d) := by rw [Nat.pow_add, ← Nat.mul_assoc, Nat.two_mul, Nat.pow_add]
    rw [e] at h2 ⊢
    have := root_agree p bias mode (E := E1) h1 h2 hp1
    rw [show E2 = E1 - d by omega]
    exact this
  · obtain ⟨d, rfl⟩ : ∃ d, u = v + 2 * d := ⟨(u - v) / 2, by omega⟩
    have e : m * 2 ^ (v + 2 * d) = m * 2 ^ v * (2 ^ d * 2 ^ d) := by rw [Nat.pow_add, ← Nat.mul_assoc, Nat.two_mul, Nat.pow_add]
    rw [e] at h1 ⊢
    have := root_agree p bias mode (E := E2) h2 h1 hp2
    rw [show E1 = E2 - d by omega]
    exact this.symm
theorem rt_blen {r N q : Nat} (h : Rt r N) (hN : 2 ^ (2 * q) ≤ N) : q < blen r := by
  rw [lt_blen]
  apply Classical.byContradiction
  intro c
  have := Nat.mul_le_mul (show r + 1 ≤ 2 ^ q by omega) (show r + 1 ≤ 2 ^ q by omega)
  rw [← Nat.pow_add, ← Nat.two_mul] at this
  have := h.2
  omega
theorem tmod2 (x : Int) : Int.tmod x 2 = 0 ↔ x % 2 = 0 := by
  rw [Int.tmod_eq_emod]; split <;> omega
theorem tdiv2 {x : Int} (h : x % 2 = 0) : Int.tdiv x 2 = x / 2 := by
  rw [Int.tdiv_eq_ediv]; split <;> omega
/-- What the program makes of a number above 0. -/
def pSqrt (k : Nat) (p w mode m e : Int) : Option (Int × Int × Int) := (float_number_high.f 1 0 m e).bind fun bt684 => (if (Int.tmod (wrap64 (bt684.2.2.2 - 62)) 2) = 0 then ((float_left.f bt684.2.2.1 62).bind fun bt688 => ((float_root.f k bt688.1 bt688.2).bind fun bt690 => ((float_shape_round.f k p w mode 0 0 bt690.1 (wrap64 (Int.tdiv (wrap64 (bt684.2.2.2 - 62)) 2)) bt690.2).bind fun bt692 => (some (bt692.1, bt692.2, 0))))) else ((float_left.f bt684.2.2.1 61).bind fun bt694 => ((float_root.f k bt694.1 bt694.2).bind fun bt696 => ((float_shape_round.f k p w mode 0 0 bt696.1 (wrap64 (Int.tdiv (wrap64 (bt684.2.2.2 - 61)) 2)) bt696.2).bind fun bt698 => (some (bt698.1, bt698.2, 0))))))
theorem high_eq (c s e : Int) (m : Nat) (hm : m ≠ 0) (hm1 : m < 2 ^ 53) (he0 : -8000 ≤ e) (he1 : e ≤ 8000) : float_number_high.f c s (m : Int) e = some (c, s, ((m * 2 ^ (64 - blen m) : Nat) : Int), e - ((64 - blen m : Nat) : Int)) ∧ 2 ^ 63 ≤ m * 2 ^ (64 - blen m) ∧ m * 2 ^ (64 - blen m) < 2 ^ 64 ∧ blen m ≤ 53 ∧ 1 ≤ blen m := by
  have hb : blen m ≤ 53 := blen_le.2 hm1
  have hp := blen_pos hm
  have l1 := pow_blen_le hm
  have l2 := lt_pow_blen m
  have p1 := Nat.two_pow_pos (64 - blen m)
  have u : m * 2 ^ (64 - blen m) < 2 ^ 64 := by
    have := Nat.mul_lt_mul_of_pos_right l2 p1
    rw [← Nat.pow_add, show blen m + (64 - blen m) = 64 by omega] at this
    exact this
  have l : 2 ^ 63 ≤ m * 2 ^ (64 - blen m) := by
    have := Nat.mul_le_mul_right (2 ^ (64 - blen m)) l1
    rw [← Nat.pow_add, show blen m - 1 + (64 - blen m) = 63 by omega] at this
    exact this
  refine ⟨?_, l, u, hb, hp⟩
  unfold float_number_high.f bits_LeadingZeros64.f
  rw [if_pos (by omega), bs, Int.toNat_natCast, bitLen_blen m (by omega)]
  have e1 : (64 : Int) - (blen m : Int) = ((64 - blen m : Nat) : Int) := by omega
  rw [e1, if_pos (by omega), shl_u64 m (64 - blen m) (by omega), Nat.mod_eq_of_lt u, w64_id (by omega) (by omega)]
theorem psqrt_eq {w bias T : Int} {p : Nat} (h : PK p w bias T) (k : Nat) (hk : 40000 ≤ k) (mode e : Int) (m : Nat) (hm : 0 ≤ mode ∧ mode ≤ 3) (hm0 : m ≠ 0) (hm1 : m < 2 ^ 53) (he0 : -1200 ≤ e) (he1 : e ≤ 1200) :
    ∃ (v r : Nat) (E : Int), 2 * E + v = e ∧ Rt r (m * 2 ^ v) ∧ p < blen r ∧ pSqrt k p w mode m e = some ((pk p T 0 (R p bias mode 0 r E (decide (r * r ≠ m * 2 ^ v)))).1, (pk p T 0 (R p bias mode 0 r E (decide (r * r ≠ m * 2 ^ v)))).2, 0) := by
  have hp1 := h.p1
  obtain ⟨e1, l, u, b1, b0⟩ := high_eq 1 0 e m hm0 hm1 (by omega) (by omega)
  unfold pSqrt
  rw [e1, bs]
  dsimp only
  have key : ∀ n : Nat, (n = 61 ∨ n = 62) → (e - ((64 - blen m : Nat) : Int) - n) % 2 = 0 → ∃ r : Nat, Rt r (m * 2 ^ (64 - blen m + n)) ∧ p < blen r ∧ (float_left.f ((m * 2 ^ (64 - blen m) : Nat) : Int) (n : Int)).bind (fun bt688 => ((float_root.f k bt688.1 bt688.2).bind fun bt690 => ((float_shape_round.f k p w mode 0 0 bt690.1 (wrap64 (Int.tdiv (wrap64 (e - ((64 - blen m : Nat) : Int) - n)) 2)) bt690.2).bind fun bt692 => (some (bt692.1, bt692.2, (0 : Int)))))) =
      some ((pk p T 0 (R p bias mode 0 r ((e - ((64 - blen m : Nat) : Int) - n) / 2) (decide (r * r ≠ m * 2 ^ (64 - blen m + n))))).1, (pk p T 0 (R p bias mode 0 r ((e - ((64 - blen m : Nat) : Int) - n) / 2) (decide (r * r ≠ m * 2 ^ (64 - blen m + n))))).2, 0) := by
    intro n hn hev
    generalize hM : m * 2 ^ (64 - blen m) = M at *
    have hl := left64 M n (by omega) (by omega)
    have hMn : m * 2 ^ (64 - blen m + n) = M * 2 ^ n := by rw [Nat.pow_add, ← Nat.mul_assoc, hM]
    have hp := Nat.two_pow_pos n
    have hu2 : M * 2 ^ n < 2 ^ 126 := by
      have := Nat.mul_lt_mul_of_pos_right u hp
      have e4 : 2 ^ 64 * 2 ^ n ≤ 2 ^ 126 := by rw [← Nat.pow_add]; exact Nat.pow_le_pow_right (by omega) (by omega)
      omega
    have hl2 : 2 ^ 124 ≤ M * 2 ^ n := by
      have := Nat.mul_le_mul_right (2 ^ n) l
      have e4 : 2 ^ 124 ≤ 2 ^ 63 * 2 ^ n := by rw [← Nat.pow_add]; exact Nat.pow_le_pow_right (by omega) (by omega)
      omega
    rw [hl.1, bs]
    dsimp only
    have hlo := Nat.mod_lt (M * 2 ^ n) (show 0 < 18446744073709551616 by decide)
    have hN := hl.2
    have hhi : M / 2 ^ (64 - n) < 18446744073709551616 := Nat.lt_of_le_of_lt (Nat.div_le_self _ _) (by omega)
    generalize M / 2 ^ (64 - n) = hi at *
    generalize M * 2 ^ n % 18446744073709551616 = lo at *
    obtain ⟨r, hr, hr1, hroot⟩ := proot hi lo (M * 2 ^ n) hhi hlo hN.symm 63 0 k (by omega) (by omega) (by omega) (by omega) (by
      rw [Nat.zero_add, ← Nat.pow_add]; exact hu2) (by omega)
    have hroot' : float_root.f k (hi : Int) (lo : Int) = some ((r : Int), decide (r * r ≠ M * 2 ^ n)) := hroot
    have hb := rt_blen (q := 62) hr (by omega)
    rw [hMn]
    refine ⟨r, hr, by omega, ?_⟩
    rw [hroot', bs]
    dsimp only
    have ew : wrap64 (e - ((64 - blen m : Nat) : Int) - n) = e - ((64 - blen m : Nat) : Int) - n := w64_id (by omega) (by omega)
    rw [ew, tdiv2 hev, w64_id (by omega) (by omega)]
    have hr0 : r ≠ 0 := by rintro rfl; simp [blen_zero] at hb
    have hq := quant_ge p (2 - bias - p) r ((e - ((64 - blen m : Nat) : Int) - n) / 2) 62 (lt_blen.1 hb)
    have := round_eq h k hk mode 0 ((e - ((64 - blen m : Nat) : Int) - n) / 2) (decide (r * r ≠ M * 2 ^ n)) r 0 r hm (.inl rfl) hr0 (by omega) (by omega) (by omega) (by omega) (by omega) (fun _ => by omega)
    have this' : float_shape_round.f k (p : Int) w mode 0 0 (r : Int) ((e - ((64 - blen m : Nat) : Int) - n) / 2) (decide (r * r ≠ M * 2 ^ n)) = _ := this
    rw [this', bs]
  have ew : wrap64 (e - ((64 - blen m : Nat) : Int) - 62) = e - ((64 - blen m : Nat) : Int) - 62 := w64_id (by omega) (by omega)
  by_cases c : (e - ((64 - blen m : Nat) : Int) - 62) % 2 = 0
  · obtain ⟨r, h1, h2, h3⟩ := key 62 (.inr rfl) c
    refine ⟨64 - blen m + 62, r, (e - ((64 - blen m : Nat) : Int) - (62 : Nat)) / 2, by omega, h1, h2, ?_⟩
    rw [if_pos (by rw [ew]; exact (tmod2 _).2 c)]; exact h3
  · obtain ⟨r, h1, h2, h3⟩ := key 61 (.inl rfl) (by omega)
    refine ⟨64 - blen m + 61, r, (e - ((64 - blen m : Nat) : Int) - (61 : Nat)) / 2, by omega, h1, h2, ?_⟩
    rw [if_neg (by rw [ew]; exact fun h => c ((tmod2 _).1 h))]; exact h3
/-- What the reference makes of a number above 0. -/
def rSqrt (k : Nat) (kind mode e : Int) (l : List Int) : Option (Int × Int × Int) := (quadratref01_Digits.f kind).bind fun t734 => ((quadratref01_Up.f l (wrap64 ((wrap64 (2 * t734)) + 4))).bind fun t735 => ((quadratref01_Digits.f kind).bind fun t738 => (if (Int.tmod (wrap64 ((wrap64 (e - (wrap64 (2 * t738)))) - 4)) 2) = 0 then ((quadratref01_root.f k t735).bind fun bt739 => ((quadratref01_Rounded.f k kind mode 0 bt739.1 (wrap64 (Int.tdiv (wrap64 ((wrap64 (e - (wrap64 (2 * t738)))) - 4)) 2)) bt739.2).bind fun bt743 => (some (bt743.1, bt743.2, 0)))) else ((quadratref01_Up.f t735 1).bind fun t745 => ((quadratref01_root.f k t745).bind fun bt748 => ((quadratref01_Rounded.f k kind mode 0 bt748.1 (wrap64 (Int.tdiv (wrap64 ((wrap64 ((wrap64 (e - (wrap64 (2 * t738)))) - 4)) - 1)) 2)) bt748.2).bind fun bt752 => (some (bt752.1, bt752.2, 0))))))))
theorem rsqrt_eq {kind bias T : Int} {p : Nat} (h : RK kind p bias T) (k : Nat) (hk : 100200 ≤ k) (mode e : Int) (m : Nat) (hm : 0 ≤ mode ∧ mode ≤ 3) (hm0 : m ≠ 0) (hm1 : m < 2 ^ 53) (he0 : -1200 ≤ e) (he1 : e ≤ 1200) :
    ∃ (v r : Nat) (E : Int), 2 * E + v = e ∧ Rt r (m * 2 ^ v) ∧ p < blen r ∧ rSqrt k kind mode e (nat m) = some ((pk p T 0 (R p bias mode 0 r E (decide (r * r ≠ m * 2 ^ v)))).1, (pk p T 0 (R p bias mode 0 r E (decide (r * r ≠ m * 2 ^ v)))).2, 0) := by
  have hp0 := h.p0
  have hp1 := h.p1
  have hb : blen m ≤ 53 := blen_le.2 hm1
  have w1 : wrap64 (2 * (p : Int)) = 2 * p := w64_id (by omega) (by omega)
  have w2 : wrap64 (2 * (p : Int) + 4) = ((2 * p + 4 : Nat) : Int) := by rw [w64_id (by omega) (by omega)]; push_cast; rfl
  have w3 : wrap64 (e - 2 * p) = e - 2 * p := w64_id (by omega) (by omega)
  have w4 : wrap64 (e - 2 * p - 4) = e - 2 * p - 4 := w64_id (by omega) (by omega)
  have w5 : wrap64 (e - 2 * p - 4 - 1) = e - 2 * p - 4 - 1 := w64_id (by omega) (by omega)
  unfold rSqrt
  rw [h.dig, bs, w1, w2, up_nat m (2 * p + 4) (by omega), bs, bs, w1, w3, w4, w5]
  have pos : m * 2 ^ (2 * p + 4) ≠ 0 := Nat.mul_ne_zero hm0 (Nat.ne_of_gt (Nat.two_pow_pos _))
  have key : ∀ v : Nat, 2 * p + 4 ≤ v → v ≤ 2 * p + 5 → (e - v) % 2 = 0 → ∃ r : Nat, Rt r (m * 2 ^ v) ∧ p < blen r ∧ (quadratref01_root.f k (nat (m * 2 ^ v))).bind (fun bt739 => ((quadratref01_Rounded.f k kind mode 0 bt739.1 (wrap64 (Int.tdiv (e - v) 2)) bt739.2).bind fun bt743 => (some (bt743.1, bt743.2, (0 : Int))))) =
      some ((pk p T 0 (R p bias mode 0 r ((e - v) / 2) (decide (r * r ≠ m * 2 ^ v)))).1, (pk p T 0 (R p bias mode 0 r ((e - v) / 2) (decide (r * r ≠ m * 2 ^ v)))).2, 0) := by
    intro v h1 h2 hev
    have bN : blen (m * 2 ^ v) ≤ 200 := by rw [blen_mul_pow hm0]; omega
    obtain ⟨r, hr, e1⟩ := rroot_f (m * 2 ^ v) k bN (by omega)
    have hl : 2 ^ (2 * (p + 2)) ≤ m * 2 ^ v := by
      have : 2 ^ (2 * (p + 2)) ≤ 2 ^ v := Nat.pow_le_pow_right (by omega) (by omega)
      exact Nat.le_trans this (Nat.le_mul_of_pos_left _ (Nat.pos_of_ne_zero hm0))
    have hb := rt_blen hr hl
    have hr0 : r ≠ 0 := by rintro rfl; simp [blen_zero] at hb
    have hbr := blen_sq hr.1 bN
    refine ⟨r, hr, by omega, ?_⟩
    rw [e1, bs]
    dsimp only
    rw [tdiv2 hev, w64_id (by omega) (by omega), rounded_eq h k (by omega) mode 0 ((e - v) / 2) (decide (r * r ≠ m * 2 ^ v)) r hm (.inl rfl) hr0 (by omega) (by omega) (by omega), bs]
  by_cases c : (e - 2 * p - 4) % 2 = 0
  · rw [if_pos ((tmod2 _).2 c)]
    obtain ⟨r, h1, h2, h3⟩ := key (2 * p + 4) (by omega) (by omega) (by omega)
    refine ⟨2 * p + 4, r, (e - ((2 * p + 4 : Nat) : Int)) / 2, by omega, h1, h2, ?_⟩
    rw [show e - 2 * (p : Int) - 4 = e - ((2 * p + 4 : Nat) : Int) by omega]; exact h3
  · rw [if_neg (fun h => c ((tmod2 _).1 h))]
    have up1 := up_nat (m * 2 ^ (2 * p + 4)) 1 (by rw [blen_mul_pow hm0]; omega)
    have up1' : quadratref01_Up.f (nat (m * 2 ^ (2 * p + 4))) 1 = _ := up1
    obtain ⟨r, h1, h2, h3⟩ := key (2 * p + 5) (by omega) (by omega) (by omega)
    have e2 : m * 2 ^ (2 * p + 4) * 2 ^ 1 = m * 2 ^ (2 * p + 5) := by rw [Nat.mul_assoc, ← Nat.pow_add]
    refine ⟨2 * p + 5, r, (e - ((2 * p + 5 : Nat) : Int)) / 2, by omega, h1, h2, ?_⟩
    rw [up1', bs, e2, show e - 2 * (p : Int) - 4 - 1 = e - ((2 * p + 5 : Nat) : Int) by omega]; exact h3
theorem rq_0_0 : ((0 : Int) = 0) = True := eq_true (by decide)
theorem rq_0_2 : ((0 : Int) = 2) = False := eq_false (by decide)
theorem rq_0_3 : ((0 : Int) = 3) = False := eq_false (by decide)
theorem rq_1_0 : ((1 : Int) = 0) = False := eq_false (by decide)
theorem rq_1_2 : ((1 : Int) = 2) = False := eq_false (by decide)
theorem rq_1_3 : ((1 : Int) = 3) = False := eq_false (by decide)
theorem rq_2_0 : ((2 : Int) = 0) = False := eq_false (by decide)
theorem rq_2_2 : ((2 : Int) = 2) = True := eq_true (by decide)
theorem rq_2_3 : ((2 : Int) = 3) = False := eq_false (by decide)
theorem rq_3_0 : ((3 : Int) = 0) = False := eq_false (by decide)
theorem rq_3_2 : ((3 : Int) = 2) = False := eq_false (by decide)
theorem rq_3_3 : ((3 : Int) = 3) = True := eq_true (by decide)
theorem rl_n_n : (([110, 111, 110, 101] : List UInt8) = [110, 111, 110, 101]) = True := eq_true (by decide)
theorem rl_n_i : (([110, 111, 110, 101] : List UInt8) = [105, 110, 102, 105, 110, 105, 116, 101]) = False := eq_false (by decide)
theorem rl_n_z : (([110, 111, 110, 101] : List UInt8) = [122, 101, 114, 111]) = False := eq_false (by decide)
theorem rl_i_n : (([105, 110, 102, 105, 110, 105, 116, 101] : List UInt8) = [110, 111, 110, 101]) = False := eq_false (by decide)
theorem rl_i_i : (([105, 110, 102, 105, 110, 105, 116, 101] : List UInt8) = [105, 110, 102, 105, 110, 105, 116, 101]) = True := eq_true (by decide)
theorem rl_i_z : (([105, 110, 102, 105, 110, 105, 116, 101] : List UInt8) = [122, 101, 114, 111]) = False := eq_false (by decide)
theorem rl_z_n : (([122, 101, 114, 111] : List UInt8) = [110, 111, 110, 101]) = False := eq_false (by decide)
theorem rl_z_i : (([122, 101, 114, 111] : List UInt8) = [105, 110, 102, 105, 110, 105, 116, 101]) = False := eq_false (by decide)
theorem rl_z_z : (([122, 101, 114, 111] : List UInt8) = [122, 101, 114, 111]) = True := eq_true (by decide)
theorem rl_f_n : (([102, 105, 110, 105, 116, 101] : List UInt8) = [110, 111, 110, 101]) = False := eq_false (by decide)
theorem rl_f_i : (([102, 105, 110, 105, 116, 101] : List UInt8) = [105, 110, 102, 105, 110, 105, 116, 101]) = False := eq_false (by decide)
theorem rl_f_z : (([102, 105, 110, 105, 116, 101] : List UInt8) = [122, 101, 114, 111]) = False := eq_false (by decide)
theorem sqrt_eq (k : Nat) (hk : 100300 ≤ k) (kind mode a : Int) (h0 : -9223372036854775808 ≤ a) (h1 : a < 9223372036854775808) :
    ∃ r, float_Sqrt.f k kind mode a = some r ∧ quadratref01_Sqrt.f k kind mode a = some r := by
  obtain ⟨k, rfl⟩ : ∃ m, k = m + 72 := ⟨k - 72, by omega⟩
  unfold float_Sqrt.f quadratref01_Sqrt.f
  rcases ask k kind mode a a h0 h1 h0 h1 with ⟨hq, p, w, x1, x2, x3, x4, y1, y2, y3, y4, ht⟩ | ⟨hq, hm, p, w, bias, T, x, y, x', y', hr, hp, hof, ht, hx, hy, vx, vy, _, _⟩
  · refine ⟨(0, 0, 2), ?_, ?_⟩
    · rw [ht, bs, if_neg (by simp)]
    · rw [hq, bs, if_neg (by simp)]
  · have hb : (x.2.2.2.2 && y.2.2.2.2) = true := by cases vx <;> cases vy <;> rfl
    rw [ht, bs, hq, bs, if_pos rfl, hx, bs]
    rw [if_pos (show (twv (p : Int) w x y).2.2.2.2.2.2.2.2.2.2 = true from hb)]
    have hp1 := hp.p1
    have hb1 := hp.b1
    have hb0 := hp.b0
    cases vx with
    | none s hs => simp only [twv, if_true, if_false, cNo, cIn, cZe, cFi, rq_0_0, rq_0_2, rq_0_3, rq_1_0, rq_1_2, rq_1_3, rq_2_0, rq_2_2, rq_2_3, rq_3_0, rq_3_2, rq_3_3, rl_n_n, rl_n_i, rl_n_z, rl_i_n, rl_i_i, rl_i_z, rl_z_n, rl_z_i, rl_z_z, rl_f_n, rl_f_i, rl_f_z]; rw [hp.qui, hr.qui, bs]; exact ⟨_, rfl, rfl⟩
    | zero s hs => simp only [twv, if_true, if_false, cNo, cIn, cZe, cFi, rq_0_0, rq_0_2, rq_0_3, rq_1_0, rq_1_2, rq_1_3, rq_2_0, rq_2_2, rq_2_3, rq_3_0, rq_3_2, rq_3_3, rl_n_n, rl_n_i, rl_n_z, rl_i_n, rl_i_i, rl_i_z, rl_z_n, rl_z_i, rl_z_z, rl_f_n, rl_f_i, rl_f_z]; exact ⟨_, rfl, rfl⟩
    | inf s hs =>
      simp only [twv, if_true, if_false, cNo, cIn, cZe, cFi, rq_0_0, rq_0_2, rq_0_3, rq_1_0, rq_1_2, rq_1_3, rq_2_0, rq_2_2, rq_2_3, rq_3_0, rq_3_2, rq_3_3, rl_n_n, rl_n_i, rl_n_z, rl_i_n, rl_i_i, rl_i_z, rl_z_n, rl_z_i, rl_z_z, rl_f_n, rl_f_i, rl_f_z]
      by_cases c : s = 1
      · rw [if_pos c, if_pos c, hp.qui, hr.qui, bs]; exact ⟨_, rfl, rfl⟩
      · rw [if_neg c, if_neg c]; exact ⟨_, rfl, rfl⟩
    | fin s hs m e hm0 hm1 he0 he1 hl =>
      simp only [twv, if_true, if_false, cNo, cIn, cZe, cFi, rq_0_0, rq_0_2, rq_0_3, rq_1_0, rq_1_2, rq_1_3, rq_2_0, rq_2_2, rq_2_3, rq_3_0, rq_3_2, rq_3_3, rl_n_n, rl_n_i, rl_n_z, rl_i_n, rl_i_i, rl_i_z, rl_z_n, rl_z_i, rl_z_z, rl_f_n, rl_f_i, rl_f_z]
      by_cases c : s = 1
      · rw [if_pos c, if_pos c, hp.qui, hr.qui, bs]; exact ⟨_, rfl, rfl⟩
      · have hs0 : s = 0 := by omega
        subst hs0
        rw [if_neg c, if_neg c]
        have hm53 : m < 2 ^ 53 := Nat.lt_of_lt_of_le hm1 (Nat.pow_le_pow_right (by omega) hp1)
        obtain ⟨v, r, E, a1, a2, a3, a4⟩ := psqrt_eq hp (k + 72) (by omega) mode e m hm hm0 hm53 (by omega) (by omega)
        obtain ⟨v', r', E', b1, b2, b3, b4⟩ := rsqrt_eq hr (k + 72) (by omega) mode e m hm hm0 hm53 (by omega) (by omega)
        unfold pSqrt at a4
        unfold rSqrt at b4
        refine ⟨_, a4, ?_⟩
        rw [b4, root_scale p bias mode (E1 := E) (E2 := E') a2 b2 (by omega) a3 b3]
theorem FloatRoots (kind mode a : Int) (h0 : -9223372036854775808 ≤ a) (h1 : a < 9223372036854775808) : ∃ k, quadratlaw01_FloatRoots.f k kind mode a = some true := by
  refine ⟨200000, ?_⟩
  obtain ⟨r, a1, a2⟩ := sqrt_eq 200000 (by omega) kind mode a h0 h1
  unfold quadratlaw01_FloatRoots.f
  have ha : quadratlaw01_Awake.f 200000 = some true := awake 199900
  rw [a1, bs, a2, bs, if_pos rfl, if_pos rfl, if_pos rfl, ha, bs]
end Go.Proofs.Ytgpnmifejgdipaa.Pf
