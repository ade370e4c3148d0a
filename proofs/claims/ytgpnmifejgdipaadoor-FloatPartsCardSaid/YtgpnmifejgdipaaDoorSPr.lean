/-
  Rounding to so many binary digits, in plain numbers. By the session's own hand.
-/
namespace Go.Proofs.YtgpnmifejgdipaaDoor.RM

/-- how many binary digits -/
def blen (n : Nat) : Nat := if n = 0 then 0 else n.log2 + 1

theorem blen_zero : blen 0 = 0 := rfl
theorem blen_pos {n : Nat} (h : n ≠ 0) : 0 < blen n := by simp [blen, h]
theorem blen_le {n k : Nat} : blen n ≤ k ↔ n < 2 ^ k := by
  unfold blen
  by_cases h : n = 0
  · subst h; simp; exact Nat.two_pow_pos k
  · rw [if_neg h, Nat.succ_le_iff, Nat.log2_lt h]
theorem lt_blen {n k : Nat} : k < blen n ↔ 2 ^ k ≤ n := by
  have := @blen_le n k
  omega
theorem blen_eq {n k : Nat} (h1 : 2 ^ k ≤ n) (h2 : n < 2 ^ (k + 1)) : blen n = k + 1 := by
  have a := lt_blen.2 h1
  have b := blen_le.2 h2
  omega
theorem lt_pow_blen (n : Nat) : n < 2 ^ blen n := blen_le.1 (Nat.le_refl _)
theorem pow_blen_le {n : Nat} (h : n ≠ 0) : 2 ^ (blen n - 1) ≤ n := by
  have := blen_pos h
  exact lt_blen.1 (by omega)
theorem blen_mul_pow {n : Nat} (h : n ≠ 0) (k : Nat) : blen (n * 2 ^ k) = blen n + k := by
  have hp := blen_pos h
  have h1 := pow_blen_le h
  have h2 := lt_pow_blen n
  have e : blen n + k = (blen n - 1 + k) + 1 := by omega
  rw [e]
  apply blen_eq
  · rw [Nat.pow_add]; exact Nat.mul_le_mul_right _ h1
  · have : blen n - 1 + k + 1 = blen n + k := by omega
    rw [this, Nat.pow_add]; exact Nat.mul_lt_mul_of_pos_right h2 (Nat.two_pow_pos k)
theorem blen_div_pow (n k : Nat) : blen (n / 2 ^ k) = blen n - k := by
  by_cases h : blen n ≤ k
  · have : n / 2 ^ k = 0 := Nat.div_eq_of_lt (blen_le.1 h)
    rw [this, blen_zero]; omega
  · have h0 : n ≠ 0 := by rintro rfl; simp [blen_zero] at h
    have h1 := pow_blen_le h0
    have h2 := lt_pow_blen n
    have e : blen n - k = (blen n - k - 1) + 1 := by omega
    rw [e]
    apply blen_eq
    · rw [Nat.le_div_iff_mul_le (Nat.two_pow_pos k), ← Nat.pow_add]
      have : blen n - k - 1 + k = blen n - 1 := by omega
      rw [this]; exact h1
    · rw [Nat.div_lt_iff_lt_mul (Nat.two_pow_pos k), ← Nat.pow_add]
      have : blen n - k - 1 + 1 + k = blen n := by omega
      rw [this]; exact h2

/-- how what lies behind k digits compares with half a unit: 0 nothing, 1 less, 2 half, 3 more -/
def cls (r k : Nat) (more : Bool) : Nat :=
  if r = 0 then (if more then 1 else 0) else if r < 2 ^ (k - 1) then 1 else if r = 2 ^ (k - 1) then (if more then 3 else 2) else 3

theorem cls_sticky (n j k : Nat) (hj : 1 ≤ j) (more : Bool) :
    cls (n / 2 ^ k % 2 ^ j) j (more || decide (n % 2 ^ k ≠ 0)) = cls (n % 2 ^ (j + k)) (j + k) more := by
  have e : n % 2 ^ (j + k) = n / 2 ^ k % 2 ^ j * 2 ^ k + n % 2 ^ k := by
    rw [Nat.add_comm j k, Nat.pow_add, Nat.mod_mul]; rw [Nat.mul_comm]; omega
  rw [e]
  have hlt := Nat.mod_lt n (Nat.two_pow_pos k)
  generalize n / 2 ^ k % 2 ^ j = a at *
  generalize n % 2 ^ k = b at *
  have hpw : 2 ^ (j + k - 1) = 2 ^ (j - 1) * 2 ^ k := by rw [← Nat.pow_add]; congr 1; omega
  have hp := Nat.two_pow_pos k
  have hcp := Nat.two_pow_pos (j - 1)
  unfold cls
  rw [hpw]
  generalize 2 ^ (j - 1) = c at *
  generalize 2 ^ k = d at *
  by_cases hb : b = 0
  · subst hb
    simp only [Nat.add_zero]
    have h0 : a * d = 0 ↔ a = 0 := by simp [Nat.mul_eq_zero]; omega
    have h1 : a * d < c * d ↔ a < c := Nat.mul_lt_mul_right (a := d) hp
    have h2 : a * d = c * d ↔ a = c := Nat.mul_left_inj (by omega)
    simp [h0, h1, h2]
  · have h0 : ¬ a * d + b = 0 := by omega
    rw [if_neg h0]
    have hm : (more || decide (b ≠ 0)) = true := by simp [hb]
    rw [hm]
    rcases Nat.lt_trichotomy a c with h | h | h
    · have : a * d + b < c * d := by
        have : (a + 1) * d ≤ c * d := Nat.mul_le_mul_right _ h
        rw [Nat.add_mul] at this; omega
      rw [if_pos this]
      by_cases ha : a = 0
      · simp [ha]
      · simp [ha, h]
    · subst h
      rw [if_neg (show ¬ a * d + b < a * d by omega), if_neg (show ¬ a * d + b = a * d by omega)]
      rw [if_neg (show ¬ a = 0 by omega)]
      simp
    · have : c * d ≤ a * d := Nat.mul_le_mul_right _ (Nat.le_of_lt h)
      rw [if_neg (show ¬ a * d + b < c * d by omega), if_neg (show ¬ a * d + b = c * d by omega)]
      rw [if_neg (show ¬ a = 0 by omega), if_neg (show ¬ a < c by omega), if_neg (show ¬ a = c by omega)]

/-- the exponent of the last digit that is kept -/
def quant (p : Nat) (lst : Int) (N : Nat) (e : Int) : Int := max (e + blen N - p) lst

/-- the digits kept, and the class of what is left -/
def spl (N : Nat) (e q : Int) (more : Bool) : Nat × Nat :=
  if q ≤ e then (N * 2 ^ (e - q).toNat, if more then 1 else 0)
  else (N / 2 ^ (q - e).toNat, cls (N % 2 ^ (q - e).toNat) (q - e).toNat more)

def away (mode sign : Int) (odd : Bool) (c : Nat) : Bool :=
  if mode = 0 then c == 3 || (c == 2 && odd) else if mode = 2 then decide (0 < c) && decide (sign = 1)
  else if mode = 3 then decide (0 < c) && decide (sign = 0) else false

/-- the fields of the exponent and of the digits, and the flags -/
def fin (p : Nat) (bias : Int) (mode sign : Int) (tiny : Bool) (q : Int) (M c : Nat) : Int × Nat × Int :=
  let M1 := if away mode sign (M % 2 == 1) c then M + 1 else M
  let M2 := if M1 = 2 ^ p then 2 ^ (p - 1) else M1
  let q2 := if M1 = 2 ^ p then q + 1 else q
  let fl : Int := if 0 < c then (if tiny then 24 else 16) else 0
  if M2 < 2 ^ (p - 1) then (0, M2, fl)
  else if q2 + p - 1 + bias < 2 * bias + 1 then (q2 + p - 1 + bias, M2 - 2 ^ (p - 1), fl)
  else if mode = 1 ∨ (mode = 2 ∧ sign = 0) ∨ (mode = 3 ∧ sign = 1) then (2 * bias, 2 ^ (p - 1) - 1, 20)
  else (2 * bias + 1, 0, 20)

/-- (N and, if more, something below its last digit) * 2^e, rounded -/
def R (p : Nat) (bias mode sign : Int) (N : Nat) (e : Int) (more : Bool) : Int × Nat × Int :=
  let q := quant p (2 - bias - p) N e
  fin p bias mode sign (decide (e + blen N ≤ 1 - bias)) q (spl N e q more).1 (spl N e q more).2

theorem blen_pos_iff {n : Nat} : 0 < blen n ↔ n ≠ 0 := by
  constructor
  · intro h hn; subst hn; simp [blen_zero] at h
  · exact blen_pos

/-- Digits that are shifted out and noted beforehand do not matter. -/
theorem R_sticky (p : Nat) (bias mode sign : Int) (N k : Nat) (e : Int) (more : Bool)
    (hq : e + k < quant p (2 - bias - p) N e) (hN : k < blen N) :
    R p bias mode sign (N / 2 ^ k) (e + k) (more || decide (N % 2 ^ k ≠ 0)) = R p bias mode sign N e more := by
  have hb : (e + k : Int) + (blen (N / 2 ^ k) : Nat) = e + blen N := by rw [blen_div_pow]; omega
  have hqq : quant p (2 - bias - p) (N / 2 ^ k) (e + k) = quant p (2 - bias - p) N e := by
    unfold quant; rw [hb]
  unfold R
  simp only [hqq, hb]
  generalize quant p (2 - bias - p) N e = q at *
  have e1 : (q - e).toNat = (q - (e + k)).toNat + k := by omega
  have s : spl (N / 2 ^ k) (e + k) q (more || decide (N % 2 ^ k ≠ 0)) = spl N e q more := by
    unfold spl
    rw [if_neg (by omega), if_neg (by omega), e1]
    generalize hj : (q - (e + k)).toNat = j
    rw [cls_sticky N j k (by omega)]
    rw [Nat.div_div_eq_div_mul, ← Nat.pow_add, Nat.add_comm k j]
  rw [s]

/-- A number with zeros behind is the same. -/
theorem R_up (p : Nat) (bias mode sign : Int) (N k : Nat) (e : Int) (hN : N ≠ 0) :
    R p bias mode sign (N * 2 ^ k) (e - k) false = R p bias mode sign N e false := by
  have hb : (e - k : Int) + (blen (N * 2 ^ k) : Nat) = e + blen N := by rw [blen_mul_pow hN]; omega
  have hqq : quant p (2 - bias - p) (N * 2 ^ k) (e - k) = quant p (2 - bias - p) N e := by
    unfold quant; rw [hb]
  unfold R
  simp only [hqq, hb]
  generalize quant p (2 - bias - p) N e = q at *
  have s : spl (N * 2 ^ k) (e - k) q false = spl N e q false := by
    unfold spl
    by_cases h1 : q ≤ e - k
    · have h1' : q ≤ e := by omega
      rw [if_pos h1, if_pos h1']
      have : (e - q).toNat = k + (e - k - q).toNat := by omega
      rw [this, Nat.pow_add, Nat.mul_assoc]
    · rw [if_neg h1]
      by_cases h2 : q ≤ e
      · rw [if_pos h2]
        have hk : k = (q - (e - k)).toNat + (e - q).toNat := by omega
        generalize (q - (e - k)).toNat = a at *
        generalize (e - q).toNat = b at *
        subst hk
        have h3 : N * 2 ^ (a + b) = N * 2 ^ b * 2 ^ a := by rw [Nat.pow_add, Nat.mul_assoc, Nat.mul_comm (2 ^ a)]
        rw [h3, Nat.mul_div_cancel _ (Nat.two_pow_pos a), Nat.mul_mod_left]
        simp [cls]
      · rw [if_neg h2]
        have hk : (q - (e - k)).toNat = (q - e).toNat + k := by omega
        rw [hk]
        generalize hj : (q - e).toNat = j
        have := cls_sticky (N * 2 ^ k) j k (by omega) false
        rw [← this, Nat.mul_div_cancel _ (Nat.two_pow_pos k), Nat.mul_mod_left]
        have h4 : N * 2 ^ k / 2 ^ (j + k) = N / 2 ^ j := by
          rw [Nat.add_comm, Nat.pow_add, ← Nat.div_div_eq_div_mul, Nat.mul_div_cancel _ (Nat.two_pow_pos k)]
        rw [h4]; simp
  rw [s]

end Go.Proofs.YtgpnmifejgdipaaDoor.RM
