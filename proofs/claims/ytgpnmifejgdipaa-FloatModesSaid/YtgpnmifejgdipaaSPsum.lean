/-
  FloatSums: what two floats add up to: the program's words and the reference's digits give the same. By the session's own hand.
-/
import Derived.Test.YtgpnmifejgdipaaSPk
import Derived.Test.YtgpnmifejgdipaaSPl
import Derived.Test.YtgpnmifejgdipaaDf
set_option linter.unusedVariables false
set_option linter.unusedSimpArgs false
set_option linter.unusedVariables false
namespace Go.Proofs.Ytgpnmifejgdipaa.Pf
open Go.RowKit Go.Proofs.Ytgpnmifejgdipaa.My Go.Proofs.Ytgpnmifejgdipaa.RM Go.Proofs.YtgpnmifejgdipaaW.PrintWords Go.Proofs.YtgpnmifejgdipaaW.PrintLast Go.Proofs.YtgpnmifejgdipaaW.PrintMore

theorem blen_add {a b q : Nat} (h : blen a ≤ q) (g : blen b ≤ q) : blen (a + b) ≤ q + 1 := by rw [blen_le] at h g ⊢; rw [Nat.pow_succ]; omega
theorem blen_mono {a b : Nat} (h : a ≤ b) : blen a ≤ blen b := blen_le.2 (Nat.lt_of_le_of_lt h (lt_pow_blen b))
theorem div_mod_of (A P r : Nat) (hr : r < P) : (A * P + r) / P = A ∧ (A * P + r) % P = r := by
  have hP : 0 < P := by omega
  rw [Nat.add_comm, Nat.mul_comm]
  exact ⟨by rw [Nat.add_mul_div_left _ _ hP, Nat.div_eq_of_lt hr, Nat.zero_add], by rw [Nat.add_mul_mod_self_left, Nat.mod_eq_of_lt hr]⟩
theorem quant_ge (p : Nat) (lst : Int) (N : Nat) (e : Int) (b : Nat) (h : 2 ^ b ≤ N) : e + b + 1 - p ≤ quant p lst N e := by
  have := lt_blen.2 h
  unfold quant; omega
theorem R_far_add (p : Nat) (bias mode s : Int) (m n ap : Nat) (f : Int) (hp0 : 11 ≤ p) (hp1 : p ≤ 53) (hm0 : 2 ^ (p - 1) ≤ m) (hn0 : n ≠ 0) (hn : n < 2 ^ 53) (ha : 70 < ap) :
    R p bias mode s (m * 2 ^ ap + n) f false = R p bias mode s (m * 2 ^ 70) (f + ap - 70) true := by
  have hP : 2 ^ 53 ≤ 2 ^ (ap - 10) := Nat.pow_le_pow_right (by omega) (by omega)
  have e1 : m * 2 ^ ap = m * 2 ^ 10 * 2 ^ (ap - 10) := by rw [Nat.mul_assoc, ← Nat.pow_add]; congr 2; omega
  have e2 : m * 2 ^ 70 = m * 2 ^ 10 * 2 ^ 60 := by rw [Nat.mul_assoc, ← Nat.pow_add]
  have b1 : 2 ^ (p - 1 + ap) ≤ m * 2 ^ ap + n := by
    rw [Nat.pow_add]; exact Nat.le_trans (Nat.mul_le_mul_right _ hm0) (Nat.le_add_right _ _)
  have b2 : 2 ^ (p - 1 + 70) ≤ m * 2 ^ 70 := by rw [Nat.pow_add]; exact Nat.mul_le_mul_right _ hm0
  have q1 := quant_ge p (2 - bias - p) _ f _ b1
  have q2 := quant_ge p (2 - bias - p) _ (f + ap - 70) _ b2
  have h1 := R_sticky p bias mode s (m * 2 ^ ap + n) (ap - 10) f false (by omega) (Nat.lt_of_lt_of_le (by omega) (Nat.le_of_lt (lt_blen.2 b1)))
  have h2 := R_sticky p bias mode s (m * 2 ^ 70) 60 (f + ap - 70) true (by omega) (Nat.lt_of_lt_of_le (by omega) (Nat.le_of_lt (lt_blen.2 b2)))
  rw [← h1, ← h2]
  have d1 := div_mod_of (m * 2 ^ 10) (2 ^ (ap - 10)) n (by omega)
  rw [e1, d1.1, d1.2, e2, Nat.mul_div_cancel _ (by decide : 0 < 2 ^ 60), decide_eq_true hn0, Bool.or_true, Bool.true_or]
  congr 1; omega
theorem R_far_sub (p : Nat) (bias mode s : Int) (m n ap : Nat) (f : Int) (hp0 : 11 ≤ p) (hp1 : p ≤ 53) (hm0 : 2 ^ (p - 1) ≤ m) (hn0 : n ≠ 0) (hn : n < 2 ^ 53) (ha : 70 < ap) :
    R p bias mode s (m * 2 ^ ap - n) f false = R p bias mode s (m * 2 ^ 70 - 1) (f + ap - 70) true := by
  have hP : 2 ^ 53 ≤ 2 ^ (ap - 10) := Nat.pow_le_pow_right (by omega) (by omega)
  have hm : 1 ≤ m := Nat.le_trans Nat.one_le_two_pow hm0
  have e1 : m * 2 ^ ap - n = (m * 2 ^ 10 - 1) * 2 ^ (ap - 10) + (2 ^ (ap - 10) - n) := by
    have : m * 2 ^ ap = m * 2 ^ 10 * 2 ^ (ap - 10) := by rw [Nat.mul_assoc, ← Nat.pow_add]; congr 2; omega
    rw [this, Nat.sub_mul, Nat.one_mul]
    have : 2 ^ (ap - 10) ≤ m * 2 ^ 10 * 2 ^ (ap - 10) := Nat.le_mul_of_pos_left _ (by omega)
    omega
  have e2 : m * 2 ^ 70 - 1 = (m * 2 ^ 10 - 1) * 2 ^ 60 + (2 ^ 60 - 1) := by omega
  have b1 : 2 ^ (p - 2 + ap) ≤ m * 2 ^ ap - n := by
    have : 2 ^ (p - 1 + ap) ≤ m * 2 ^ ap := by rw [Nat.pow_add]; exact Nat.mul_le_mul_right _ hm0
    have h2 : 2 ^ (p - 1 + ap) = 2 * 2 ^ (p - 2 + ap) := by rw [← Nat.pow_succ']; congr 1; omega
    have h3 : 2 ^ 53 ≤ 2 ^ (p - 2 + ap) := Nat.pow_le_pow_right (by omega) (by omega)
    omega
  have b2 : 2 ^ (p - 2 + 70) ≤ m * 2 ^ 70 - 1 := by
    have : 2 ^ (p - 1 + 70) ≤ m * 2 ^ 70 := by rw [Nat.pow_add]; exact Nat.mul_le_mul_right _ hm0
    have h2 : 2 ^ (p - 1 + 70) = 2 * 2 ^ (p - 2 + 70) := by rw [← Nat.pow_succ']; congr 1; omega
    have h3 : 1 ≤ 2 ^ (p - 2 + 70) := Nat.one_le_two_pow
    omega
  have q1 := quant_ge p (2 - bias - p) _ f _ b1
  have q2 := quant_ge p (2 - bias - p) _ (f + ap - 70) _ b2
  have h1 := R_sticky p bias mode s (m * 2 ^ ap - n) (ap - 10) f false (by omega) (Nat.lt_of_lt_of_le (by omega) (Nat.le_of_lt (lt_blen.2 b1)))
  have h2 := R_sticky p bias mode s (m * 2 ^ 70 - 1) 60 (f + ap - 70) true (by omega) (Nat.lt_of_lt_of_le (by omega) (Nat.le_of_lt (lt_blen.2 b2)))
  rw [← h1, ← h2]
  have d1 := div_mod_of (m * 2 ^ 10 - 1) (2 ^ (ap - 10)) (2 ^ (ap - 10) - n) (by omega)
  have d2 := div_mod_of (m * 2 ^ 10 - 1) (2 ^ 60) (2 ^ 60 - 1) (by omega)
  rw [e1, d1.1, d1.2, e2, d2.1, d2.2, decide_eq_true (show 2 ^ (ap - 10) - n ≠ 0 by omega), Bool.or_true, Bool.true_or]
  congr 1; omega

/-- what M * 2^low and N * 2^low with signs add up to -/
def addv (p : Nat) (bias T mode s t : Int) (M N : Nat) (low : Int) : Int × Int :=
  if s = t then (if M + N = 0 then (wrap64 ((if mode = 2 then 1 else 0) * T), 0) else pk p T s (R p bias mode s (M + N) low false))
  else if M = N then (wrap64 ((if mode = 2 then 1 else 0) * T), 0)
  else if N ≤ M then pk p T s (R p bias mode s (M - N) low false) else pk p T t (R p bias mode t (N - M) low false)
theorem addv_comm (p : Nat) (bias T mode s t : Int) (M N : Nat) (low : Int) : addv p bias T mode s t M N low = addv p bias T mode t s N M low := by
  unfold addv
  by_cases h : s = t
  · subst h; rw [if_pos rfl, if_pos rfl, Nat.add_comm]
  · rw [if_neg h, if_neg (Ne.symm h)]
    by_cases e : M = N
    · rw [if_pos e, if_pos e.symm]
    · rw [if_neg e, if_neg (Ne.symm e)]
      by_cases c : N ≤ M
      · rw [if_pos c, if_neg (by omega)]
      · rw [if_neg c, if_pos (by omega)]

-- the reference
theorem radd_j3 {kind bias T : Int} {p : Nat} (h : RK kind p bias T) (k : Nat) (hk : 100200 ≤ k) (mode low sg : Int) (S : Nat) (hm : 0 ≤ mode ∧ mode ≤ 3) (hs : sg = 0 ∨ sg = 1) (hb : blen S ≤ 8000) (h0 : -8000 ≤ low) (h1 : low ≤ 8000) :
    quadratref01_Add.j3 k kind mode low sg (nat S) = some (if S = 0 then (wrap64 ((if mode = 2 then 1 else 0) * T), 0, 0) else ((pk p T sg (R p bias mode sg S low false)).1, (pk p T sg (R p bias mode sg S low false)).2, 0)) := by
  obtain ⟨k, rfl⟩ : ∃ m, k = m + 1 := ⟨k - 1, by omega⟩
  simp only [quadratref01_Add.j3]
  rw [length_nat]
  by_cases hS : S = 0
  · subst hS
    rw [if_pos (by rw [blen_zero]; rfl), if_pos rfl]
    by_cases h2 : mode = 2
    · rw [if_pos h2, if_pos h2, h.zer 1 (.inr rfl), bs]
    · rw [if_neg h2, if_neg h2, h.zer 0 (.inl rfl), bs]
  · have := blen_pos hS
    rw [if_neg (by omega), if_neg hS, rounded_eq h k (by omega) mode sg low false S hm hs hS hb h0 h1, bs]
theorem radd_j2 {kind bias T : Int} {p : Nat} (h : RK kind p bias T) (k : Nat) (hk : 100300 ≤ k) (mode : Int) (c1 c2 : ByteArray) (s t e f : Int) (m n : Nat) (hm : 0 ≤ mode ∧ mode ≤ 3) (hs : s = 0 ∨ s = 1) (ht : t = 0 ∨ t = 1) (hm1 : m < 2 ^ 53) (hn1 : n < 2 ^ 53)
    (he0 : -1100 ≤ e) (he1 : e ≤ 1100) (hf0 : -1100 ≤ f) (hf1 : f ≤ 1100) :
    quadratref01_Add.j2 k kind mode c1 s (nat m) e c2 t (nat n) f = some ((addv p bias T mode s t (m * 2 ^ (e - min e f).toNat) (n * 2 ^ (f - min e f).toNat) (min e f)).1, (addv p bias T mode s t (m * 2 ^ (e - min e f).toNat) (n * 2 ^ (f - min e f).toNat) (min e f)).2, 0) := by
  obtain ⟨k, rfl⟩ : ∃ m, k = m + 1 := ⟨k - 1, by omega⟩
  have hmn : mn e f = min e f := by unfold mn; split <;> omega
  have bm : blen m ≤ 53 := blen_le.2 hm1
  have bn : blen n ≤ 53 := blen_le.2 hn1
  simp only [quadratref01_Add.j2, hmn]
  have w1 : wrap64 (e - min e f) = ((e - min e f).toNat : Int) := by rw [w64_id (by omega) (by omega)]; omega
  have w2 : wrap64 (f - min e f) = ((f - min e f).toNat : Int) := by rw [w64_id (by omega) (by omega)]; omega
  rw [w1, w2, up_nat m _ (by omega), bs, up_nat n _ (by omega), bs]
  have bM : blen (m * 2 ^ (e - min e f).toNat) ≤ 2300 := by
    by_cases h0 : m = 0
    · subst h0; rw [Nat.zero_mul, blen_zero]; omega
    · rw [blen_mul_pow h0]; omega
  have bN : blen (n * 2 ^ (f - min e f).toNat) ≤ 2300 := by
    by_cases h0 : n = 0
    · subst h0; rw [Nat.zero_mul, blen_zero]; omega
    · rw [blen_mul_pow h0]; omega
  have l0 : -1100 ≤ min e f := by omega
  have l1 : min e f ≤ 1100 := by omega
  generalize min e f = low at *
  generalize m * 2 ^ (e - low).toNat = M at *
  generalize n * 2 ^ (f - low).toNat = N at *
  have bS : blen (M + N) ≤ 2301 := by
    exact blen_add bM bN
  rw [plus_nat M N k (by omega) (by omega), bs]
  unfold addv
  by_cases hst : s = t
  · rw [if_pos hst, if_pos hst, radd_j3 h k (by omega) mode low s (M + N) hm hs (by omega) (by omega) (by omega)]
    split <;> rfl
  · rw [if_neg hst, if_neg hst, cmp_nat M N k (by omega) (by omega) (by omega), bs]
    by_cases c : N ≤ M
    · have hc : cmpn M N ≥ 0 := by unfold cmpn; rw [if_neg (by omega)]; split <;> omega
      have bD : blen (M - N) ≤ 2300 := Nat.le_trans (blen_mono (Nat.sub_le _ _)) bM
      rw [if_pos hc, minus_nat M N k c (by omega) (by omega), bs, radd_j3 h k (by omega) mode low s (M - N) hm hs (by omega) (by omega) (by omega)]
      by_cases hMN : M = N
      · rw [if_pos (by omega), if_pos hMN]
      · rw [if_neg (by omega), if_neg hMN, if_pos c]
    · have hc : ¬ cmpn M N ≥ 0 := by unfold cmpn; rw [if_pos (by omega)]; omega
      have bD : blen (N - M) ≤ 2300 := Nat.le_trans (blen_mono (Nat.sub_le _ _)) bN
      rw [if_neg hc, minus_nat N M k (by omega) (by omega) (by omega), bs, radd_j3 h k (by omega) mode low t (N - M) hm ht (by omega) (by omega) (by omega)]
      rw [if_neg (by omega), if_neg (show ¬ M = N by omega), if_neg c]
end Go.Proofs.Ytgpnmifejgdipaa.Pf
