/-
  The reference's Rounded is R: the whole function. By the session's own hand.
-/
import Derived.Test.YtgpnmifejgdipaaDoorSPh
import Derived.Test.YtgpnmifejgdipaaDoorDf
set_option linter.unusedVariables false
namespace Go.Proofs.YtgpnmifejgdipaaDoor.Pf
open Go.RowKit Go.Proofs.YtgpnmifejgdipaaDoor.My Go.Proofs.YtgpnmifejgdipaaDoor.RM Go.Proofs.YtgpnmifejgdipaaDoorW.PrintWords Go.Proofs.YtgpnmifejgdipaaDoorW.PrintLast Go.Proofs.YtgpnmifejgdipaaDoorW.PrintMore

theorem cls_zero (k : Nat) (more : Bool) : cls 0 k more = if more then 1 else 0 := by unfold cls; simp
/-- A number with zeros behind is split alike. -/
theorem spl_up (N k : Nat) (e q : Int) (more : Bool) : spl (N * 2 ^ k) (e - k) q more = spl N e q more := by
  unfold spl
  by_cases h1 : q ≤ e - k
  · have h1' : q ≤ e := by omega
    rw [if_pos h1, if_pos h1']
    have : (e - q).toNat = k + (e - k - q).toNat := by omega
    rw [this, Nat.pow_add, Nat.mul_assoc]
  · rw [if_neg h1]
    by_cases h2 : q ≤ e
    · rw [if_pos h2]
      have hk : k = (q - (e - k)).toNat + (e - q).toNat := by omega
      generalize (q - (e - k)).toNat = a at *
      generalize (e - q).toNat = b at *
      subst hk
      have h3 : N * 2 ^ (a + b) = N * 2 ^ b * 2 ^ a := by rw [Nat.pow_add, Nat.mul_assoc, Nat.mul_comm (2 ^ a)]
      rw [h3, Nat.mul_div_cancel _ (Nat.two_pow_pos a), Nat.mul_mod_left, cls_zero]
    · rw [if_neg h2]
      have hk : (q - (e - k)).toNat = (q - e).toNat + k := by omega
      rw [hk]
      generalize hj : (q - e).toNat = j
      have := cls_sticky (N * 2 ^ k) j k (by omega) more
      rw [← this, Nat.mul_div_cancel _ (Nat.two_pow_pos k), Nat.mul_mod_left]
      have h4 : N * 2 ^ k / 2 ^ (j + k) = N / 2 ^ j := by
        rw [Nat.add_comm, Nat.pow_add, ← Nat.div_div_eq_div_mul, Nat.mul_div_cancel _ (Nat.two_pow_pos k)]
      rw [h4]; simp
theorem quant_up (p : Nat) (lst : Int) (N k : Nat) (e : Int) (hN : N ≠ 0) : quant p lst (N * 2 ^ k) (e - k) = quant p lst N e := by
  unfold quant
  have : (e - k : Int) + (blen (N * 2 ^ k) : Nat) = e + blen N := by rw [blen_mul_pow hN]; omega
  rw [this]
/-- A number with zeros behind is rounded alike. -/
theorem R_up' (p : Nat) (bias mode sign : Int) (N k : Nat) (e : Int) (more : Bool) (hN : N ≠ 0) : R p bias mode sign (N * 2 ^ k) (e - k) more = R p bias mode sign N e more := by
  have hb : (e - k : Int) + (blen (N * 2 ^ k) : Nat) = e + blen N := by rw [blen_mul_pow hN]; omega
  unfold R
  simp only [quant_up p _ N k e hN, hb, spl_up]
theorem spl_le (n d : Nat) (e q : Int) (more : Bool) (hd : q = e + d) : spl n e q more = (n / 2 ^ d, clsd (n % 2 ^ d) d more) := by
  unfold spl clsd
  by_cases h : d = 0
  · subst h
    have : (e - q).toNat = 0 := by omega
    rw [if_pos (by omega), this]; simp
  · have : (q - e).toNat = d := by omega
    rw [if_neg (by omega), this, if_neg h]
theorem rj0' {kind bias T : Int} {p : Nat} (h : RK kind p bias T) (k : Nat) (hk : 100000 ≤ k) (mode sign q e : Int) (more : Bool) (n d : Nat) (hm : 0 ≤ mode ∧ mode ≤ 3) (hs : sign = 0 ∨ sign = 1) (hq0 : 2 - bias - p ≤ q) (hq1 : q ≤ 80000) (hM : n / 2 ^ d < 2 ^ p) (hsm : n / 2 ^ d < 2 ^ (p - 1) → q = 2 - bias - p)
    (hd : q = e + d) (hd1 : d ≤ 30000) (hn : blen n ≤ 30000) :
    quadratref01_Rounded.j0 (k + 6) kind mode sign (nat n) e more p q 0 = some (pk p T sign (fin p bias mode sign (decide (e + blen n ≤ 1 - bias)) q (spl n e q more).1 (spl n e q more).2)) := by
  rw [spl_le n d e q more hd]
  exact rj0 h k hk mode sign q e more n d hm hs hq0 hq1 hM hsm hd hd1 hn
theorem mx_max (a b : Int) : mx a b = max a b := by unfold mx; split <;> omega
theorem rounded_eq {kind bias T : Int} {p : Nat} (h : RK kind p bias T) (k : Nat) (hk : 100100 ≤ k) (mode sign e : Int) (more : Bool) (N : Nat) (hm : 0 ≤ mode ∧ mode ≤ 3) (hs : sign = 0 ∨ sign = 1) (hN : N ≠ 0) (hb : blen N ≤ 8000) (he0 : -8000 ≤ e) (he1 : e ≤ 8000) :
    quadratref01_Rounded.f k kind mode sign (nat N) e more = some (pk p T sign (R p bias mode sign N e more)) := by
  have hp0 := h.p0; have hp1 := h.p1; have hb0 := h.b0; have hb1 := h.b1
  obtain ⟨k, rfl⟩ : ∃ m, k = m + 6 := ⟨k - 6, by omega⟩
  have hbp := blen_pos hN
  have e0 := up_nat N 2 (by omega)
  have b2 := blen_mul_pow hN 2
  have e1 : wrap64 (e - 2) = e - 2 := w64_id (by omega) (by omega)
  have hN2 : N * 2 ^ 2 ≠ 0 := Nat.mul_ne_zero hN (by decide)
  unfold quadratref01_Rounded.f
  rw [h.dig, bs, show (2 : Int) = ((2 : Nat) : Int) from rfl, e0, bs, h.lea, bs, length_nat, b2]
  rw [show ((2 : Nat) : Int) = (2 : Int) from rfl, e1]
  have e3 : wrap64 (wrap64 (((blen N + 2 : Nat) : Int) + (e - 2)) - (p : Int)) = e + blen N - p := by rw [w64_id (n := ((blen N + 2 : Nat) : Int) + (e - 2)) (by omega) (by omega), w64_id (by omega) (by omega)]; omega
  rw [e3, mx_max]
  unfold R
  have hq : max (e + (blen N : Int) - p) (2 - bias - p) = quant p (2 - bias - p) N e := rfl
  rw [hq]
  have hq0 : 2 - bias - p ≤ quant p (2 - bias - p) N e := by unfold quant; omega
  have hq1 : e + blen N - p ≤ quant p (2 - bias - p) N e := by unfold quant; omega
  have hq2 : quant p (2 - bias - p) N e ≤ 20000 := by unfold quant; omega
  have hq3 : quant p (2 - bias - p) N e = e + blen N - p ∨ quant p (2 - bias - p) N e = 2 - bias - p := by unfold quant; omega
  generalize quant p (2 - bias - p) N e = q at *
  by_cases hc : q < e - 2
  · rw [if_pos hc]
    obtain ⟨d, hd⟩ : ∃ d : Nat, e - 2 - q = d := ⟨(e - 2 - q).toNat, by omega⟩
    have e4 : wrap64 (e - 2 - q) = (d : Int) := by rw [w64_id (by omega) (by omega)]; omega
    have e5 := up_nat (N * 2 ^ 2) d (by omega)
    have b3 := blen_mul_pow hN2 d
    rw [e4, e5, bs]
    have hM : N * 2 ^ 2 * 2 ^ d / 2 ^ 0 = N * 2 ^ 2 * 2 ^ d := by simp
    have hlt : N * 2 ^ 2 * 2 ^ d < 2 ^ p := blen_le.1 (by omega)
    have hsm : N * 2 ^ 2 * 2 ^ d < 2 ^ (p - 1) → q = 2 - bias - p := by
      intro hh
      have := blen_le.2 hh
      omega
    have hs1 := spl_up (N * 2 ^ 2) d (q + d) q more
    have hs2 := spl_up N 2 e q more
    rw [show q + (d : Int) - d = q from by omega, show q + (d : Int) = e - (2 : Nat) from by omega, hs2] at hs1
    rw [rj0' h k (by omega) mode sign q q more (N * 2 ^ 2 * 2 ^ d) 0 hm hs hq0 (by omega) (by rw [hM]; exact hlt) (by rw [hM]; exact hsm) (by omega) (by omega) (by omega), hs1]
    have : q + (blen (N * 2 ^ 2 * 2 ^ d) : Int) = e + blen N := by omega
    rw [this]
  · rw [if_neg hc]
    obtain ⟨d, hd⟩ : ∃ d : Nat, q = e - 2 + d := ⟨(q - (e - 2)).toNat, by omega⟩
    have hs2 := spl_up N 2 e q more
    rw [show e - ((2 : Nat) : Int) = e - 2 from rfl] at hs2
    have bd : blen (N * 2 ^ 2 / 2 ^ d) = blen N + 2 - d := by rw [blen_div_pow, b2]
    rw [rj0' h k (by omega) mode sign q (e - 2) more (N * 2 ^ 2) d hm hs hq0 (by omega) (blen_le.1 (by omega)) (by intro hh; have := blen_le.2 hh; omega) hd (by omega) (by omega), hs2]
    have : e - 2 + (blen (N * 2 ^ 2) : Int) = e + blen N := by omega
    rw [this]
end Go.Proofs.YtgpnmifejgdipaaDoor.Pf
