/-
  The program's round is R. By the session's own hand.
-/
import Derived.Test.YtgpnmifejgdipaaDoorSPj
import Derived.Test.YtgpnmifejgdipaaDoorDf
set_option linter.unusedVariables false
set_option linter.unusedSimpArgs false
namespace Go.Proofs.YtgpnmifejgdipaaDoor.Pf
open Go.RowKit Go.Proofs.YtgpnmifejgdipaaDoor.My Go.Proofs.YtgpnmifejgdipaaDoor.RM Go.Proofs.YtgpnmifejgdipaaDoorW.PrintWords Go.Proofs.YtgpnmifejgdipaaDoorW.PrintLast Go.Proofs.YtgpnmifejgdipaaDoorW.PrintMore

theorem bitLen_blen (n : Nat) (h : n < 18446744073709551616) : Lib.bitLen n = blen n := by
  induction n using Nat.strongRecOn with
  | _ n ih =>
    by_cases h0 : n = 0
    · subst h0; rfl
    · rw [Lib.bitLen_half n h0 (by omega), ih (n / 2) (by omega) (by omega), blen_half h0]; omega
theorem blen_word2 (hi lo : Nat) (h0 : lo < 18446744073709551616) (hh : hi ≠ 0) : blen (hi * 18446744073709551616 + lo) = blen hi + 64 := by
  have := blen_div_pow (hi * 18446744073709551616 + lo) 64
  have e : (hi * 18446744073709551616 + lo) / 2 ^ 64 = hi := by omega
  rw [e] at this
  have := blen_pos hh
  omega
theorem long_eq (hi lo : Nat) (h1 : hi < 18446744073709551616) (h0 : lo < 18446744073709551616) (e : Int) (more : Bool) : float_exact_long.f (hi : Int) (lo : Int) e more = some ((blen (hi * 18446744073709551616 + lo) : Nat) : Int) := by
  unfold float_exact_long.f bits_Len64.f
  by_cases hh : hi = 0
  · subst hh
    rw [if_pos (by omega), if_pos (by omega), bs, Int.toNat_natCast, bitLen_blen lo h0]; simp
  · rw [if_neg (by omega), if_pos (by omega), bs, Int.toNat_natCast, bitLen_blen hi h1, blen_word2 hi lo h0 hh]
    have := blen_word h1
    rw [w64_id (by omega) (by omega)]; congr 1; omega
theorem away_eq (mode sign : Int) (odd : Bool) (c : Nat) (hm : 0 ≤ mode ∧ mode ≤ 3) : float_away.f mode sign odd (c : Int) = some (away mode sign odd c) := by
  unfold float_away.f away
  rcases (by omega : mode = 0 ∨ mode = 1 ∨ mode = 2 ∨ mode = 3) with rfl | rfl | rfl | rfl
  · by_cases h3 : c = 3
    · subst h3; simp
    · by_cases h2 : c = 2
      · subst h2; simp
      · have e3 : ¬ (c : Int) = 3 := by omega
        have e2 : ¬ (c : Int) = 2 := by omega
        simp [h3, h2, e3, e2]
  · simp
  · by_cases h : 0 < c
    · have : (c : Int) > 0 := by omega
      simp [h, this]; rfl
    · have : ¬ (c : Int) > 0 := by omega
      simp [h, this]
  · by_cases h : 0 < c
    · have : (c : Int) > 0 := by omega
      simp [h, this]; rfl
    · have : ¬ (c : Int) > 0 := by omega
      simp [h, this]
theorem pj4 {w bias T : Int} {p : Nat} (h : PK p w bias T) (k : Nat) (sign : Int) (b : Bool) (hs : sign = 0 ∨ sign = 1) :
    float_shape_round.j4 (k + 1) sign b p w = some (pk p T sign (if b then (2 * bias, 2 ^ (p - 1) - 1, 20) else (2 * bias + 1, 0, 20))) := by
  simp only [float_shape_round.j4]
  cases b with
  | true => simp only [if_true]; rw [h.gre sign hs, bs]; rfl
  | false => simp only [Bool.false_eq_true, if_false]; rw [h.inf sign hs, bs]; rfl
theorem pj3 {w bias T : Int} {p : Nat} (h : PK p w bias T) (k : Nat) (mode sign q fl : Int) (M : Nat) (hm : 0 ≤ mode ∧ mode ≤ 3) (hs : sign = 0 ∨ sign = 1) (hq0 : 2 - bias - p ≤ q) (hq1 : q ≤ 90000) (hM : M < 2 ^ p) :
    float_shape_round.j3 (k + 2) mode sign fl q (M : Int) p w = some (pk p T sign (fin2 p bias mode sign fl q M)) := by
  have hp0 := h.p0; have hp1 := h.p1; have hb0 := h.b0; have hb1 := h.b1
  have hpp := pow_p hp0
  have hpos := Nat.two_pow_pos (p - 1)
  have hps := pow_small hp1
  have e1 : wrap64 ((p : Int) - 1) = ((p - 1 : Nat) : Int) := by rw [w64_id (by omega) (by omega)]; omega
  simp only [float_shape_round.j3, e1]
  rw [if_pos (by omega), shl1_u _ (by omega)]
  unfold fin2
  by_cases h1 : M < 2 ^ (p - 1)
  · rw [if_pos (by omega), h.pac sign 0 M hs (by omega) (by omega) (by omega) (by omega), bs, if_pos h1]; rfl
  · have e2 : wrap64 (wrap64 (wrap64 (q + p) - 1) + bias) = q + p - 1 + bias := by rw [w64_id (n := q + p) (by omega) (by omega), w64_id (n := q + p - 1) (by omega) (by omega), w64_id (by omega) (by omega)]
    have e3 : wrap64 (2 * bias + 1) = 2 * bias + 1 := w64_id (by omega) (by omega)
    have e4 : IntKind.u64.wrap (((2 ^ (p - 1) : Nat) : Int) - 1) = ((2 ^ (p - 1) : Nat) : Int) - 1 := by rw [wrap_u64]; omega
    rw [if_neg (by omega), if_neg h1, h.bia, bs, h.top, bs, e2, e3, e4]
    by_cases h2 : q + p - 1 + bias < 2 * bias + 1
    · have e5 : IntKind.u64.wrap (q + p - 1 + bias) = q + p - 1 + bias := by rw [wrap_u64]; omega
      have e6 : Go.bits .and .u64 (M : Int) (((2 ^ (p - 1) : Nat) : Int) - 1) = ((M - 2 ^ (p - 1) : Nat) : Int) := by
        have := and_mask (M : Int) (p - 1) (by omega) (by omega) (by omega)
        have hc : ((2 : Int) ^ (p - 1)) = ((2 ^ (p - 1) : Nat) : Int) := by push_cast; rfl
        rw [hc] at this
        rw [this]
        generalize 2 ^ (p - 1) = x at *
        have : M % x = M - x := by
          rw [Nat.mod_eq_sub_mod (by omega), Nat.mod_eq_of_lt (by omega)]
        omega
      rw [if_pos h2, e5, e6, h.pac sign _ _ hs (by omega) (by omega) (by omega) (by omega), bs, if_pos h2]; rfl
    · rw [if_neg h2, if_neg h2]
      have j := fun b => pj4 h k sign b hs
      rcases (by omega : mode = 0 ∨ mode = 1 ∨ mode = 2 ∨ mode = 3) with rfl | rfl | rfl | rfl <;> rcases hs with rfl | rfl <;> simp [j]
theorem pj2 {w bias T : Int} {p : Nat} (h : PK p w bias T) (k : Nat) (mode sign q fl : Int) (M : Nat) (hm : 0 ≤ mode ∧ mode ≤ 3) (hs : sign = 0 ∨ sign = 1) (hq0 : 2 - bias - p ≤ q) (hq1 : q ≤ 80000) (hM : M ≤ 2 ^ p) :
    float_shape_round.j2 (k + 3) mode sign fl q (M : Int) p w = some (pk p T sign (fin2 p bias mode sign fl (if M = 2 ^ p then q + 1 else q) (if M = 2 ^ p then 2 ^ (p - 1) else M))) := by
  have hp0 := h.p0; have hp1 := h.p1; have hb0 := h.b0; have hb1 := h.b1
  have hpp := pow_p hp0
  have hpos := Nat.two_pow_pos (p - 1)
  simp only [float_shape_round.j2]
  rw [if_pos (by omega), shl1_u _ (by omega)]
  by_cases h1 : M = 2 ^ p
  · have e1 : wrap64 (q + 1) = q + 1 := w64_id (by omega) (by omega)
    have e2 : (M : Int) / 2 = ((2 ^ (p - 1) : Nat) : Int) := by rw [h1, hpp]; omega
    rw [if_pos h1, if_pos h1, if_pos (by omega), e1, e2]
    exact pj3 h k mode sign (q + 1) fl _ hm hs (by omega) (by omega) (by omega)
  · rw [if_neg h1, if_neg h1, if_neg (by omega)]
    exact pj3 h k mode sign q fl M hm hs (by omega) (by omega) (by omega)
theorem pj1 {w bias T : Int} {p : Nat} (h : PK p w bias T) (k : Nat) (mode sign q fl : Int) (M c : Nat) (hm : 0 ≤ mode ∧ mode ≤ 3) (hs : sign = 0 ∨ sign = 1) (hq0 : 2 - bias - p ≤ q) (hq1 : q ≤ 80000) (hM : M < 2 ^ p) :
    float_shape_round.j1 (k + 4) mode sign fl q (M : Int) (c : Int) p w = some (pk p T sign (fin2 p bias mode sign fl (if (if away mode sign (M % 2 == 1) c then M + 1 else M) = 2 ^ p then q + 1 else q) (if (if away mode sign (M % 2 == 1) c then M + 1 else M) = 2 ^ p then 2 ^ (p - 1) else (if away mode sign (M % 2 == 1) c then M + 1 else M)))) := by
  have hp0 := h.p0; have hp1 := h.p1
  have hpp := pow_p hp0
  have hps := pow_small hp1
  simp only [float_shape_round.j1]
  rw [low_bit M (by omega), away_eq mode sign _ c hm, bs]
  cases hA : away mode sign (M % 2 == 1) c with
  | true =>
    simp only [if_true]
    have e : IntKind.u64.wrap ((M : Int) + 1) = ((M + 1 : Nat) : Int) := by rw [wrap_u64]; omega
    rw [e]
    exact pj2 h k mode sign q fl (M + 1) hm hs hq0 hq1 (by omega)
  | false =>
    simp only [Bool.false_eq_true, if_false]
    exact pj2 h k mode sign q fl M hm hs hq0 hq1 (by omega)
theorem pj0 {w bias T : Int} {p : Nat} (h : PK p w bias T) (k : Nat) (mode sign q high : Int) (tiny : Bool) (M c : Nat) (hm : 0 ≤ mode ∧ mode ≤ 3) (hs : sign = 0 ∨ sign = 1) (hq0 : 2 - bias - p ≤ q) (hq1 : q ≤ 80000) (hM : M < 2 ^ p) (ht : tiny = decide (high + 1 ≤ 1 - bias)) :
    float_shape_round.j0 (k + 5) mode sign 0 high q (M : Int) (c : Int) p w = some (pk p T sign (fin p bias mode sign tiny q M c)) := by
  have hp0 := h.p0; have hp1 := h.p1; have hb0 := h.b0; have hb1 := h.b1
  simp only [float_shape_round.j0]
  rw [fin_fin2]
  by_cases h0 : 0 < c
  · have e1 : wrap64 (wrap64 (2 - bias - p + p) - 1) = 1 - bias := by rw [w64_id (n := 2 - bias - p + p) (by omega) (by omega), w64_id (by omega) (by omega)]; omega
    have e2 : Go.bits .or .i64 16 8 = 24 := by kernel_rfl
    rw [if_pos (by omega), if_pos h0, h.lea, bs, e1, e2, ht]
    by_cases h1 : high + 1 ≤ 1 - bias
    · rw [if_pos (by omega), decide_eq_true h1, if_pos rfl]
      exact pj1 h k mode sign q 24 M c hm hs hq0 hq1 hM
    · rw [if_neg (by omega), decide_eq_false h1, if_neg (by simp)]
      exact pj1 h k mode sign q 16 M c hm hs hq0 hq1 hM
  · rw [if_neg (by omega), if_neg h0]
    exact pj1 h k mode sign q 0 M c hm hs hq0 hq1 hM
/-- The program's round. -/
theorem round_eq {w bias T : Int} {p : Nat} (h : PK p w bias T) (k : Nat) (hk : 40000 ≤ k) (mode sign e : Int) (more : Bool) (N hi lo : Nat) (hm : 0 ≤ mode ∧ mode ≤ 3) (hs : sign = 0 ∨ sign = 1) (hN : N ≠ 0)
    (hv : N = hi * 18446744073709551616 + lo) (h1 : hi < 18446744073709551616) (h0 : lo < 18446744073709551616) (he0 : -8000 ≤ e) (he1 : e ≤ 8000) (hmore : more = true → e < quant p (2 - bias - p) N e) :
    float_shape_round.f k p w mode sign hi lo e more = some (pk p T sign (R p bias mode sign N e more)) := by
  have hp0 := h.p0; have hp1 := h.p1; have hb0 := h.b0; have hb1 := h.b1
  obtain ⟨k, rfl⟩ : ∃ m, k = m + 5 := ⟨k - 5, by omega⟩
  have hbN : blen N ≤ 128 := blen_le.2 (by rw [hv]; omega)
  unfold float_shape_round.f
  rw [long_eq hi lo h1 h0, bs, h.lea, bs, ← hv]
  have e1 : wrap64 (wrap64 (e + (blen N : Int)) - 1) = e + blen N - 1 := by rw [w64_id (n := e + (blen N : Int)) (by omega) (by omega), w64_id (by omega) (by omega)]
  have e2 : wrap64 (wrap64 (e + blen N - 1 - p) + 1) = e + blen N - p := by rw [w64_id (n := e + blen N - 1 - p) (by omega) (by omega), w64_id (by omega) (by omega)]; omega
  rw [e1, e2, mx_max]
  unfold R
  dsimp only
  have hq : max (e + (blen N : Int) - p) (2 - bias - p) = quant p (2 - bias - p) N e := rfl
  rw [hq]
  have hq0 : 2 - bias - p ≤ quant p (2 - bias - p) N e := by unfold quant; omega
  have hq1 : e + blen N - p ≤ quant p (2 - bias - p) N e := by unfold quant; omega
  have hq2 : quant p (2 - bias - p) N e ≤ 20000 := by unfold quant; omega
  have ht : decide (e + (blen N : Int) ≤ 1 - bias) = decide (e + blen N - 1 + 1 ≤ 1 - bias) := by congr 1; apply propext; constructor <;> intro _ <;> omega
  generalize quant p (2 - bias - p) N e = q at *
  unfold spl
  by_cases hc : q ≤ e
  · obtain ⟨d, hd⟩ : ∃ d : Nat, e - q = d := ⟨(e - q).toNat, by omega⟩
    have e3 : wrap64 (e - q) = (d : Int) := by rw [w64_id (by omega) (by omega)]; omega
    have hmf : more = false := by cases more with
      | false => rfl
      | true => exact absurd (hmore rfl) (by omega)
    have hbp : blen N ≤ p := by omega
    have hNp : N < 2 ^ p := blen_le.1 hbp
    have hps := pow_small hp1
    have hpp := pow_p hp0
    have hhi : hi = 0 := by omega
    have hlo : lo = N := by omega
    have hM : N * 2 ^ d < 2 ^ p := by
      refine blen_le.1 ?_
      rw [blen_mul_pow hN]; omega
    rw [if_pos hc, if_pos hc, if_pos (show 0 ≤ wrap64 (e - q) by omega), e3, hmf, hlo]
    have hdp : d ≤ 63 := by
      have := blen_pos hN
      omega
    have e4 : shl .u64 (N : Int) (d : Int) = ((N * 2 ^ d : Nat) : Int) := by
      unfold shl
      rw [wrap_u64, Int.toNat_natCast]
      have : min d IntKind.u64.bits = d := by simp only [IntKind.bits]; omega
      rw [this]
      have hc2 : ((N : Int) * 2 ^ d) = ((N * 2 ^ d : Nat) : Int) := by push_cast; rfl
      rw [hc2]; omega
    have e5 : (e - q).toNat = d := by omega
    rw [e4, e5]
    exact pj0 h k mode sign q (e + blen N - 1) _ (N * 2 ^ d) 0 hm hs hq0 (by omega) hM ht
  · obtain ⟨d, hd⟩ : ∃ d : Nat, q - e = d := ⟨(q - e).toNat, by omega⟩
    have e3 : wrap64 (q - e) = (d : Int) := by rw [w64_id (by omega) (by omega)]; omega
    have e5 : (q - e).toNat = d := by omega
    have hps := pow_small hp1
    have hpp := pow_p hp0
    have hM : N / 2 ^ d < 2 ^ p := by
      refine blen_le.1 ?_
      rw [blen_div_pow]; omega
    have hr := right_l0 N more hN d 0 (k + 5) hi lo (by rw [Nat.pow_zero, Nat.div_one]; exact hv) h1 h0 (by rw [Nat.zero_add]; omega) (by omega) (by omega) (by omega)
    rw [Nat.zero_add] at hr
    rw [if_neg hc, if_neg hc, e3, e5]
    unfold float_exact_right.f
    simp only [hf, bl] at hr
    rw [hr, bs]
    exact pj0 h k mode sign q (e + blen N - 1) _ (N / 2 ^ d) _ hm hs hq0 (by omega) hM ht
end Go.Proofs.YtgpnmifejgdipaaDoor.Pf
