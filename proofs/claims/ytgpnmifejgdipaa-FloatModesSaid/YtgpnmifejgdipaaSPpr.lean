/-
  FloatProducts: products and quotients are what the reference says (printed by gen_pr.py). By the session's own hand.
-/
import Derived.Test.YtgpnmifejgdipaaSPdv
import Derived.Test.YtgpnmifejgdipaaSPrt
import Derived.Test.YtgpnmifejgdipaaDf
set_option linter.unusedVariables false
set_option linter.unusedSimpArgs false
namespace Go.Proofs.Ytgpnmifejgdipaa.Pf
open Go.RowKit Go.Proofs.Ytgpnmifejgdipaa.My Go.Proofs.Ytgpnmifejgdipaa.RM Go.Proofs.YtgpnmifejgdipaaW.PrintWords Go.Proofs.YtgpnmifejgdipaaW.PrintLast Go.Proofs.YtgpnmifejgdipaaW.PrintMore

/-- The reference's division, digit by digit. -/
theorem divide_l0 (a b : Nat) (hb : b ≠ 0) (ha : blen a ≤ 300) (hbb : blen b ≤ 300) : ∀ (i k : Nat) (D : List Int), i ≤ blen a → Dig D → D.length = blen a - i → val D = a / 2 ^ i / b → 2000 + i < k →
    quadratref01_Divide.l0 k (nat a) (nat b) (List.replicate i 0 ++ D) (nat (a / 2 ^ i % b)) ((i : Int) - 1) = some (nat (a / b), nat (a % b)) := by
  intro i
  induction i with
  | zero =>
    intro k D _ hD hl hv hk
    obtain ⟨k, rfl⟩ : ∃ m, k = m + 1 := ⟨k - 1, by omega⟩
    simp only [quadratref01_Divide.l0]
    rw [if_neg (by omega), List.replicate_zero, List.nil_append, trim_dig k D hD (by omega) (by omega), bs, hv, Nat.pow_zero, Nat.div_one]
  | succ i ih =>
    intro k D hi hD hl hv hk
    obtain ⟨k, rfl⟩ : ∃ m, k = m + 1 := ⟨k - 1, by omega⟩
    simp only [quadratref01_Divide.l0]
    have ei : (((i + 1 : Nat) : Int) - 1) = (i : Int) := by omega
    have hr : rd (nat a) (i : Int) = ((a / 2 ^ i % 2 : Nat) : Int) := by unfold rd; rw [Int.toNat_natCast, getD_nat]
    have hb2 : a / 2 ^ i % 2 < 2 := Nat.mod_lt _ (by omega)
    have hw : wrap64 ((i : Int) - 1) = (i : Int) - 1 := w64_id (by omega) (by omega)
    have hA : a / 2 ^ i = 2 * (a / 2 ^ (i + 1)) + a / 2 ^ i % 2 := by
      rw [Nat.pow_succ, ← Nat.div_div_eq_div_mul]; omega
    have e1 := Nat.div_add_mod (a / 2 ^ (i + 1)) b
    have l1 := Nat.mod_lt (a / 2 ^ (i + 1)) (Nat.pos_of_ne_zero hb)
    have br : blen (a / 2 ^ (i + 1) % b) ≤ 300 := Nat.le_trans (blen_mono (Nat.le_of_lt l1)) hbb
    have hdig : Dig ([((a / 2 ^ i % 2 : Nat) : Int)] ++ nat (a / 2 ^ (i + 1) % b)) := dig_append (dig_one (by omega)) (dig_nat _)
    have hval : val ([((a / 2 ^ i % 2 : Nat) : Int)] ++ nat (a / 2 ^ (i + 1) % b)) = 2 * (a / 2 ^ (i + 1) % b) + a / 2 ^ i % 2 := by
      rw [List.singleton_append]; simp only [val]; rw [val_nat, Int.toNat_natCast]; omega
    have hlen : ([((a / 2 ^ i % 2 : Nat) : Int)] ++ nat (a / 2 ^ (i + 1) % b)).length = 1 + blen (a / 2 ^ (i + 1) % b) := by rw [List.length_append, length_nat]; rfl
    rw [ei, if_pos (by omega), if_pos (by omega), length_nat, if_pos (by omega), hr, bs, if_pos (by rw [length_nat]; simp; omega), trim_dig k _ hdig (by omega) (by omega), bs, hval]
    generalize hbit : a / 2 ^ i % 2 = bit at *
    generalize hr0 : a / 2 ^ (i + 1) % b = r at *
    generalize hQ : a / 2 ^ (i + 1) / b = Q at *
    have bt : blen (2 * r + bit) ≤ 301 := by
      have : 2 * r + bit ≤ 2 * b := by omega
      have h2 : blen (2 * b) ≤ 301 := by
        have := blen_mul_pow hb 1
        rw [Nat.pow_one, Nat.mul_comm] at this; omega
      exact Nat.le_trans (blen_mono this) h2
    rw [cmp_nat _ b k (by omega) (by omega) (by omega), bs]
    have hAb : a / 2 ^ i = b * (2 * Q) + (2 * r + bit) := by
      have : b * (2 * Q) = 2 * (b * Q) := by rw [Nat.mul_left_comm]
      omega
    have hzero : List.replicate (i + 1) (0 : Int) ++ D = List.replicate i 0 ++ (0 :: D) := by
      rw [List.replicate_succ', List.append_assoc]; rfl
    by_cases c : b ≤ 2 * r + bit
    · have hc : cmpn (2 * r + bit) b ≥ 0 := by unfold cmpn; rw [if_neg (by omega)]; split <;> omega
      have hset : (List.replicate (i + 1) (0 : Int) ++ D).set (i : Int).toNat 1 = List.replicate i 0 ++ (1 :: D) := by
        rw [hzero, Int.toNat_natCast, List.set_append_right _ _ (by simp)]
        simp
      have hq : a / 2 ^ i / b = 2 * Q + 1 ∧ a / 2 ^ i % b = 2 * r + bit - b := by
        have e : a / 2 ^ i = (2 * Q + 1) * b + (2 * r + bit - b) := by
          have : (2 * Q + 1) * b = b * (2 * Q) + b := by rw [Nat.add_mul, Nat.one_mul, Nat.mul_comm b]
          omega
        rw [e]; exact div_mod_of _ _ _ (by omega)
      rw [if_pos hc, minus_nat _ b k c (by omega) (by omega), bs, if_pos (by simp; omega), hset, hw, ← hq.2]
      refine ih k (1 :: D) (by omega) ?_ (by simp; omega) ?_ (by omega)
      · intro d hd; rcases List.mem_cons.1 hd with rfl | hd
        · exact .inr rfl
        · exact hD d hd
      · simp only [val]; rw [hv, hq.1]; simp; omega
    · have hc : ¬ cmpn (2 * r + bit) b ≥ 0 := by unfold cmpn; rw [if_pos (by omega)]; omega
      have hq : a / 2 ^ i / b = 2 * Q ∧ a / 2 ^ i % b = 2 * r + bit := by
        have e : a / 2 ^ i = (2 * Q) * b + (2 * r + bit) := by rw [Nat.mul_comm (2 * Q)]; omega
        rw [e]; exact div_mod_of _ _ _ (by omega)
      rw [if_neg hc, hzero, hw, ← hq.2]
      refine ih k (0 :: D) (by omega) ?_ (by simp; omega) ?_ (by omega)
      · intro d hd; rcases List.mem_cons.1 hd with rfl | hd
        · exact .inl rfl
        · exact hD d hd
      · simp only [val]; rw [hv, hq.1]; simp
theorem divide_nat (a b k : Nat) (hb : b ≠ 0) (ha : blen a ≤ 300) (hbb : blen b ≤ 300) (hk : 3000 ≤ k) : quadratref01_Divide.f k (nat a) (nat b) = some (nat (a / b), nat (a % b)) := by
  unfold quadratref01_Divide.f
  have h0 : a / 2 ^ blen a = 0 := Nat.div_eq_of_lt (lt_pow_blen a)
  have := divide_l0 a b hb ha hbb (blen a) k [] (Nat.le_refl _) (fun _ h => by cases h) (by simp) (by rw [h0]; simp [val]) (by omega)
  rw [h0, Nat.zero_mod, nat_zero, List.append_nil] at this
  rw [length_nat, if_pos (by omega), Int.toNat_natCast, if_pos (by omega), w64_id (by omega) (by omega)]
  exact this

/-- Quotients of the same value, at two scales, round alike. -/
theorem quot_agree (p : Nat) (bias mode sg : Int) {X n d : Nat} {E : Int} (hn : n ≠ 0) (hp : p < blen (X / n)) :
    R p bias mode sg (X * 2 ^ d / n) (E - d) (decide (X * 2 ^ d % n ≠ 0)) = R p bias mode sg (X / n) E (decide (X % n ≠ 0)) := by
  have hn' := Nat.pos_of_ne_zero hn
  have pd := Nat.two_pow_pos d
  have e := Nat.div_add_mod X n
  have l := Nat.mod_lt X hn'
  have split : X * 2 ^ d / n = X / n * 2 ^ d + X % n * 2 ^ d / n ∧ X * 2 ^ d % n = X % n * 2 ^ d % n := by
    have e2 : X * 2 ^ d = X % n * 2 ^ d + n * (X / n * 2 ^ d) := by
      rw [← Nat.mul_assoc, ← Nat.add_mul, Nat.add_comm]; rw [e]
    rw [e2, Nat.add_mul_div_left _ _ hn', Nat.add_mul_mod_self_left]
    exact ⟨by omega, rfl⟩
  have small : X % n * 2 ^ d / n < 2 ^ d := by
    rw [Nat.div_lt_iff_lt_mul hn', Nat.mul_comm (2 ^ d)]
    exact Nat.mul_lt_mul_of_pos_right l pd
  have hq := div_mod_of (X / n) (2 ^ d) (X % n * 2 ^ d / n) small
  rw [← split.1] at hq
  have hb : blen (X / n) = blen (X * 2 ^ d / n) - d := by rw [← hq.1, blen_div_pow]
  have hd : d < blen (X * 2 ^ d / n) := by omega
  have hge := quant_ge p (2 - bias - p) (X * 2 ^ d / n) (E - d) (blen (X * 2 ^ d / n) - 1) (pow_blen_le (by intro h0; rw [h0] at hd; simp [blen_zero] at hd))
  have s := R_sticky p bias mode sg (X * 2 ^ d / n) d (E - d) (decide (X * 2 ^ d % n ≠ 0)) (by omega) hd
  have more : (decide (X * 2 ^ d % n ≠ 0) || decide (X * 2 ^ d / n % 2 ^ d ≠ 0)) = decide (X % n ≠ 0) := by
    rw [hq.2, split.2]
    by_cases c : X % n = 0
    · rw [c, Nat.zero_mul, Nat.zero_div, Nat.zero_mod]; rfl
    · rw [decide_eq_true c]
      have ed := Nat.div_add_mod (X % n * 2 ^ d) n
      have ne : X % n * 2 ^ d ≠ 0 := Nat.mul_ne_zero c (Nat.ne_of_gt pd)
      by_cases g : X % n * 2 ^ d % n = 0
      · have : X % n * 2 ^ d / n ≠ 0 := by intro h0; rw [h0, g] at ed; simp at ed; omega
        rw [decide_eq_true this, Bool.or_true]
      · rw [decide_eq_true g, Bool.true_or]
  rw [← s, hq.1, more]
  congr 1
  omega
theorem quot_scale (p : Nat) (bias mode sg : Int) {m n u v : Nat} {E1 E2 : Int} (hn : n ≠ 0) (hE : E1 + u = E2 + v) (hp1 : p < blen (m * 2 ^ u / n)) (hp2 : p < blen (m * 2 ^ v / n)) :
    R p bias mode sg (m * 2 ^ v / n) E2 (decide (m * 2 ^ v % n ≠ 0)) = R p bias mode sg (m * 2 ^ u / n) E1 (decide (m * 2 ^ u % n ≠ 0)) := by
  by_cases c : u ≤ v
  · obtain ⟨d, rfl⟩ : ∃ d, v = u + d := ⟨v - u, by omega⟩
    have := quot_agree p bias mode sg (X := m * 2 ^ u) (d := d) (E := E1) hn hp1
    rw [Nat.pow_add, ← Nat.mul_assoc, show E2 = E1 - d by omega]; exact this
  · obtain ⟨d, rfl⟩ : ∃ d, u = v + d := ⟨u - v, by omega⟩
    have := quot_agree p bias mode sg (X := m * 2 ^ v) (d := d) (E := E2) hn hp2
    rw [Nat.pow_add, ← Nat.mul_assoc, show E1 = E2 - d by omega]; exact this.symm
theorem ne0 (n : Nat) : (((n : Nat) : Int) != 0) = decide (n ≠ 0) := by
  by_cases h : n = 0
  · subst h; rfl
  · rw [decide_eq_true h]; simp; omega
def pDiv (k : Nat) (p w mode sg s m e t n f : Int) : Option (Int × Int × Int) := ((float_number_high.f 1 s m e).bind fun bt827 => ((float_number_high.f 1 t n f).bind fun bt831 => ((bits_Div64.f k (bt827.2.2.1 / 2) (IntKind.u64.wrap (bt827.2.2.1 * 9223372036854775808)) bt831.2.2.1).bind fun bt835 => ((float_shape_round.f k p w mode sg 0 bt835.1 (wrap64 ((wrap64 (bt827.2.2.2 - bt831.2.2.2)) - 63)) (bt835.2 != 0)).bind fun bt837 => (some (bt837.1, bt837.2, 0))))))
theorem two63 (M : Nat) : M / 2 * 18446744073709551616 + M % 2 * 9223372036854775808 = M * 9223372036854775808 := by omega
theorem pdiv_eq {w bias T : Int} {p : Nat} (h : PK p w bias T) (k : Nat) (hk : 40000 ≤ k) (mode sg s t e f : Int) (m n : Nat) (hm : 0 ≤ mode ∧ mode ≤ 3) (hs : sg = 0 ∨ sg = 1) (hm0 : m ≠ 0) (hn0 : n ≠ 0) (hm1 : m < 2 ^ 53) (hn1 : n < 2 ^ 53) (he0 : -1200 ≤ e) (he1 : e ≤ 1200) (hf0 : -1200 ≤ f) (hf1 : f ≤ 1200) :
    ∃ (v : Nat) (E : Int), v + (64 - blen n) = 64 - blen m + 63 ∧ E + v = e - f ∧ p < blen (m * 2 ^ v / n) ∧ pDiv k p w mode sg s m e t n f = some ((pk p T sg (R p bias mode sg (m * 2 ^ v / n) E (decide (m * 2 ^ v % n ≠ 0)))).1, (pk p T sg (R p bias mode sg (m * 2 ^ v / n) E (decide (m * 2 ^ v % n ≠ 0)))).2, 0) := by
  have hp1 := h.p1
  obtain ⟨a1, a2, a3, a4, a5⟩ := high_eq 1 s e m hm0 hm1 (by omega) (by omega)
  obtain ⟨b1, b2, b3, b4, b5⟩ := high_eq 1 t f n hn0 hn1 (by omega) (by omega)
  unfold pDiv
  rw [a1, bs, b1, bs]
  dsimp only
  have hv : ∃ v : Nat, v + (64 - blen n) = 64 - blen m + 63 := ⟨64 - blen m + 63 - (64 - blen n), by omega⟩
  obtain ⟨v, hv⟩ := hv
  have hnp := Nat.pos_of_ne_zero hn0
  have pb := Nat.two_pow_pos (64 - blen n)
  have hX : m * 2 ^ (64 - blen m) * 9223372036854775808 = m * 2 ^ v * 2 ^ (64 - blen n) := by
    rw [show (9223372036854775808 : Nat) = 2 ^ 63 from rfl, Nat.mul_assoc, ← Nat.pow_add, Nat.mul_assoc, ← Nat.pow_add, hv]
  have q1 : m * 2 ^ (64 - blen m) * 9223372036854775808 / (n * 2 ^ (64 - blen n)) = m * 2 ^ v / n := by rw [hX, Nat.mul_div_mul_right _ _ pb]
  have q2 : m * 2 ^ (64 - blen m) * 9223372036854775808 % (n * 2 ^ (64 - blen n)) = m * 2 ^ v % n * 2 ^ (64 - blen n) := by rw [hX, Nat.mul_mod_mul_right]
  generalize m * 2 ^ (64 - blen m) = M at *
  generalize hN : n * 2 ^ (64 - blen n) = N at *
  have hw : IntKind.u64.wrap ((M : Int) * 9223372036854775808) = ((M % 2 * 9223372036854775808 : Nat) : Int) := by rw [wrap_u64]; omega
  have hM2 : (M : Int) / 2 = ((M / 2 : Nat) : Int) := by omega
  have htot := two63 M
  rw [hw, hM2, div64_eq (M / 2) (M % 2 * 9223372036854775808) N k (by omega) (by omega) (by omega) (by omega) (by omega) (by omega), bs, htot, q1, q2]
  have hq64 : m * 2 ^ v / n < 18446744073709551616 := by rw [← q1, Nat.div_lt_iff_lt_mul (by omega)]; omega
  have hq62 : 2 ^ 62 ≤ m * 2 ^ v / n := by rw [← q1, Nat.le_div_iff_mul_le (by omega)]; omega
  dsimp only
  rw [ne0]
  have hmore : decide (m * 2 ^ v % n * 2 ^ (64 - blen n) ≠ 0) = decide (m * 2 ^ v % n ≠ 0) := by
    by_cases c : m * 2 ^ v % n = 0
    · rw [c, Nat.zero_mul]
    · rw [decide_eq_true c, decide_eq_true (Nat.mul_ne_zero c (Nat.ne_of_gt pb))]
  rw [hmore]
  have hb := lt_blen.2 hq62
  have w1 : wrap64 (e - ((64 - blen m : Nat) : Int) - (f - ((64 - blen n : Nat) : Int))) = e - ((64 - blen m : Nat) : Int) - (f - ((64 - blen n : Nat) : Int)) := w64_id (by omega) (by omega)
  have w2 : wrap64 (e - ((64 - blen m : Nat) : Int) - (f - ((64 - blen n : Nat) : Int)) - 63) = e - f - v := by rw [w64_id (by omega) (by omega)]; omega
  refine ⟨v, e - f - v, hv, by omega, by omega, ?_⟩
  rw [w1, w2]
  generalize m * 2 ^ v / n = q at *
  generalize decide (m * 2 ^ v % n ≠ 0) = more at *
  have hq := quant_ge p (2 - bias - p) q (e - f - v) 62 hq62
  have := round_eq h k hk mode sg (e - f - v) more q 0 q hm hs (by omega) (by omega) (by omega) (by omega) (by omega) (by omega) (fun _ => by omega)
  have this' : float_shape_round.f k (p : Int) w mode sg 0 (q : Int) (e - f - v) more = _ := this
  rw [this', bs]
def rDiv (k : Nat) (kind mode sg : Int) (l : List Int) (e : Int) (l2 : List Int) (f : Int) : Option (Int × Int × Int) := ((quadratref01_Digits.f kind).bind fun t881 => ((quadratref01_Up.f l (wrap64 ((wrap64 (2 * t881)) + 4))).bind fun t882 => ((quadratref01_Divide.f k t882 l2).bind fun bt885 => ((quadratref01_Digits.f kind).bind fun t891 => ((quadratref01_Rounded.f k kind mode sg bt885.1 (wrap64 ((wrap64 ((wrap64 (e - f)) - (wrap64 (2 * t891)))) - 4)) (decide (0 < bt885.2.length))).bind fun bt892 => (some (bt892.1, bt892.2, 0)))))))
theorem rdiv_eq {kind bias T : Int} {p : Nat} (h : RK kind p bias T) (k : Nat) (hk : 100200 ≤ k) (mode sg e f : Int) (m n : Nat) (hm : 0 ≤ mode ∧ mode ≤ 3) (hs : sg = 0 ∨ sg = 1) (hm0 : m ≠ 0) (hn0 : n ≠ 0) (hm1 : m < 2 ^ p) (hn1 : n < 2 ^ p) (he0 : -1200 ≤ e) (he1 : e ≤ 1200) (hf0 : -1200 ≤ f) (hf1 : f ≤ 1200) :
    p < blen (m * 2 ^ (2 * p + 4) / n) ∧ rDiv k kind mode sg (nat m) e (nat n) f = some ((pk p T sg (R p bias mode sg (m * 2 ^ (2 * p + 4) / n) (e - f - ((2 * p + 4 : Nat) : Int)) (decide (m * 2 ^ (2 * p + 4) % n ≠ 0)))).1, (pk p T sg (R p bias mode sg (m * 2 ^ (2 * p + 4) / n) (e - f - ((2 * p + 4 : Nat) : Int)) (decide (m * 2 ^ (2 * p + 4) % n ≠ 0)))).2, 0) := by
  have hp0 := h.p0
  have hp1 := h.p1
  have bm : blen m ≤ p := blen_le.2 hm1
  have bn : blen n ≤ p := blen_le.2 hn1
  have w1 : wrap64 (2 * (p : Int)) = 2 * p := w64_id (by omega) (by omega)
  have w2 : wrap64 (2 * (p : Int) + 4) = ((2 * p + 4 : Nat) : Int) := by rw [w64_id (by omega) (by omega)]; push_cast; rfl
  have w3 : wrap64 (e - f) = e - f := w64_id (by omega) (by omega)
  have w4 : wrap64 (e - f - 2 * p) = e - f - 2 * p := w64_id (by omega) (by omega)
  have w5 : wrap64 (e - f - 2 * p - 4) = e - f - ((2 * p + 4 : Nat) : Int) := by rw [w64_id (by omega) (by omega)]; push_cast; omega
  have hq : 2 ^ (p + 4) ≤ m * 2 ^ (2 * p + 4) / n := by
    rw [Nat.le_div_iff_mul_le (Nat.pos_of_ne_zero hn0)]
    have a1 : 2 ^ (p + 4) * n ≤ 2 ^ (p + 4) * 2 ^ p := Nat.mul_le_mul_left _ (Nat.le_of_lt hn1)
    rw [← Nat.pow_add, show p + 4 + p = 2 * p + 4 by omega] at a1
    exact Nat.le_trans a1 (Nat.le_mul_of_pos_left _ (Nat.pos_of_ne_zero hm0))
  have hb := lt_blen.2 hq
  have bX : blen (m * 2 ^ (2 * p + 4)) ≤ 200 := by rw [blen_mul_pow hm0]; omega
  have bq : blen (m * 2 ^ (2 * p + 4) / n) ≤ 200 := Nat.le_trans (blen_mono (Nat.div_le_self _ _)) bX
  refine ⟨by omega, ?_⟩
  unfold rDiv
  rw [h.dig, bs, w1, w2, up_nat m (2 * p + 4) (by omega), bs, divide_nat _ n k hn0 (by omega) (by omega) (by omega), bs, bs, w1, w3, w4, w5]
  dsimp only
  have hmore : decide (0 < (nat (m * 2 ^ (2 * p + 4) % n)).length) = decide (m * 2 ^ (2 * p + 4) % n ≠ 0) := by
    rw [length_nat]
    by_cases c : m * 2 ^ (2 * p + 4) % n = 0
    · rw [c, blen_zero]; rfl
    · rw [decide_eq_true c, decide_eq_true (blen_pos c)]
  have q0 : m * 2 ^ (2 * p + 4) / n ≠ 0 := by intro c; rw [c] at hb; simp [blen_zero] at hb
  rw [hmore, rounded_eq h k (by omega) mode sg _ _ _ hm hs q0 (by omega) (by omega) (by omega), bs]
theorem sgn {s t : Int} (hs : s = 0 ∨ s = 1) (ht : t = 0 ∨ t = 1) : Go.bits .xor .i64 s t = (if s = t then (0 : Int) else 1) ∧ Int.tmod (wrap64 (s + t)) 2 = (if s = t then (0 : Int) else 1) ∧ ((if s = t then (0 : Int) else 1) = 0 ∨ (if s = t then (0 : Int) else 1) = 1) := by
  rcases hs with rfl | rfl <;> rcases ht with rfl | rfl <;> exact ⟨by decide +kernel, by decide +kernel, by decide +kernel⟩
theorem mq_0_0 : ((0 : Int) = 0) = True := eq_true (by decide)
theorem mb_0_0 : ((0 : Int) == 0) = true := by decide
theorem mn_0_0 : ((0 : Int) != 0) = false := by decide
theorem mq_0_1 : ((0 : Int) = 1) = False := eq_false (by decide)
theorem mb_0_1 : ((0 : Int) == 1) = false := by decide
theorem mn_0_1 : ((0 : Int) != 1) = true := by decide
theorem mq_0_2 : ((0 : Int) = 2) = False := eq_false (by decide)
theorem mb_0_2 : ((0 : Int) == 2) = false := by decide
theorem mn_0_2 : ((0 : Int) != 2) = true := by decide
theorem mq_0_3 : ((0 : Int) = 3) = False := eq_false (by decide)
theorem mb_0_3 : ((0 : Int) == 3) = false := by decide
theorem mn_0_3 : ((0 : Int) != 3) = true := by decide
theorem mq_1_0 : ((1 : Int) = 0) = False := eq_false (by decide)
theorem mb_1_0 : ((1 : Int) == 0) = false := by decide
theorem mn_1_0 : ((1 : Int) != 0) = true := by decide
theorem mq_1_1 : ((1 : Int) = 1) = True := eq_true (by decide)
theorem mb_1_1 : ((1 : Int) == 1) = true := by decide
theorem mn_1_1 : ((1 : Int) != 1) = false := by decide
theorem mq_1_2 : ((1 : Int) = 2) = False := eq_false (by decide)
theorem mb_1_2 : ((1 : Int) == 2) = false := by decide
theorem mn_1_2 : ((1 : Int) != 2) = true := by decide
theorem mq_1_3 : ((1 : Int) = 3) = False := eq_false (by decide)
theorem mb_1_3 : ((1 : Int) == 3) = false := by decide
theorem mn_1_3 : ((1 : Int) != 3) = true := by decide
theorem mq_2_0 : ((2 : Int) = 0) = False := eq_false (by decide)
theorem mb_2_0 : ((2 : Int) == 0) = false := by decide
theorem mn_2_0 : ((2 : Int) != 0) = true := by decide
theorem mq_2_1 : ((2 : Int) = 1) = False := eq_false (by decide)
theorem mb_2_1 : ((2 : Int) == 1) = false := by decide
theorem mn_2_1 : ((2 : Int) != 1) = true := by decide
theorem mq_2_2 : ((2 : Int) = 2) = True := eq_true (by decide)
theorem mb_2_2 : ((2 : Int) == 2) = true := by decide
theorem mn_2_2 : ((2 : Int) != 2) = false := by decide
theorem mq_2_3 : ((2 : Int) = 3) = False := eq_false (by decide)
theorem mb_2_3 : ((2 : Int) == 3) = false := by decide
theorem mn_2_3 : ((2 : Int) != 3) = true := by decide
theorem mq_3_0 : ((3 : Int) = 0) = False := eq_false (by decide)
theorem mb_3_0 : ((3 : Int) == 0) = false := by decide
theorem mn_3_0 : ((3 : Int) != 0) = true := by decide
theorem mq_3_1 : ((3 : Int) = 1) = False := eq_false (by decide)
theorem mb_3_1 : ((3 : Int) == 1) = false := by decide
theorem mn_3_1 : ((3 : Int) != 1) = true := by decide
theorem mq_3_2 : ((3 : Int) = 2) = False := eq_false (by decide)
theorem mb_3_2 : ((3 : Int) == 2) = false := by decide
theorem mn_3_2 : ((3 : Int) != 2) = true := by decide
theorem mq_3_3 : ((3 : Int) = 3) = True := eq_true (by decide)
theorem mb_3_3 : ((3 : Int) == 3) = true := by decide
theorem mn_3_3 : ((3 : Int) != 3) = false := by decide
theorem ml_None_None : (sNone.toList = ([110, 111, 110, 101] : List UInt8)) = True := eq_true (by decide +kernel)
theorem mlb_None_None : (sNone.toList == ([110, 111, 110, 101] : List UInt8)) = true := by decide +kernel
theorem ml_None_Inf : (sNone.toList = ([105, 110, 102, 105, 110, 105, 116, 101] : List UInt8)) = False := eq_false (by decide +kernel)
theorem mlb_None_Inf : (sNone.toList == ([105, 110, 102, 105, 110, 105, 116, 101] : List UInt8)) = false := by decide +kernel
theorem ml_None_Zero : (sNone.toList = ([122, 101, 114, 111] : List UInt8)) = False := eq_false (by decide +kernel)
theorem mlb_None_Zero : (sNone.toList == ([122, 101, 114, 111] : List UInt8)) = false := by decide +kernel
theorem ml_Inf_None : (sInf.toList = ([110, 111, 110, 101] : List UInt8)) = False := eq_false (by decide +kernel)
theorem mlb_Inf_None : (sInf.toList == ([110, 111, 110, 101] : List UInt8)) = false := by decide +kernel
theorem ml_Inf_Inf : (sInf.toList = ([105, 110, 102, 105, 110, 105, 116, 101] : List UInt8)) = True := eq_true (by decide +kernel)
theorem mlb_Inf_Inf : (sInf.toList == ([105, 110, 102, 105, 110, 105, 116, 101] : List UInt8)) = true := by decide +kernel
theorem ml_Inf_Zero : (sInf.toList = ([122, 101, 114, 111] : List UInt8)) = False := eq_false (by decide +kernel)
theorem mlb_Inf_Zero : (sInf.toList == ([122, 101, 114, 111] : List UInt8)) = false := by decide +kernel
theorem ml_Zero_None : (sZero.toList = ([110, 111, 110, 101] : List UInt8)) = False := eq_false (by decide +kernel)
theorem mlb_Zero_None : (sZero.toList == ([110, 111, 110, 101] : List UInt8)) = false := by decide +kernel
theorem ml_Zero_Inf : (sZero.toList = ([105, 110, 102, 105, 110, 105, 116, 101] : List UInt8)) = False := eq_false (by decide +kernel)
theorem mlb_Zero_Inf : (sZero.toList == ([105, 110, 102, 105, 110, 105, 116, 101] : List UInt8)) = false := by decide +kernel
theorem ml_Zero_Zero : (sZero.toList = ([122, 101, 114, 111] : List UInt8)) = True := eq_true (by decide +kernel)
theorem mlb_Zero_Zero : (sZero.toList == ([122, 101, 114, 111] : List UInt8)) = true := by decide +kernel
theorem ml_Fin_None : (sFin.toList = ([110, 111, 110, 101] : List UInt8)) = False := eq_false (by decide +kernel)
theorem mlb_Fin_None : (sFin.toList == ([110, 111, 110, 101] : List UInt8)) = false := by decide +kernel
theorem ml_Fin_Inf : (sFin.toList = ([105, 110, 102, 105, 110, 105, 116, 101] : List UInt8)) = False := eq_false (by decide +kernel)
theorem mlb_Fin_Inf : (sFin.toList == ([105, 110, 102, 105, 110, 105, 116, 101] : List UInt8)) = false := by decide +kernel
theorem ml_Fin_Zero : (sFin.toList = ([122, 101, 114, 111] : List UInt8)) = False := eq_false (by decide +kernel)
theorem mlb_Fin_Zero : (sFin.toList == ([122, 101, 114, 111] : List UInt8)) = false := by decide +kernel
theorem mul_eq (k : Nat) (hk : 100300 ≤ k) (kind mode a b : Int) (ha0 : -9223372036854775808 ≤ a) (ha1 : a < 9223372036854775808) (hb0 : -9223372036854775808 ≤ b) (hb1 : b < 9223372036854775808) :
    ∃ r, float_Mul.f k kind mode a b = some r ∧ quadratref01_Mul.f k kind mode a b = some r := by
  obtain ⟨k, rfl⟩ : ∃ m, k = m + 72 := ⟨k - 72, by omega⟩
  unfold float_Mul.f quadratref01_Mul.f
  rcases ask k kind mode a b ha0 ha1 hb0 hb1 with ⟨hq, p, w, x1, x2, x3, x4, y1, y2, y3, y4, ht⟩ | ⟨hq, hm, p, w, bias, T, x, y, x', y', hr, hp, hof, ht, hx, hy, vx, vy, _, _⟩
  · refine ⟨(0, 0, 2), ?_, ?_⟩
    · rw [ht, bs, if_neg (by simp)]
    · rw [hq, bs, if_neg (by simp)]
  · have hb : (x.2.2.2.2 && y.2.2.2.2) = true := by cases vx <;> cases vy <;> rfl
    rw [ht, bs, hq, bs, if_pos rfl, hx, bs, hy, bs]
    rw [if_pos (show (twv (p : Int) w x y).2.2.2.2.2.2.2.2.2.2 = true from hb)]
    have hp1 := hp.p1
    have hp0 := hp.p0
    have kb1 := hp.b1
    have kb0 := hp.b0
    clear ht hx hy hb hq hof
    cases vx with
    | none s hs =>
      cases vy with
      | none t ht =>
        obtain ⟨sg1, sg2, hsg⟩ := sgn hs ht
        simp only [twv, if_true, if_false, Bool.false_eq_true, float_Mul.j0, float_Mul.j1, float_Mul.j2, float_Mul.j3, quadratref01_Mul.j0, quadratref01_Mul.j1, quadratref01_Mul.j2, quadratref01_Mul.j3, mq_0_0, mb_0_0, mn_0_0, mq_0_1, mb_0_1, mn_0_1, mq_0_2, mb_0_2, mn_0_2, mq_0_3, mb_0_3, mn_0_3, mq_1_0, mb_1_0, mn_1_0, mq_1_1, mb_1_1, mn_1_1, mq_1_2, mb_1_2, mn_1_2, mq_1_3, mb_1_3, mn_1_3, mq_2_0, mb_2_0, mn_2_0, mq_2_1, mb_2_1, mn_2_1, mq_2_2, mb_2_2, mn_2_2, mq_2_3, mb_2_3, mn_2_3, mq_3_0, mb_3_0, mn_3_0, mq_3_1, mb_3_1, mn_3_1, mq_3_2, mb_3_2, mn_3_2, mq_3_3, mb_3_3, mn_3_3, ml_None_None, mlb_None_None, ml_None_Inf, mlb_None_Inf, ml_None_Zero, mlb_None_Zero, ml_Inf_None, mlb_Inf_None, ml_Inf_Inf, mlb_Inf_Inf, ml_Inf_Zero, mlb_Inf_Zero, ml_Zero_None, mlb_Zero_None, ml_Zero_Inf, mlb_Zero_Inf, ml_Zero_Zero, mlb_Zero_Zero, ml_Fin_None, mlb_Fin_None, ml_Fin_Inf, mlb_Fin_Inf, ml_Fin_Zero, mlb_Fin_Zero]
        (try simp only [sg1, sg2])
        generalize (if s = t then (0 : Int) else 1) = sg at *
        first | (rw [hp.qui, bs, hr.qui, bs]; exact ⟨_, rfl, rfl⟩) | (rw [hp.inf _ hsg, bs, hr.inf _ hsg, bs]; exact ⟨_, rfl, rfl⟩) | (rw [hp.zer _ hsg, bs, hr.zer _ hsg, bs]; exact ⟨_, rfl, rfl⟩)
      | inf t ht =>
        obtain ⟨sg1, sg2, hsg⟩ := sgn hs ht
        simp only [twv, if_true, if_false, Bool.false_eq_true, float_Mul.j0, float_Mul.j1, float_Mul.j2, float_Mul.j3, quadratref01_Mul.j0, quadratref01_Mul.j1, quadratref01_Mul.j2, quadratref01_Mul.j3, mq_0_0, mb_0_0, mn_0_0, mq_0_1, mb_0_1, mn_0_1, mq_0_2, mb_0_2, mn_0_2, mq_0_3, mb_0_3, mn_0_3, mq_1_0, mb_1_0, mn_1_0, mq_1_1, mb_1_1, mn_1_1, mq_1_2, mb_1_2, mn_1_2, mq_1_3, mb_1_3, mn_1_3, mq_2_0, mb_2_0, mn_2_0, mq_2_1, mb_2_1, mn_2_1, mq_2_2, mb_2_2, mn_2_2, mq_2_3, mb_2_3, mn_2_3, mq_3_0, mb_3_0, mn_3_0, mq_3_1, mb_3_1, mn_3_1, mq_3_2, mb_3_2, mn_3_2, mq_3_3, mb_3_3, mn_3_3, ml_None_None, mlb_None_None, ml_None_Inf, mlb_None_Inf, ml_None_Zero, mlb_None_Zero, ml_Inf_None, mlb_Inf_None, ml_Inf_Inf, mlb_Inf_Inf, ml_Inf_Zero, mlb_Inf_Zero, ml_Zero_None, mlb_Zero_None, ml_Zero_Inf, mlb_Zero_Inf, ml_Zero_Zero, mlb_Zero_Zero, ml_Fin_None, mlb_Fin_None, ml_Fin_Inf, mlb_Fin_Inf, ml_Fin_Zero, mlb_Fin_Zero]
        (try simp only [sg1, sg2])
        generalize (if s = t then (0 : Int) else 1) = sg at *
        first | (rw [hp.qui, bs, hr.qui, bs]; exact ⟨_, rfl, rfl⟩) | (rw [hp.inf _ hsg, bs, hr.inf _ hsg, bs]; exact ⟨_, rfl, rfl⟩) | (rw [hp.zer _ hsg, bs, hr.zer _ hsg, bs]; exact ⟨_, rfl, rfl⟩)
      | zero t ht =>
        obtain ⟨sg1, sg2, hsg⟩ := sgn hs ht
        simp only [twv, if_true, if_false, Bool.false_eq_true, float_Mul.j0, float_Mul.j1, float_Mul.j2, float_Mul.j3, quadratref01_Mul.j0, quadratref01_Mul.j1, quadratref01_Mul.j2, quadratref01_Mul.j3, mq_0_0, mb_0_0, mn_0_0, mq_0_1, mb_0_1, mn_0_1, mq_0_2, mb_0_2, mn_0_2, mq_0_3, mb_0_3, mn_0_3, mq_1_0, mb_1_0, mn_1_0, mq_1_1, mb_1_1, mn_1_1, mq_1_2, mb_1_2, mn_1_2, mq_1_3, mb_1_3, mn_1_3, mq_2_0, mb_2_0, mn_2_0, mq_2_1, mb_2_1, mn_2_1, mq_2_2, mb_2_2, mn_2_2, mq_2_3, mb_2_3, mn_2_3, mq_3_0, mb_3_0, mn_3_0, mq_3_1, mb_3_1, mn_3_1, mq_3_2, mb_3_2, mn_3_2, mq_3_3, mb_3_3, mn_3_3, ml_None_None, mlb_None_None, ml_None_Inf, mlb_None_Inf, ml_None_Zero, mlb_None_Zero, ml_Inf_None, mlb_Inf_None, ml_Inf_Inf, mlb_Inf_Inf, ml_Inf_Zero, mlb_Inf_Zero, ml_Zero_None, mlb_Zero_None, ml_Zero_Inf, mlb_Zero_Inf, ml_Zero_Zero, mlb_Zero_Zero, ml_Fin_None, mlb_Fin_None, ml_Fin_Inf, mlb_Fin_Inf, ml_Fin_Zero, mlb_Fin_Zero]
        (try simp only [sg1, sg2])
        generalize (if s = t then (0 : Int) else 1) = sg at *
        first | (rw [hp.qui, bs, hr.qui, bs]; exact ⟨_, rfl, rfl⟩) | (rw [hp.inf _ hsg, bs, hr.inf _ hsg, bs]; exact ⟨_, rfl, rfl⟩) | (rw [hp.zer _ hsg, bs, hr.zer _ hsg, bs]; exact ⟨_, rfl, rfl⟩)
      | fin t ht n f hn0 hn1 hf0 hf1 hl =>
        obtain ⟨sg1, sg2, hsg⟩ := sgn hs ht
        simp only [twv, if_true, if_false, Bool.false_eq_true, float_Mul.j0, float_Mul.j1, float_Mul.j2, float_Mul.j3, quadratref01_Mul.j0, quadratref01_Mul.j1, quadratref01_Mul.j2, quadratref01_Mul.j3, mq_0_0, mb_0_0, mn_0_0, mq_0_1, mb_0_1, mn_0_1, mq_0_2, mb_0_2, mn_0_2, mq_0_3, mb_0_3, mn_0_3, mq_1_0, mb_1_0, mn_1_0, mq_1_1, mb_1_1, mn_1_1, mq_1_2, mb_1_2, mn_1_2, mq_1_3, mb_1_3, mn_1_3, mq_2_0, mb_2_0, mn_2_0, mq_2_1, mb_2_1, mn_2_1, mq_2_2, mb_2_2, mn_2_2, mq_2_3, mb_2_3, mn_2_3, mq_3_0, mb_3_0, mn_3_0, mq_3_1, mb_3_1, mn_3_1, mq_3_2, mb_3_2, mn_3_2, mq_3_3, mb_3_3, mn_3_3, ml_None_None, mlb_None_None, ml_None_Inf, mlb_None_Inf, ml_None_Zero, mlb_None_Zero, ml_Inf_None, mlb_Inf_None, ml_Inf_Inf, mlb_Inf_Inf, ml_Inf_Zero, mlb_Inf_Zero, ml_Zero_None, mlb_Zero_None, ml_Zero_Inf, mlb_Zero_Inf, ml_Zero_Zero, mlb_Zero_Zero, ml_Fin_None, mlb_Fin_None, ml_Fin_Inf, mlb_Fin_Inf, ml_Fin_Zero, mlb_Fin_Zero]
        (try simp only [sg1, sg2])
        generalize (if s = t then (0 : Int) else 1) = sg at *
        first | (rw [hp.qui, bs, hr.qui, bs]; exact ⟨_, rfl, rfl⟩) | (rw [hp.inf _ hsg, bs, hr.inf _ hsg, bs]; exact ⟨_, rfl, rfl⟩) | (rw [hp.zer _ hsg, bs, hr.zer _ hsg, bs]; exact ⟨_, rfl, rfl⟩)
    | inf s hs =>
      cases vy with
      | none t ht =>
        obtain ⟨sg1, sg2, hsg⟩ := sgn hs ht
        simp only [twv, if_true, if_false, Bool.false_eq_true, float_Mul.j0, float_Mul.j1, float_Mul.j2, float_Mul.j3, quadratref01_Mul.j0, quadratref01_Mul.j1, quadratref01_Mul.j2, quadratref01_Mul.j3, mq_0_0, mb_0_0, mn_0_0, mq_0_1, mb_0_1, mn_0_1, mq_0_2, mb_0_2, mn_0_2, mq_0_3, mb_0_3, mn_0_3, mq_1_0, mb_1_0, mn_1_0, mq_1_1, mb_1_1, mn_1_1, mq_1_2, mb_1_2, mn_1_2, mq_1_3, mb_1_3, mn_1_3, mq_2_0, mb_2_0, mn_2_0, mq_2_1, mb_2_1, mn_2_1, mq_2_2, mb_2_2, mn_2_2, mq_2_3, mb_2_3, mn_2_3, mq_3_0, mb_3_0, mn_3_0, mq_3_1, mb_3_1, mn_3_1, mq_3_2, mb_3_2, mn_3_2, mq_3_3, mb_3_3, mn_3_3, ml_None_None, mlb_None_None, ml_None_Inf, mlb_None_Inf, ml_None_Zero, mlb_None_Zero, ml_Inf_None, mlb_Inf_None, ml_Inf_Inf, mlb_Inf_Inf, ml_Inf_Zero, mlb_Inf_Zero, ml_Zero_None, mlb_Zero_None, ml_Zero_Inf, mlb_Zero_Inf, ml_Zero_Zero, mlb_Zero_Zero, ml_Fin_None, mlb_Fin_None, ml_Fin_Inf, mlb_Fin_Inf, ml_Fin_Zero, mlb_Fin_Zero]
        (try simp only [sg1, sg2])
        generalize (if s = t then (0 : Int) else 1) = sg at *
        first | (rw [hp.qui, bs, hr.qui, bs]; exact ⟨_, rfl, rfl⟩) | (rw [hp.inf _ hsg, bs, hr.inf _ hsg, bs]; exact ⟨_, rfl, rfl⟩) | (rw [hp.zer _ hsg, bs, hr.zer _ hsg, bs]; exact ⟨_, rfl, rfl⟩)
      | inf t ht =>
        obtain ⟨sg1, sg2, hsg⟩ := sgn hs ht
        simp only [twv, if_true, if_false, Bool.false_eq_true, float_Mul.j0, float_Mul.j1, float_Mul.j2, float_Mul.j3, quadratref01_Mul.j0, quadratref01_Mul.j1, quadratref01_Mul.j2, quadratref01_Mul.j3, mq_0_0, mb_0_0, mn_0_0, mq_0_1, mb_0_1, mn_0_1, mq_0_2, mb_0_2, mn_0_2, mq_0_3, mb_0_3, mn_0_3, mq_1_0, mb_1_0, mn_1_0, mq_1_1, mb_1_1, mn_1_1, mq_1_2, mb_1_2, mn_1_2, mq_1_3, mb_1_3, mn_1_3, mq_2_0, mb_2_0, mn_2_0, mq_2_1, mb_2_1, mn_2_1, mq_2_2, mb_2_2, mn_2_2, mq_2_3, mb_2_3, mn_2_3, mq_3_0, mb_3_0, mn_3_0, mq_3_1, mb_3_1, mn_3_1, mq_3_2, mb_3_2, mn_3_2, mq_3_3, mb_3_3, mn_3_3, ml_None_None, mlb_None_None, ml_None_Inf, mlb_None_Inf, ml_None_Zero, mlb_None_Zero, ml_Inf_None, mlb_Inf_None, ml_Inf_Inf, mlb_Inf_Inf, ml_Inf_Zero, mlb_Inf_Zero, ml_Zero_None, mlb_Zero_None, ml_Zero_Inf, mlb_Zero_Inf, ml_Zero_Zero, mlb_Zero_Zero, ml_Fin_None, mlb_Fin_None, ml_Fin_Inf, mlb_Fin_Inf, ml_Fin_Zero, mlb_Fin_Zero]
        (try simp only [sg1, sg2])
        generalize (if s = t then (0 : Int) else 1) = sg at *
        first | (rw [hp.qui, bs, hr.qui, bs]; exact ⟨_, rfl, rfl⟩) | (rw [hp.inf _ hsg, bs, hr.inf _ hsg, bs]; exact ⟨_, rfl, rfl⟩) | (rw [hp.zer _ hsg, bs, hr.zer _ hsg, bs]; exact ⟨_, rfl, rfl⟩)
      | zero t ht =>
        obtain ⟨sg1, sg2, hsg⟩ := sgn hs ht
        simp only [twv, if_true, if_false, Bool.false_eq_true, float_Mul.j0, float_Mul.j1, float_Mul.j2, float_Mul.j3, quadratref01_Mul.j0, quadratref01_Mul.j1, quadratref01_Mul.j2, quadratref01_Mul.j3, mq_0_0, mb_0_0, mn_0_0, mq_0_1, mb_0_1, mn_0_1, mq_0_2, mb_0_2, mn_0_2, mq_0_3, mb_0_3, mn_0_3, mq_1_0, mb_1_0, mn_1_0, mq_1_1, mb_1_1, mn_1_1, mq_1_2, mb_1_2, mn_1_2, mq_1_3, mb_1_3, mn_1_3, mq_2_0, mb_2_0, mn_2_0, mq_2_1, mb_2_1, mn_2_1, mq_2_2, mb_2_2, mn_2_2, mq_2_3, mb_2_3, mn_2_3, mq_3_0, mb_3_0, mn_3_0, mq_3_1, mb_3_1, mn_3_1, mq_3_2, mb_3_2, mn_3_2, mq_3_3, mb_3_3, mn_3_3, ml_None_None, mlb_None_None, ml_None_Inf, mlb_None_Inf, ml_None_Zero, mlb_None_Zero, ml_Inf_None, mlb_Inf_None, ml_Inf_Inf, mlb_Inf_Inf, ml_Inf_Zero, mlb_Inf_Zero, ml_Zero_None, mlb_Zero_None, ml_Zero_Inf, mlb_Zero_Inf, ml_Zero_Zero, mlb_Zero_Zero, ml_Fin_None, mlb_Fin_None, ml_Fin_Inf, mlb_Fin_Inf, ml_Fin_Zero, mlb_Fin_Zero]
        (try simp only [sg1, sg2])
        generalize (if s = t then (0 : Int) else 1) = sg at *
        first | (rw [hp.qui, bs, hr.qui, bs]; exact ⟨_, rfl, rfl⟩) | (rw [hp.inf _ hsg, bs, hr.inf _ hsg, bs]; exact ⟨_, rfl, rfl⟩) | (rw [hp.zer _ hsg, bs, hr.zer _ hsg, bs]; exact ⟨_, rfl, rfl⟩)
      | fin t ht n f hn0 hn1 hf0 hf1 hl =>
        obtain ⟨sg1, sg2, hsg⟩ := sgn hs ht
        simp only [twv, if_true, if_false, Bool.false_eq_true, float_Mul.j0, float_Mul.j1, float_Mul.j2, float_Mul.j3, quadratref01_Mul.j0, quadratref01_Mul.j1, quadratref01_Mul.j2, quadratref01_Mul.j3, mq_0_0, mb_0_0, mn_0_0, mq_0_1, mb_0_1, mn_0_1, mq_0_2, mb_0_2, mn_0_2, mq_0_3, mb_0_3, mn_0_3, mq_1_0, mb_1_0, mn_1_0, mq_1_1, mb_1_1, mn_1_1, mq_1_2, mb_1_2, mn_1_2, mq_1_3, mb_1_3, mn_1_3, mq_2_0, mb_2_0, mn_2_0, mq_2_1, mb_2_1, mn_2_1, mq_2_2, mb_2_2, mn_2_2, mq_2_3, mb_2_3, mn_2_3, mq_3_0, mb_3_0, mn_3_0, mq_3_1, mb_3_1, mn_3_1, mq_3_2, mb_3_2, mn_3_2, mq_3_3, mb_3_3, mn_3_3, ml_None_None, mlb_None_None, ml_None_Inf, mlb_None_Inf, ml_None_Zero, mlb_None_Zero, ml_Inf_None, mlb_Inf_None, ml_Inf_Inf, mlb_Inf_Inf, ml_Inf_Zero, mlb_Inf_Zero, ml_Zero_None, mlb_Zero_None, ml_Zero_Inf, mlb_Zero_Inf, ml_Zero_Zero, mlb_Zero_Zero, ml_Fin_None, mlb_Fin_None, ml_Fin_Inf, mlb_Fin_Inf, ml_Fin_Zero, mlb_Fin_Zero]
        (try simp only [sg1, sg2])
        generalize (if s = t then (0 : Int) else 1) = sg at *
        first | (rw [hp.qui, bs, hr.qui, bs]; exact ⟨_, rfl, rfl⟩) | (rw [hp.inf _ hsg, bs, hr.inf _ hsg, bs]; exact ⟨_, rfl, rfl⟩) | (rw [hp.zer _ hsg, bs, hr.zer _ hsg, bs]; exact ⟨_, rfl, rfl⟩)
    | zero s hs =>
      cases vy with
      | none t ht =>
        obtain ⟨sg1, sg2, hsg⟩ := sgn hs ht
        simp only [twv, if_true, if_false, Bool.false_eq_true, float_Mul.j0, float_Mul.j1, float_Mul.j2, float_Mul.j3, quadratref01_Mul.j0, quadratref01_Mul.j1, quadratref01_Mul.j2, quadratref01_Mul.j3, mq_0_0, mb_0_0, mn_0_0, mq_0_1, mb_0_1, mn_0_1, mq_0_2, mb_0_2, mn_0_2, mq_0_3, mb_0_3, mn_0_3, mq_1_0, mb_1_0, mn_1_0, mq_1_1, mb_1_1, mn_1_1, mq_1_2, mb_1_2, mn_1_2, mq_1_3, mb_1_3, mn_1_3, mq_2_0, mb_2_0, mn_2_0, mq_2_1, mb_2_1, mn_2_1, mq_2_2, mb_2_2, mn_2_2, mq_2_3, mb_2_3, mn_2_3, mq_3_0, mb_3_0, mn_3_0, mq_3_1, mb_3_1, mn_3_1, mq_3_2, mb_3_2, mn_3_2, mq_3_3, mb_3_3, mn_3_3, ml_None_None, mlb_None_None, ml_None_Inf, mlb_None_Inf, ml_None_Zero, mlb_None_Zero, ml_Inf_None, mlb_Inf_None, ml_Inf_Inf, mlb_Inf_Inf, ml_Inf_Zero, mlb_Inf_Zero, ml_Zero_None, mlb_Zero_None, ml_Zero_Inf, mlb_Zero_Inf, ml_Zero_Zero, mlb_Zero_Zero, ml_Fin_None, mlb_Fin_None, ml_Fin_Inf, mlb_Fin_Inf, ml_Fin_Zero, mlb_Fin_Zero]
        (try simp only [sg1, sg2])
        generalize (if s = t then (0 : Int) else 1) = sg at *
        first | (rw [hp.qui, bs, hr.qui, bs]; exact ⟨_, rfl, rfl⟩) | (rw [hp.inf _ hsg, bs, hr.inf _ hsg, bs]; exact ⟨_, rfl, rfl⟩) | (rw [hp.zer _ hsg, bs, hr.zer _ hsg, bs]; exact ⟨_, rfl, rfl⟩)
      | inf t ht =>
        obtain ⟨sg1, sg2, hsg⟩ := sgn hs ht
        simp only [twv, if_true, if_false, Bool.false_eq_true, float_Mul.j0, float_Mul.j1, float_Mul.j2, float_Mul.j3, quadratref01_Mul.j0, quadratref01_Mul.j1, quadratref01_Mul.j2, quadratref01_Mul.j3, mq_0_0, mb_0_0, mn_0_0, mq_0_1, mb_0_1, mn_0_1, mq_0_2, mb_0_2, mn_0_2, mq_0_3, mb_0_3, mn_0_3, mq_1_0, mb_1_0, mn_1_0, mq_1_1, mb_1_1, mn_1_1, mq_1_2, mb_1_2, mn_1_2, mq_1_3, mb_1_3, mn_1_3, mq_2_0, mb_2_0, mn_2_0, mq_2_1, mb_2_1, mn_2_1, mq_2_2, mb_2_2, mn_2_2, mq_2_3, mb_2_3, mn_2_3, mq_3_0, mb_3_0, mn_3_0, mq_3_1, mb_3_1, mn_3_1, mq_3_2, mb_3_2, mn_3_2, mq_3_3, mb_3_3, mn_3_3, ml_None_None, mlb_None_None, ml_None_Inf, mlb_None_Inf, ml_None_Zero, mlb_None_Zero, ml_Inf_None, mlb_Inf_None, ml_Inf_Inf, mlb_Inf_Inf, ml_Inf_Zero, mlb_Inf_Zero, ml_Zero_None, mlb_Zero_None, ml_Zero_Inf, mlb_Zero_Inf, ml_Zero_Zero, mlb_Zero_Zero, ml_Fin_None, mlb_Fin_None, ml_Fin_Inf, mlb_Fin_Inf, ml_Fin_Zero, mlb_Fin_Zero]
        (try simp only [sg1, sg2])
        generalize (if s = t then (0 : Int) else 1) = sg at *
        first | (rw [hp.qui, bs, hr.qui, bs]; exact ⟨_, rfl, rfl⟩) | (rw [hp.inf _ hsg, bs, hr.inf _ hsg, bs]; exact ⟨_, rfl, rfl⟩) | (rw [hp.zer _ hsg, bs, hr.zer _ hsg, bs]; exact ⟨_, rfl, rfl⟩)
      | zero t ht =>
        obtain ⟨sg1, sg2, hsg⟩ := sgn hs ht
        simp only [twv, if_true, if_false, Bool.false_eq_true, float_Mul.j0, float_Mul.j1, float_Mul.j2, float_Mul.j3, quadratref01_Mul.j0, quadratref01_Mul.j1, quadratref01_Mul.j2, quadratref01_Mul.j3, mq_0_0, mb_0_0, mn_0_0, mq_0_1, mb_0_1, mn_0_1, mq_0_2, mb_0_2, mn_0_2, mq_0_3, mb_0_3, mn_0_3, mq_1_0, mb_1_0, mn_1_0, mq_1_1, mb_1_1, mn_1_1, mq_1_2, mb_1_2, mn_1_2, mq_1_3, mb_1_3, mn_1_3, mq_2_0, mb_2_0, mn_2_0, mq_2_1, mb_2_1, mn_2_1, mq_2_2, mb_2_2, mn_2_2, mq_2_3, mb_2_3, mn_2_3, mq_3_0, mb_3_0, mn_3_0, mq_3_1, mb_3_1, mn_3_1, mq_3_2, mb_3_2, mn_3_2, mq_3_3, mb_3_3, mn_3_3, ml_None_None, mlb_None_None, ml_None_Inf, mlb_None_Inf, ml_None_Zero, mlb_None_Zero, ml_Inf_None, mlb_Inf_None, ml_Inf_Inf, mlb_Inf_Inf, ml_Inf_Zero, mlb_Inf_Zero, ml_Zero_None, mlb_Zero_None, ml_Zero_Inf, mlb_Zero_Inf, ml_Zero_Zero, mlb_Zero_Zero, ml_Fin_None, mlb_Fin_None, ml_Fin_Inf, mlb_Fin_Inf, ml_Fin_Zero, mlb_Fin_Zero]
        (try simp only [sg1, sg2])
        generalize (if s = t then (0 : Int) else 1) = sg at *
        first | (rw [hp.qui, bs, hr.qui, bs]; exact ⟨_, rfl, rfl⟩) | (rw [hp.inf _ hsg, bs, hr.inf _ hsg, bs]; exact ⟨_, rfl, rfl⟩) | (rw [hp.zer _ hsg, bs, hr.zer _ hsg, bs]; exact ⟨_, rfl, rfl⟩)
      | fin t ht n f hn0 hn1 hf0 hf1 hl =>
        obtain ⟨sg1, sg2, hsg⟩ := sgn hs ht
        simp only [twv, if_true, if_false, Bool.false_eq_true, float_Mul.j0, float_Mul.j1, float_Mul.j2, float_Mul.j3, quadratref01_Mul.j0, quadratref01_Mul.j1, quadratref01_Mul.j2, quadratref01_Mul.j3, mq_0_0, mb_0_0, mn_0_0, mq_0_1, mb_0_1, mn_0_1, mq_0_2, mb_0_2, mn_0_2, mq_0_3, mb_0_3, mn_0_3, mq_1_0, mb_1_0, mn_1_0, mq_1_1, mb_1_1, mn_1_1, mq_1_2, mb_1_2, mn_1_2, mq_1_3, mb_1_3, mn_1_3, mq_2_0, mb_2_0, mn_2_0, mq_2_1, mb_2_1, mn_2_1, mq_2_2, mb_2_2, mn_2_2, mq_2_3, mb_2_3, mn_2_3, mq_3_0, mb_3_0, mn_3_0, mq_3_1, mb_3_1, mn_3_1, mq_3_2, mb_3_2, mn_3_2, mq_3_3, mb_3_3, mn_3_3, ml_None_None, mlb_None_None, ml_None_Inf, mlb_None_Inf, ml_None_Zero, mlb_None_Zero, ml_Inf_None, mlb_Inf_None, ml_Inf_Inf, mlb_Inf_Inf, ml_Inf_Zero, mlb_Inf_Zero, ml_Zero_None, mlb_Zero_None, ml_Zero_Inf, mlb_Zero_Inf, ml_Zero_Zero, mlb_Zero_Zero, ml_Fin_None, mlb_Fin_None, ml_Fin_Inf, mlb_Fin_Inf, ml_Fin_Zero, mlb_Fin_Zero]
        (try simp only [sg1, sg2])
        generalize (if s = t then (0 : Int) else 1) = sg at *
        first | (rw [hp.qui, bs, hr.qui, bs]; exact ⟨_, rfl, rfl⟩) | (rw [hp.inf _ hsg, bs, hr.inf _ hsg, bs]; exact ⟨_, rfl, rfl⟩) | (rw [hp.zer _ hsg, bs, hr.zer _ hsg, bs]; exact ⟨_, rfl, rfl⟩)
    | fin s hs m e hm0 hm1 he0 he1 hlm =>
      cases vy with
      | none t ht =>
        obtain ⟨sg1, sg2, hsg⟩ := sgn hs ht
        simp only [twv, if_true, if_false, Bool.false_eq_true, float_Mul.j0, float_Mul.j1, float_Mul.j2, float_Mul.j3, quadratref01_Mul.j0, quadratref01_Mul.j1, quadratref01_Mul.j2, quadratref01_Mul.j3, mq_0_0, mb_0_0, mn_0_0, mq_0_1, mb_0_1, mn_0_1, mq_0_2, mb_0_2, mn_0_2, mq_0_3, mb_0_3, mn_0_3, mq_1_0, mb_1_0, mn_1_0, mq_1_1, mb_1_1, mn_1_1, mq_1_2, mb_1_2, mn_1_2, mq_1_3, mb_1_3, mn_1_3, mq_2_0, mb_2_0, mn_2_0, mq_2_1, mb_2_1, mn_2_1, mq_2_2, mb_2_2, mn_2_2, mq_2_3, mb_2_3, mn_2_3, mq_3_0, mb_3_0, mn_3_0, mq_3_1, mb_3_1, mn_3_1, mq_3_2, mb_3_2, mn_3_2, mq_3_3, mb_3_3, mn_3_3, ml_None_None, mlb_None_None, ml_None_Inf, mlb_None_Inf, ml_None_Zero, mlb_None_Zero, ml_Inf_None, mlb_Inf_None, ml_Inf_Inf, mlb_Inf_Inf, ml_Inf_Zero, mlb_Inf_Zero, ml_Zero_None, mlb_Zero_None, ml_Zero_Inf, mlb_Zero_Inf, ml_Zero_Zero, mlb_Zero_Zero, ml_Fin_None, mlb_Fin_None, ml_Fin_Inf, mlb_Fin_Inf, ml_Fin_Zero, mlb_Fin_Zero]
        (try simp only [sg1, sg2])
        generalize (if s = t then (0 : Int) else 1) = sg at *
        first | (rw [hp.qui, bs, hr.qui, bs]; exact ⟨_, rfl, rfl⟩) | (rw [hp.inf _ hsg, bs, hr.inf _ hsg, bs]; exact ⟨_, rfl, rfl⟩) | (rw [hp.zer _ hsg, bs, hr.zer _ hsg, bs]; exact ⟨_, rfl, rfl⟩)
      | inf t ht =>
        obtain ⟨sg1, sg2, hsg⟩ := sgn hs ht
        simp only [twv, if_true, if_false, Bool.false_eq_true, float_Mul.j0, float_Mul.j1, float_Mul.j2, float_Mul.j3, quadratref01_Mul.j0, quadratref01_Mul.j1, quadratref01_Mul.j2, quadratref01_Mul.j3, mq_0_0, mb_0_0, mn_0_0, mq_0_1, mb_0_1, mn_0_1, mq_0_2, mb_0_2, mn_0_2, mq_0_3, mb_0_3, mn_0_3, mq_1_0, mb_1_0, mn_1_0, mq_1_1, mb_1_1, mn_1_1, mq_1_2, mb_1_2, mn_1_2, mq_1_3, mb_1_3, mn_1_3, mq_2_0, mb_2_0, mn_2_0, mq_2_1, mb_2_1, mn_2_1, mq_2_2, mb_2_2, mn_2_2, mq_2_3, mb_2_3, mn_2_3, mq_3_0, mb_3_0, mn_3_0, mq_3_1, mb_3_1, mn_3_1, mq_3_2, mb_3_2, mn_3_2, mq_3_3, mb_3_3, mn_3_3, ml_None_None, mlb_None_None, ml_None_Inf, mlb_None_Inf, ml_None_Zero, mlb_None_Zero, ml_Inf_None, mlb_Inf_None, ml_Inf_Inf, mlb_Inf_Inf, ml_Inf_Zero, mlb_Inf_Zero, ml_Zero_None, mlb_Zero_None, ml_Zero_Inf, mlb_Zero_Inf, ml_Zero_Zero, mlb_Zero_Zero, ml_Fin_None, mlb_Fin_None, ml_Fin_Inf, mlb_Fin_Inf, ml_Fin_Zero, mlb_Fin_Zero]
        (try simp only [sg1, sg2])
        generalize (if s = t then (0 : Int) else 1) = sg at *
        first | (rw [hp.qui, bs, hr.qui, bs]; exact ⟨_, rfl, rfl⟩) | (rw [hp.inf _ hsg, bs, hr.inf _ hsg, bs]; exact ⟨_, rfl, rfl⟩) | (rw [hp.zer _ hsg, bs, hr.zer _ hsg, bs]; exact ⟨_, rfl, rfl⟩)
      | zero t ht =>
        obtain ⟨sg1, sg2, hsg⟩ := sgn hs ht
        simp only [twv, if_true, if_false, Bool.false_eq_true, float_Mul.j0, float_Mul.j1, float_Mul.j2, float_Mul.j3, quadratref01_Mul.j0, quadratref01_Mul.j1, quadratref01_Mul.j2, quadratref01_Mul.j3, mq_0_0, mb_0_0, mn_0_0, mq_0_1, mb_0_1, mn_0_1, mq_0_2, mb_0_2, mn_0_2, mq_0_3, mb_0_3, mn_0_3, mq_1_0, mb_1_0, mn_1_0, mq_1_1, mb_1_1, mn_1_1, mq_1_2, mb_1_2, mn_1_2, mq_1_3, mb_1_3, mn_1_3, mq_2_0, mb_2_0, mn_2_0, mq_2_1, mb_2_1, mn_2_1, mq_2_2, mb_2_2, mn_2_2, mq_2_3, mb_2_3, mn_2_3, mq_3_0, mb_3_0, mn_3_0, mq_3_1, mb_3_1, mn_3_1, mq_3_2, mb_3_2, mn_3_2, mq_3_3, mb_3_3, mn_3_3, ml_None_None, mlb_None_None, ml_None_Inf, mlb_None_Inf, ml_None_Zero, mlb_None_Zero, ml_Inf_None, mlb_Inf_None, ml_Inf_Inf, mlb_Inf_Inf, ml_Inf_Zero, mlb_Inf_Zero, ml_Zero_None, mlb_Zero_None, ml_Zero_Inf, mlb_Zero_Inf, ml_Zero_Zero, mlb_Zero_Zero, ml_Fin_None, mlb_Fin_None, ml_Fin_Inf, mlb_Fin_Inf, ml_Fin_Zero, mlb_Fin_Zero]
        (try simp only [sg1, sg2])
        generalize (if s = t then (0 : Int) else 1) = sg at *
        first | (rw [hp.qui, bs, hr.qui, bs]; exact ⟨_, rfl, rfl⟩) | (rw [hp.inf _ hsg, bs, hr.inf _ hsg, bs]; exact ⟨_, rfl, rfl⟩) | (rw [hp.zer _ hsg, bs, hr.zer _ hsg, bs]; exact ⟨_, rfl, rfl⟩)
      | fin t ht n f hn0 hn1 hf0 hf1 hl =>
        obtain ⟨sg1, sg2, hsg⟩ := sgn hs ht
        simp only [twv, if_true, if_false, Bool.false_eq_true, float_Mul.j0, float_Mul.j1, float_Mul.j2, float_Mul.j3, quadratref01_Mul.j0, quadratref01_Mul.j1, quadratref01_Mul.j2, quadratref01_Mul.j3, mq_0_0, mb_0_0, mn_0_0, mq_0_1, mb_0_1, mn_0_1, mq_0_2, mb_0_2, mn_0_2, mq_0_3, mb_0_3, mn_0_3, mq_1_0, mb_1_0, mn_1_0, mq_1_1, mb_1_1, mn_1_1, mq_1_2, mb_1_2, mn_1_2, mq_1_3, mb_1_3, mn_1_3, mq_2_0, mb_2_0, mn_2_0, mq_2_1, mb_2_1, mn_2_1, mq_2_2, mb_2_2, mn_2_2, mq_2_3, mb_2_3, mn_2_3, mq_3_0, mb_3_0, mn_3_0, mq_3_1, mb_3_1, mn_3_1, mq_3_2, mb_3_2, mn_3_2, mq_3_3, mb_3_3, mn_3_3, ml_None_None, mlb_None_None, ml_None_Inf, mlb_None_Inf, ml_None_Zero, mlb_None_Zero, ml_Inf_None, mlb_Inf_None, ml_Inf_Inf, mlb_Inf_Inf, ml_Inf_Zero, mlb_Inf_Zero, ml_Zero_None, mlb_Zero_None, ml_Zero_Inf, mlb_Zero_Inf, ml_Zero_Zero, mlb_Zero_Zero, ml_Fin_None, mlb_Fin_None, ml_Fin_Inf, mlb_Fin_Inf, ml_Fin_Zero, mlb_Fin_Zero]
        simp only [sg1, sg2]
        generalize (if s = t then (0 : Int) else 1) = sg at *
        have hm53 : m < 2 ^ 53 := Nat.lt_of_lt_of_le hm1 (Nat.pow_le_pow_right (by omega) hp1)
        have hn53 : n < 2 ^ 53 := Nat.lt_of_lt_of_le hn1 (Nat.pow_le_pow_right (by omega) hp1)
        have bm : blen m ≤ 53 := blen_le.2 hm53
        have bn : blen n ≤ 53 := blen_le.2 hn53
        have hmn0 : m * n ≠ 0 := Nat.mul_ne_zero hm0 hn0
        have hmn : m * n < 340282366920938463463374607431768211456 := by
          have := Nat.mul_lt_mul'' hm53 hn53
          omega
        have bmn := blen_mul_le m n
        have w1 : wrap64 (e + f) = e + f := w64_id (by omega) (by omega)
        have hM : bits_Mul64.f (m : Int) (n : Int) = some (((m * n / 18446744073709551616 : Nat) : Int), ((m * n % 18446744073709551616 : Nat) : Int)) := by
          unfold bits_Mul64.f; rw [if_pos (by omega), Int.toNat_natCast, Int.toNat_natCast]
        rw [hM, bs, times_nat m n _ (by omega) (by omega) (by omega), bs, w1]
        have hdm := Nat.div_add_mod (m * n) 18446744073709551616
        have hlt := Nat.mod_lt (m * n) (show 0 < 18446744073709551616 by decide)
        dsimp only
        rw [round_eq hp _ (by omega) mode sg (e + f) false (m * n) _ _ hm hsg hmn0 (by omega) (by omega) (by omega) (by omega) (by omega) (by simp), bs,
          rounded_eq hr _ (by omega) mode sg (e + f) false (m * n) hm hsg hmn0 (by omega) (by omega) (by omega), bs]
        exact ⟨_, rfl, rfl⟩
theorem div_eq (k : Nat) (hk : 100300 ≤ k) (kind mode a b : Int) (ha0 : -9223372036854775808 ≤ a) (ha1 : a < 9223372036854775808) (hb0 : -9223372036854775808 ≤ b) (hb1 : b < 9223372036854775808) :
    ∃ r, float_Div.f k kind mode a b = some r ∧ quadratref01_Div.f k kind mode a b = some r := by
  obtain ⟨k, rfl⟩ : ∃ m, k = m + 72 := ⟨k - 72, by omega⟩
  unfold float_Div.f quadratref01_Div.f
  rcases ask k kind mode a b ha0 ha1 hb0 hb1 with ⟨hq, p, w, x1, x2, x3, x4, y1, y2, y3, y4, ht⟩ | ⟨hq, hm, p, w, bias, T, x, y, x', y', hr, hp, hof, ht, hx, hy, vx, vy, _, _⟩
  · refine ⟨(0, 0, 2), ?_, ?_⟩
    · rw [ht, bs, if_neg (by simp)]
    · rw [hq, bs, if_neg (by simp)]
  · have hb : (x.2.2.2.2 && y.2.2.2.2) = true := by cases vx <;> cases vy <;> rfl
    rw [ht, bs, hq, bs, if_pos rfl, hx, bs, hy, bs]
    rw [if_pos (show (twv (p : Int) w x y).2.2.2.2.2.2.2.2.2.2 = true from hb)]
    have hp1 := hp.p1
    have hp0 := hp.p0
    have kb1 := hp.b1
    have kb0 := hp.b0
    clear ht hx hy hb hq hof
    cases vx with
    | none s hs =>
      cases vy with
      | none t ht =>
        obtain ⟨sg1, sg2, hsg⟩ := sgn hs ht
        simp only [twv, if_true, if_false, Bool.false_eq_true, float_Div.j0, float_Div.j1, float_Div.j2, quadratref01_Div.j0, quadratref01_Div.j1, mq_0_0, mb_0_0, mn_0_0, mq_0_1, mb_0_1, mn_0_1, mq_0_2, mb_0_2, mn_0_2, mq_0_3, mb_0_3, mn_0_3, mq_1_0, mb_1_0, mn_1_0, mq_1_1, mb_1_1, mn_1_1, mq_1_2, mb_1_2, mn_1_2, mq_1_3, mb_1_3, mn_1_3, mq_2_0, mb_2_0, mn_2_0, mq_2_1, mb_2_1, mn_2_1, mq_2_2, mb_2_2, mn_2_2, mq_2_3, mb_2_3, mn_2_3, mq_3_0, mb_3_0, mn_3_0, mq_3_1, mb_3_1, mn_3_1, mq_3_2, mb_3_2, mn_3_2, mq_3_3, mb_3_3, mn_3_3, ml_None_None, mlb_None_None, ml_None_Inf, mlb_None_Inf, ml_None_Zero, mlb_None_Zero, ml_Inf_None, mlb_Inf_None, ml_Inf_Inf, mlb_Inf_Inf, ml_Inf_Zero, mlb_Inf_Zero, ml_Zero_None, mlb_Zero_None, ml_Zero_Inf, mlb_Zero_Inf, ml_Zero_Zero, mlb_Zero_Zero, ml_Fin_None, mlb_Fin_None, ml_Fin_Inf, mlb_Fin_Inf, ml_Fin_Zero, mlb_Fin_Zero]
        (try simp only [sg1, sg2])
        generalize (if s = t then (0 : Int) else 1) = sg at *
        first | (rw [hp.qui, bs, hr.qui, bs]; exact ⟨_, rfl, rfl⟩) | (rw [hp.inf _ hsg, bs, hr.inf _ hsg, bs]; exact ⟨_, rfl, rfl⟩) | (rw [hp.zer _ hsg, bs, hr.zer _ hsg, bs]; exact ⟨_, rfl, rfl⟩)
      | inf t ht =>
        obtain ⟨sg1, sg2, hsg⟩ := sgn hs ht
        simp only [twv, if_true, if_false, Bool.false_eq_true, float_Div.j0, float_Div.j1, float_Div.j2, quadratref01_Div.j0, quadratref01_Div.j1, mq_0_0, mb_0_0, mn_0_0, mq_0_1, mb_0_1, mn_0_1, mq_0_2, mb_0_2, mn_0_2, mq_0_3, mb_0_3, mn_0_3, mq_1_0, mb_1_0, mn_1_0, mq_1_1, mb_1_1, mn_1_1, mq_1_2, mb_1_2, mn_1_2, mq_1_3, mb_1_3, mn_1_3, mq_2_0, mb_2_0, mn_2_0, mq_2_1, mb_2_1, mn_2_1, mq_2_2, mb_2_2, mn_2_2, mq_2_3, mb_2_3, mn_2_3, mq_3_0, mb_3_0, mn_3_0, mq_3_1, mb_3_1, mn_3_1, mq_3_2, mb_3_2, mn_3_2, mq_3_3, mb_3_3, mn_3_3, ml_None_None, mlb_None_None, ml_None_Inf, mlb_None_Inf, ml_None_Zero, mlb_None_Zero, ml_Inf_None, mlb_Inf_None, ml_Inf_Inf, mlb_Inf_Inf, ml_Inf_Zero, mlb_Inf_Zero, ml_Zero_None, mlb_Zero_None, ml_Zero_Inf, mlb_Zero_Inf, ml_Zero_Zero, mlb_Zero_Zero, ml_Fin_None, mlb_Fin_None, ml_Fin_Inf, mlb_Fin_Inf, ml_Fin_Zero, mlb_Fin_Zero]
        (try simp only [sg1, sg2])
        generalize (if s = t then (0 : Int) else 1) = sg at *
        first | (rw [hp.qui, bs, hr.qui, bs]; exact ⟨_, rfl, rfl⟩) | (rw [hp.inf _ hsg, bs, hr.inf _ hsg, bs]; exact ⟨_, rfl, rfl⟩) | (rw [hp.zer _ hsg, bs, hr.zer _ hsg, bs]; exact ⟨_, rfl, rfl⟩)
      | zero t ht =>
        obtain ⟨sg1, sg2, hsg⟩ := sgn hs ht
        simp only [twv, if_true, if_false, Bool.false_eq_true, float_Div.j0, float_Div.j1, float_Div.j2, quadratref01_Div.j0, quadratref01_Div.j1, mq_0_0, mb_0_0, mn_0_0, mq_0_1, mb_0_1, mn_0_1, mq_0_2, mb_0_2, mn_0_2, mq_0_3, mb_0_3, mn_0_3, mq_1_0, mb_1_0, mn_1_0, mq_1_1, mb_1_1, mn_1_1, mq_1_2, mb_1_2, mn_1_2, mq_1_3, mb_1_3, mn_1_3, mq_2_0, mb_2_0, mn_2_0, mq_2_1, mb_2_1, mn_2_1, mq_2_2, mb_2_2, mn_2_2, mq_2_3, mb_2_3, mn_2_3, mq_3_0, mb_3_0, mn_3_0, mq_3_1, mb_3_1, mn_3_1, mq_3_2, mb_3_2, mn_3_2, mq_3_3, mb_3_3, mn_3_3, ml_None_None, mlb_None_None, ml_None_Inf, mlb_None_Inf, ml_None_Zero, mlb_None_Zero, ml_Inf_None, mlb_Inf_None, ml_Inf_Inf, mlb_Inf_Inf, ml_Inf_Zero, mlb_Inf_Zero, ml_Zero_None, mlb_Zero_None, ml_Zero_Inf, mlb_Zero_Inf, ml_Zero_Zero, mlb_Zero_Zero, ml_Fin_None, mlb_Fin_None, ml_Fin_Inf, mlb_Fin_Inf, ml_Fin_Zero, mlb_Fin_Zero]
        (try simp only [sg1, sg2])
        generalize (if s = t then (0 : Int) else 1) = sg at *
        first | (rw [hp.qui, bs, hr.qui, bs]; exact ⟨_, rfl, rfl⟩) | (rw [hp.inf _ hsg, bs, hr.inf _ hsg, bs]; exact ⟨_, rfl, rfl⟩) | (rw [hp.zer _ hsg, bs, hr.zer _ hsg, bs]; exact ⟨_, rfl, rfl⟩)
      | fin t ht n f hn0 hn1 hf0 hf1 hl =>
        obtain ⟨sg1, sg2, hsg⟩ := sgn hs ht
        simp only [twv, if_true, if_false, Bool.false_eq_true, float_Div.j0, float_Div.j1, float_Div.j2, quadratref01_Div.j0, quadratref01_Div.j1, mq_0_0, mb_0_0, mn_0_0, mq_0_1, mb_0_1, mn_0_1, mq_0_2, mb_0_2, mn_0_2, mq_0_3, mb_0_3, mn_0_3, mq_1_0, mb_1_0, mn_1_0, mq_1_1, mb_1_1, mn_1_1, mq_1_2, mb_1_2, mn_1_2, mq_1_3, mb_1_3, mn_1_3, mq_2_0, mb_2_0, mn_2_0, mq_2_1, mb_2_1, mn_2_1, mq_2_2, mb_2_2, mn_2_2, mq_2_3, mb_2_3, mn_2_3, mq_3_0, mb_3_0, mn_3_0, mq_3_1, mb_3_1, mn_3_1, mq_3_2, mb_3_2, mn_3_2, mq_3_3, mb_3_3, mn_3_3, ml_None_None, mlb_None_None, ml_None_Inf, mlb_None_Inf, ml_None_Zero, mlb_None_Zero, ml_Inf_None, mlb_Inf_None, ml_Inf_Inf, mlb_Inf_Inf, ml_Inf_Zero, mlb_Inf_Zero, ml_Zero_None, mlb_Zero_None, ml_Zero_Inf, mlb_Zero_Inf, ml_Zero_Zero, mlb_Zero_Zero, ml_Fin_None, mlb_Fin_None, ml_Fin_Inf, mlb_Fin_Inf, ml_Fin_Zero, mlb_Fin_Zero]
        (try simp only [sg1, sg2])
        generalize (if s = t then (0 : Int) else 1) = sg at *
        first | (rw [hp.qui, bs, hr.qui, bs]; exact ⟨_, rfl, rfl⟩) | (rw [hp.inf _ hsg, bs, hr.inf _ hsg, bs]; exact ⟨_, rfl, rfl⟩) | (rw [hp.zer _ hsg, bs, hr.zer _ hsg, bs]; exact ⟨_, rfl, rfl⟩)
    | inf s hs =>
      cases vy with
      | none t ht =>
        obtain ⟨sg1, sg2, hsg⟩ := sgn hs ht
        simp only [twv, if_true, if_false, Bool.false_eq_true, float_Div.j0, float_Div.j1, float_Div.j2, quadratref01_Div.j0, quadratref01_Div.j1, mq_0_0, mb_0_0, mn_0_0, mq_0_1, mb_0_1, mn_0_1, mq_0_2, mb_0_2, mn_0_2, mq_0_3, mb_0_3, mn_0_3, mq_1_0, mb_1_0, mn_1_0, mq_1_1, mb_1_1, mn_1_1, mq_1_2, mb_1_2, mn_1_2, mq_1_3, mb_1_3, mn_1_3, mq_2_0, mb_2_0, mn_2_0, mq_2_1, mb_2_1, mn_2_1, mq_2_2, mb_2_2, mn_2_2, mq_2_3, mb_2_3, mn_2_3, mq_3_0, mb_3_0, mn_3_0, mq_3_1, mb_3_1, mn_3_1, mq_3_2, mb_3_2, mn_3_2, mq_3_3, mb_3_3, mn_3_3, ml_None_None, mlb_None_None, ml_None_Inf, mlb_None_Inf, ml_None_Zero, mlb_None_Zero, ml_Inf_None, mlb_Inf_None, ml_Inf_Inf, mlb_Inf_Inf, ml_Inf_Zero, mlb_Inf_Zero, ml_Zero_None, mlb_Zero_None, ml_Zero_Inf, mlb_Zero_Inf, ml_Zero_Zero, mlb_Zero_Zero, ml_Fin_None, mlb_Fin_None, ml_Fin_Inf, mlb_Fin_Inf, ml_Fin_Zero, mlb_Fin_Zero]
        (try simp only [sg1, sg2])
        generalize (if s = t then (0 : Int) else 1) = sg at *
        first | (rw [hp.qui, bs, hr.qui, bs]; exact ⟨_, rfl, rfl⟩) | (rw [hp.inf _ hsg, bs, hr.inf _ hsg, bs]; exact ⟨_, rfl, rfl⟩) | (rw [hp.zer _ hsg, bs, hr.zer _ hsg, bs]; exact ⟨_, rfl, rfl⟩)
      | inf t ht =>
        obtain ⟨sg1, sg2, hsg⟩ := sgn hs ht
        simp only [twv, if_true, if_false, Bool.false_eq_true, float_Div.j0, float_Div.j1, float_Div.j2, quadratref01_Div.j0, quadratref01_Div.j1, mq_0_0, mb_0_0, mn_0_0, mq_0_1, mb_0_1, mn_0_1, mq_0_2, mb_0_2, mn_0_2, mq_0_3, mb_0_3, mn_0_3, mq_1_0, mb_1_0, mn_1_0, mq_1_1, mb_1_1, mn_1_1, mq_1_2, mb_1_2, mn_1_2, mq_1_3, mb_1_3, mn_1_3, mq_2_0, mb_2_0, mn_2_0, mq_2_1, mb_2_1, mn_2_1, mq_2_2, mb_2_2, mn_2_2, mq_2_3, mb_2_3, mn_2_3, mq_3_0, mb_3_0, mn_3_0, mq_3_1, mb_3_1, mn_3_1, mq_3_2, mb_3_2, mn_3_2, mq_3_3, mb_3_3, mn_3_3, ml_None_None, mlb_None_None, ml_None_Inf, mlb_None_Inf, ml_None_Zero, mlb_None_Zero, ml_Inf_None, mlb_Inf_None, ml_Inf_Inf, mlb_Inf_Inf, ml_Inf_Zero, mlb_Inf_Zero, ml_Zero_None, mlb_Zero_None, ml_Zero_Inf, mlb_Zero_Inf, ml_Zero_Zero, mlb_Zero_Zero, ml_Fin_None, mlb_Fin_None, ml_Fin_Inf, mlb_Fin_Inf, ml_Fin_Zero, mlb_Fin_Zero]
        (try simp only [sg1, sg2])
        generalize (if s = t then (0 : Int) else 1) = sg at *
        first | (rw [hp.qui, bs, hr.qui, bs]; exact ⟨_, rfl, rfl⟩) | (rw [hp.inf _ hsg, bs, hr.inf _ hsg, bs]; exact ⟨_, rfl, rfl⟩) | (rw [hp.zer _ hsg, bs, hr.zer _ hsg, bs]; exact ⟨_, rfl, rfl⟩)
      | zero t ht =>
        obtain ⟨sg1, sg2, hsg⟩ := sgn hs ht
        simp only [twv, if_true, if_false, Bool.false_eq_true, float_Div.j0, float_Div.j1, float_Div.j2, quadratref01_Div.j0, quadratref01_Div.j1, mq_0_0, mb_0_0, mn_0_0, mq_0_1, mb_0_1, mn_0_1, mq_0_2, mb_0_2, mn_0_2, mq_0_3, mb_0_3, mn_0_3, mq_1_0, mb_1_0, mn_1_0, mq_1_1, mb_1_1, mn_1_1, mq_1_2, mb_1_2, mn_1_2, mq_1_3, mb_1_3, mn_1_3, mq_2_0, mb_2_0, mn_2_0, mq_2_1, mb_2_1, mn_2_1, mq_2_2, mb_2_2, mn_2_2, mq_2_3, mb_2_3, mn_2_3, mq_3_0, mb_3_0, mn_3_0, mq_3_1, mb_3_1, mn_3_1, mq_3_2, mb_3_2, mn_3_2, mq_3_3, mb_3_3, mn_3_3, ml_None_None, mlb_None_None, ml_None_Inf, mlb_None_Inf, ml_None_Zero, mlb_None_Zero, ml_Inf_None, mlb_Inf_None, ml_Inf_Inf, mlb_Inf_Inf, ml_Inf_Zero, mlb_Inf_Zero, ml_Zero_None, mlb_Zero_None, ml_Zero_Inf, mlb_Zero_Inf, ml_Zero_Zero, mlb_Zero_Zero, ml_Fin_None, mlb_Fin_None, ml_Fin_Inf, mlb_Fin_Inf, ml_Fin_Zero, mlb_Fin_Zero]
        (try simp only [sg1, sg2])
        generalize (if s = t then (0 : Int) else 1) = sg at *
        first | (rw [hp.qui, bs, hr.qui, bs]; exact ⟨_, rfl, rfl⟩) | (rw [hp.inf _ hsg, bs, hr.inf _ hsg, bs]; exact ⟨_, rfl, rfl⟩) | (rw [hp.zer _ hsg, bs, hr.zer _ hsg, bs]; exact ⟨_, rfl, rfl⟩)
      | fin t ht n f hn0 hn1 hf0 hf1 hl =>
        obtain ⟨sg1, sg2, hsg⟩ := sgn hs ht
        simp only [twv, if_true, if_false, Bool.false_eq_true, float_Div.j0, float_Div.j1, float_Div.j2, quadratref01_Div.j0, quadratref01_Div.j1, mq_0_0, mb_0_0, mn_0_0, mq_0_1, mb_0_1, mn_0_1, mq_0_2, mb_0_2, mn_0_2, mq_0_3, mb_0_3, mn_0_3, mq_1_0, mb_1_0, mn_1_0, mq_1_1, mb_1_1, mn_1_1, mq_1_2, mb_1_2, mn_1_2, mq_1_3, mb_1_3, mn_1_3, mq_2_0, mb_2_0, mn_2_0, mq_2_1, mb_2_1, mn_2_1, mq_2_2, mb_2_2, mn_2_2, mq_2_3, mb_2_3, mn_2_3, mq_3_0, mb_3_0, mn_3_0, mq_3_1, mb_3_1, mn_3_1, mq_3_2, mb_3_2, mn_3_2, mq_3_3, mb_3_3, mn_3_3, ml_None_None, mlb_None_None, ml_None_Inf, mlb_None_Inf, ml_None_Zero, mlb_None_Zero, ml_Inf_None, mlb_Inf_None, ml_Inf_Inf, mlb_Inf_Inf, ml_Inf_Zero, mlb_Inf_Zero, ml_Zero_None, mlb_Zero_None, ml_Zero_Inf, mlb_Zero_Inf, ml_Zero_Zero, mlb_Zero_Zero, ml_Fin_None, mlb_Fin_None, ml_Fin_Inf, mlb_Fin_Inf, ml_Fin_Zero, mlb_Fin_Zero]
        (try simp only [sg1, sg2])
        generalize (if s = t then (0 : Int) else 1) = sg at *
        first | (rw [hp.qui, bs, hr.qui, bs]; exact ⟨_, rfl, rfl⟩) | (rw [hp.inf _ hsg, bs, hr.inf _ hsg, bs]; exact ⟨_, rfl, rfl⟩) | (rw [hp.zer _ hsg, bs, hr.zer _ hsg, bs]; exact ⟨_, rfl, rfl⟩)
    | zero s hs =>
      cases vy with
      | none t ht =>
        obtain ⟨sg1, sg2, hsg⟩ := sgn hs ht
        simp only [twv, if_true, if_false, Bool.false_eq_true, float_Div.j0, float_Div.j1, float_Div.j2, quadratref01_Div.j0, quadratref01_Div.j1, mq_0_0, mb_0_0, mn_0_0, mq_0_1, mb_0_1, mn_0_1, mq_0_2, mb_0_2, mn_0_2, mq_0_3, mb_0_3, mn_0_3, mq_1_0, mb_1_0, mn_1_0, mq_1_1, mb_1_1, mn_1_1, mq_1_2, mb_1_2, mn_1_2, mq_1_3, mb_1_3, mn_1_3, mq_2_0, mb_2_0, mn_2_0, mq_2_1, mb_2_1, mn_2_1, mq_2_2, mb_2_2, mn_2_2, mq_2_3, mb_2_3, mn_2_3, mq_3_0, mb_3_0, mn_3_0, mq_3_1, mb_3_1, mn_3_1, mq_3_2, mb_3_2, mn_3_2, mq_3_3, mb_3_3, mn_3_3, ml_None_None, mlb_None_None, ml_None_Inf, mlb_None_Inf, ml_None_Zero, mlb_None_Zero, ml_Inf_None, mlb_Inf_None, ml_Inf_Inf, mlb_Inf_Inf, ml_Inf_Zero, mlb_Inf_Zero, ml_Zero_None, mlb_Zero_None, ml_Zero_Inf, mlb_Zero_Inf, ml_Zero_Zero, mlb_Zero_Zero, ml_Fin_None, mlb_Fin_None, ml_Fin_Inf, mlb_Fin_Inf, ml_Fin_Zero, mlb_Fin_Zero]
        (try simp only [sg1, sg2])
        generalize (if s = t then (0 : Int) else 1) = sg at *
        first | (rw [hp.qui, bs, hr.qui, bs]; exact ⟨_, rfl, rfl⟩) | (rw [hp.inf _ hsg, bs, hr.inf _ hsg, bs]; exact ⟨_, rfl, rfl⟩) | (rw [hp.zer _ hsg, bs, hr.zer _ hsg, bs]; exact ⟨_, rfl, rfl⟩)
      | inf t ht =>
        obtain ⟨sg1, sg2, hsg⟩ := sgn hs ht
        simp only [twv, if_true, if_false, Bool.false_eq_true, float_Div.j0, float_Div.j1, float_Div.j2, quadratref01_Div.j0, quadratref01_Div.j1, mq_0_0, mb_0_0, mn_0_0, mq_0_1, mb_0_1, mn_0_1, mq_0_2, mb_0_2, mn_0_2, mq_0_3, mb_0_3, mn_0_3, mq_1_0, mb_1_0, mn_1_0, mq_1_1, mb_1_1, mn_1_1, mq_1_2, mb_1_2, mn_1_2, mq_1_3, mb_1_3, mn_1_3, mq_2_0, mb_2_0, mn_2_0, mq_2_1, mb_2_1, mn_2_1, mq_2_2, mb_2_2, mn_2_2, mq_2_3, mb_2_3, mn_2_3, mq_3_0, mb_3_0, mn_3_0, mq_3_1, mb_3_1, mn_3_1, mq_3_2, mb_3_2, mn_3_2, mq_3_3, mb_3_3, mn_3_3, ml_None_None, mlb_None_None, ml_None_Inf, mlb_None_Inf, ml_None_Zero, mlb_None_Zero, ml_Inf_None, mlb_Inf_None, ml_Inf_Inf, mlb_Inf_Inf, ml_Inf_Zero, mlb_Inf_Zero, ml_Zero_None, mlb_Zero_None, ml_Zero_Inf, mlb_Zero_Inf, ml_Zero_Zero, mlb_Zero_Zero, ml_Fin_None, mlb_Fin_None, ml_Fin_Inf, mlb_Fin_Inf, ml_Fin_Zero, mlb_Fin_Zero]
        (try simp only [sg1, sg2])
        generalize (if s = t then (0 : Int) else 1) = sg at *
        first | (rw [hp.qui, bs, hr.qui, bs]; exact ⟨_, rfl, rfl⟩) | (rw [hp.inf _ hsg, bs, hr.inf _ hsg, bs]; exact ⟨_, rfl, rfl⟩) | (rw [hp.zer _ hsg, bs, hr.zer _ hsg, bs]; exact ⟨_, rfl, rfl⟩)
      | zero t ht =>
        obtain ⟨sg1, sg2, hsg⟩ := sgn hs ht
        simp only [twv, if_true, if_false, Bool.false_eq_true, float_Div.j0, float_Div.j1, float_Div.j2, quadratref01_Div.j0, quadratref01_Div.j1, mq_0_0, mb_0_0, mn_0_0, mq_0_1, mb_0_1, mn_0_1, mq_0_2, mb_0_2, mn_0_2, mq_0_3, mb_0_3, mn_0_3, mq_1_0, mb_1_0, mn_1_0, mq_1_1, mb_1_1, mn_1_1, mq_1_2, mb_1_2, mn_1_2, mq_1_3, mb_1_3, mn_1_3, mq_2_0, mb_2_0, mn_2_0, mq_2_1, mb_2_1, mn_2_1, mq_2_2, mb_2_2, mn_2_2, mq_2_3, mb_2_3, mn_2_3, mq_3_0, mb_3_0, mn_3_0, mq_3_1, mb_3_1, mn_3_1, mq_3_2, mb_3_2, mn_3_2, mq_3_3, mb_3_3, mn_3_3, ml_None_None, mlb_None_None, ml_None_Inf, mlb_None_Inf, ml_None_Zero, mlb_None_Zero, ml_Inf_None, mlb_Inf_None, ml_Inf_Inf, mlb_Inf_Inf, ml_Inf_Zero, mlb_Inf_Zero, ml_Zero_None, mlb_Zero_None, ml_Zero_Inf, mlb_Zero_Inf, ml_Zero_Zero, mlb_Zero_Zero, ml_Fin_None, mlb_Fin_None, ml_Fin_Inf, mlb_Fin_Inf, ml_Fin_Zero, mlb_Fin_Zero]
        (try simp only [sg1, sg2])
        generalize (if s = t then (0 : Int) else 1) = sg at *
        first | (rw [hp.qui, bs, hr.qui, bs]; exact ⟨_, rfl, rfl⟩) | (rw [hp.inf _ hsg, bs, hr.inf _ hsg, bs]; exact ⟨_, rfl, rfl⟩) | (rw [hp.zer _ hsg, bs, hr.zer _ hsg, bs]; exact ⟨_, rfl, rfl⟩)
      | fin t ht n f hn0 hn1 hf0 hf1 hl =>
        obtain ⟨sg1, sg2, hsg⟩ := sgn hs ht
        simp only [twv, if_true, if_false, Bool.false_eq_true, float_Div.j0, float_Div.j1, float_Div.j2, quadratref01_Div.j0, quadratref01_Div.j1, mq_0_0, mb_0_0, mn_0_0, mq_0_1, mb_0_1, mn_0_1, mq_0_2, mb_0_2, mn_0_2, mq_0_3, mb_0_3, mn_0_3, mq_1_0, mb_1_0, mn_1_0, mq_1_1, mb_1_1, mn_1_1, mq_1_2, mb_1_2, mn_1_2, mq_1_3, mb_1_3, mn_1_3, mq_2_0, mb_2_0, mn_2_0, mq_2_1, mb_2_1, mn_2_1, mq_2_2, mb_2_2, mn_2_2, mq_2_3, mb_2_3, mn_2_3, mq_3_0, mb_3_0, mn_3_0, mq_3_1, mb_3_1, mn_3_1, mq_3_2, mb_3_2, mn_3_2, mq_3_3, mb_3_3, mn_3_3, ml_None_None, mlb_None_None, ml_None_Inf, mlb_None_Inf, ml_None_Zero, mlb_None_Zero, ml_Inf_None, mlb_Inf_None, ml_Inf_Inf, mlb_Inf_Inf, ml_Inf_Zero, mlb_Inf_Zero, ml_Zero_None, mlb_Zero_None, ml_Zero_Inf, mlb_Zero_Inf, ml_Zero_Zero, mlb_Zero_Zero, ml_Fin_None, mlb_Fin_None, ml_Fin_Inf, mlb_Fin_Inf, ml_Fin_Zero, mlb_Fin_Zero]
        (try simp only [sg1, sg2])
        generalize (if s = t then (0 : Int) else 1) = sg at *
        first | (rw [hp.qui, bs, hr.qui, bs]; exact ⟨_, rfl, rfl⟩) | (rw [hp.inf _ hsg, bs, hr.inf _ hsg, bs]; exact ⟨_, rfl, rfl⟩) | (rw [hp.zer _ hsg, bs, hr.zer _ hsg, bs]; exact ⟨_, rfl, rfl⟩)
    | fin s hs m e hm0 hm1 he0 he1 hlm =>
      cases vy with
      | none t ht =>
        obtain ⟨sg1, sg2, hsg⟩ := sgn hs ht
        simp only [twv, if_true, if_false, Bool.false_eq_true, float_Div.j0, float_Div.j1, float_Div.j2, quadratref01_Div.j0, quadratref01_Div.j1, mq_0_0, mb_0_0, mn_0_0, mq_0_1, mb_0_1, mn_0_1, mq_0_2, mb_0_2, mn_0_2, mq_0_3, mb_0_3, mn_0_3, mq_1_0, mb_1_0, mn_1_0, mq_1_1, mb_1_1, mn_1_1, mq_1_2, mb_1_2, mn_1_2, mq_1_3, mb_1_3, mn_1_3, mq_2_0, mb_2_0, mn_2_0, mq_2_1, mb_2_1, mn_2_1, mq_2_2, mb_2_2, mn_2_2, mq_2_3, mb_2_3, mn_2_3, mq_3_0, mb_3_0, mn_3_0, mq_3_1, mb_3_1, mn_3_1, mq_3_2, mb_3_2, mn_3_2, mq_3_3, mb_3_3, mn_3_3, ml_None_None, mlb_None_None, ml_None_Inf, mlb_None_Inf, ml_None_Zero, mlb_None_Zero, ml_Inf_None, mlb_Inf_None, ml_Inf_Inf, mlb_Inf_Inf, ml_Inf_Zero, mlb_Inf_Zero, ml_Zero_None, mlb_Zero_None, ml_Zero_Inf, mlb_Zero_Inf, ml_Zero_Zero, mlb_Zero_Zero, ml_Fin_None, mlb_Fin_None, ml_Fin_Inf, mlb_Fin_Inf, ml_Fin_Zero, mlb_Fin_Zero]
        (try simp only [sg1, sg2])
        generalize (if s = t then (0 : Int) else 1) = sg at *
        first | (rw [hp.qui, bs, hr.qui, bs]; exact ⟨_, rfl, rfl⟩) | (rw [hp.inf _ hsg, bs, hr.inf _ hsg, bs]; exact ⟨_, rfl, rfl⟩) | (rw [hp.zer _ hsg, bs, hr.zer _ hsg, bs]; exact ⟨_, rfl, rfl⟩)
      | inf t ht =>
        obtain ⟨sg1, sg2, hsg⟩ := sgn hs ht
        simp only [twv, if_true, if_false, Bool.false_eq_true, float_Div.j0, float_Div.j1, float_Div.j2, quadratref01_Div.j0, quadratref01_Div.j1, mq_0_0, mb_0_0, mn_0_0, mq_0_1, mb_0_1, mn_0_1, mq_0_2, mb_0_2, mn_0_2, mq_0_3, mb_0_3, mn_0_3, mq_1_0, mb_1_0, mn_1_0, mq_1_1, mb_1_1, mn_1_1, mq_1_2, mb_1_2, mn_1_2, mq_1_3, mb_1_3, mn_1_3, mq_2_0, mb_2_0, mn_2_0, mq_2_1, mb_2_1, mn_2_1, mq_2_2, mb_2_2, mn_2_2, mq_2_3, mb_2_3, mn_2_3, mq_3_0, mb_3_0, mn_3_0, mq_3_1, mb_3_1, mn_3_1, mq_3_2, mb_3_2, mn_3_2, mq_3_3, mb_3_3, mn_3_3, ml_None_None, mlb_None_None, ml_None_Inf, mlb_None_Inf, ml_None_Zero, mlb_None_Zero, ml_Inf_None, mlb_Inf_None, ml_Inf_Inf, mlb_Inf_Inf, ml_Inf_Zero, mlb_Inf_Zero, ml_Zero_None, mlb_Zero_None, ml_Zero_Inf, mlb_Zero_Inf, ml_Zero_Zero, mlb_Zero_Zero, ml_Fin_None, mlb_Fin_None, ml_Fin_Inf, mlb_Fin_Inf, ml_Fin_Zero, mlb_Fin_Zero]
        (try simp only [sg1, sg2])
        generalize (if s = t then (0 : Int) else 1) = sg at *
        first | (rw [hp.qui, bs, hr.qui, bs]; exact ⟨_, rfl, rfl⟩) | (rw [hp.inf _ hsg, bs, hr.inf _ hsg, bs]; exact ⟨_, rfl, rfl⟩) | (rw [hp.zer _ hsg, bs, hr.zer _ hsg, bs]; exact ⟨_, rfl, rfl⟩)
      | zero t ht =>
        obtain ⟨sg1, sg2, hsg⟩ := sgn hs ht
        simp only [twv, if_true, if_false, Bool.false_eq_true, float_Div.j0, float_Div.j1, float_Div.j2, quadratref01_Div.j0, quadratref01_Div.j1, mq_0_0, mb_0_0, mn_0_0, mq_0_1, mb_0_1, mn_0_1, mq_0_2, mb_0_2, mn_0_2, mq_0_3, mb_0_3, mn_0_3, mq_1_0, mb_1_0, mn_1_0, mq_1_1, mb_1_1, mn_1_1, mq_1_2, mb_1_2, mn_1_2, mq_1_3, mb_1_3, mn_1_3, mq_2_0, mb_2_0, mn_2_0, mq_2_1, mb_2_1, mn_2_1, mq_2_2, mb_2_2, mn_2_2, mq_2_3, mb_2_3, mn_2_3, mq_3_0, mb_3_0, mn_3_0, mq_3_1, mb_3_1, mn_3_1, mq_3_2, mb_3_2, mn_3_2, mq_3_3, mb_3_3, mn_3_3, ml_None_None, mlb_None_None, ml_None_Inf, mlb_None_Inf, ml_None_Zero, mlb_None_Zero, ml_Inf_None, mlb_Inf_None, ml_Inf_Inf, mlb_Inf_Inf, ml_Inf_Zero, mlb_Inf_Zero, ml_Zero_None, mlb_Zero_None, ml_Zero_Inf, mlb_Zero_Inf, ml_Zero_Zero, mlb_Zero_Zero, ml_Fin_None, mlb_Fin_None, ml_Fin_Inf, mlb_Fin_Inf, ml_Fin_Zero, mlb_Fin_Zero]
        (try simp only [sg1, sg2])
        generalize (if s = t then (0 : Int) else 1) = sg at *
        first | (rw [hp.qui, bs, hr.qui, bs]; exact ⟨_, rfl, rfl⟩) | (rw [hp.inf _ hsg, bs, hr.inf _ hsg, bs]; exact ⟨_, rfl, rfl⟩) | (rw [hp.zer _ hsg, bs, hr.zer _ hsg, bs]; exact ⟨_, rfl, rfl⟩)
      | fin t ht n f hn0 hn1 hf0 hf1 hl =>
        obtain ⟨sg1, sg2, hsg⟩ := sgn hs ht
        simp only [twv, if_true, if_false, Bool.false_eq_true, float_Div.j0, float_Div.j1, float_Div.j2, quadratref01_Div.j0, quadratref01_Div.j1, mq_0_0, mb_0_0, mn_0_0, mq_0_1, mb_0_1, mn_0_1, mq_0_2, mb_0_2, mn_0_2, mq_0_3, mb_0_3, mn_0_3, mq_1_0, mb_1_0, mn_1_0, mq_1_1, mb_1_1, mn_1_1, mq_1_2, mb_1_2, mn_1_2, mq_1_3, mb_1_3, mn_1_3, mq_2_0, mb_2_0, mn_2_0, mq_2_1, mb_2_1, mn_2_1, mq_2_2, mb_2_2, mn_2_2, mq_2_3, mb_2_3, mn_2_3, mq_3_0, mb_3_0, mn_3_0, mq_3_1, mb_3_1, mn_3_1, mq_3_2, mb_3_2, mn_3_2, mq_3_3, mb_3_3, mn_3_3, ml_None_None, mlb_None_None, ml_None_Inf, mlb_None_Inf, ml_None_Zero, mlb_None_Zero, ml_Inf_None, mlb_Inf_None, ml_Inf_Inf, mlb_Inf_Inf, ml_Inf_Zero, mlb_Inf_Zero, ml_Zero_None, mlb_Zero_None, ml_Zero_Inf, mlb_Zero_Inf, ml_Zero_Zero, mlb_Zero_Zero, ml_Fin_None, mlb_Fin_None, ml_Fin_Inf, mlb_Fin_Inf, ml_Fin_Zero, mlb_Fin_Zero]
        simp only [sg1, sg2]
        generalize (if s = t then (0 : Int) else 1) = sg at *
        have hm53 : m < 2 ^ 53 := Nat.lt_of_lt_of_le hm1 (Nat.pow_le_pow_right (by omega) hp1)
        have hn53 : n < 2 ^ 53 := Nat.lt_of_lt_of_le hn1 (Nat.pow_le_pow_right (by omega) hp1)
        obtain ⟨v, E, c0, c1, c2, c3⟩ := pdiv_eq hp (k + 69) (by omega) mode sg s t e f m n hm hsg hm0 hn0 hm53 hn53 (by omega) (by omega) (by omega) (by omega)
        obtain ⟨d1, d2⟩ := rdiv_eq hr (k + 70) (by omega) mode sg e f m n hm hsg hm0 hn0 hm1 hn1 (by omega) (by omega) (by omega) (by omega)
        unfold pDiv at c3
        unfold rDiv at d2
        refine ⟨_, c3, ?_⟩
        rw [d2, quot_scale p bias mode sg (E1 := E) (E2 := e - f - ((2 * p + 4 : Nat) : Int)) hn0 (by omega) c2 d1]
theorem FloatProducts (kind mode a b : Int) (ha0 : -9223372036854775808 ≤ a) (ha1 : a < 9223372036854775808) (hb0 : -9223372036854775808 ≤ b) (hb1 : b < 9223372036854775808) : ∃ k, quadratlaw01_FloatProducts.f k kind mode a b = some true := by
  refine ⟨200000, ?_⟩
  obtain ⟨r, a1, a2⟩ := mul_eq 200000 (by omega) kind mode a b ha0 ha1 hb0 hb1
  obtain ⟨q, b1, b2⟩ := div_eq 200000 (by omega) kind mode a b ha0 ha1 hb0 hb1
  unfold quadratlaw01_FloatProducts.f
  have ha : quadratlaw01_Awake.f 200000 = some true := awake 199900
  rw [a1, bs, a2, bs, b1, bs, b2, bs, if_pos rfl, if_pos rfl, if_pos rfl, if_pos rfl, if_pos rfl, if_pos rfl, ha, bs]
end Go.Proofs.Ytgpnmifejgdipaa.Pf
