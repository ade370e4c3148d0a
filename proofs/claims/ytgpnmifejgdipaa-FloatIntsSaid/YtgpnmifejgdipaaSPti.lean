/-
  FloatInts: FromInt and ToInt are what the reference says. By the session's own hand.
-/
import Derived.Test.YtgpnmifejgdipaaSPfi
import Derived.Test.YtgpnmifejgdipaaSPcmp
import Derived.Test.YtgpnmifejgdipaaDf
set_option linter.unusedVariables false
set_option linter.unusedSimpArgs false
namespace Go.Proofs.Ytgpnmifejgdipaa.Pf
open Go.RowKit Go.Proofs.Ytgpnmifejgdipaa.My Go.Proofs.Ytgpnmifejgdipaa.RM Go.Proofs.YtgpnmifejgdipaaW.PrintWords Go.Proofs.YtgpnmifejgdipaaW.PrintLast Go.Proofs.YtgpnmifejgdipaaW.PrintMore

/-- What ToInt makes of a whole number and the class of what is left. -/
def tiR (sign : Int) (M : Nat) (fl : Int) : Int × Int × Int :=
  if 9223372036854775808 < M ∨ (M = 9223372036854775808 ∧ sign = 0) then (0, 0, 10) else (wrap64 (if sign = 1 then -(M : Int) else M), fl, 0)
theorem pti2 (k : Nat) (sign : Int) (M c : Nat) (x1 x3 x4 : Int) (hM : M < 18446744073709551616) (hs : sign = 0 ∨ sign = 1) :
    float_ToInt.j2 (k + 2) 0 (M : Int) (c : Int) x1 sign x3 x4 = some (tiR sign M (if 0 < c then 16 else 0)) := by
  simp only [float_ToInt.j2, float_ToInt.j3]
  have e1 : wrap64 (IntKind.u64.wrap (-(M : Int))) = wrap64 (-(M : Int)) := by rw [wrap_u64]; unfold wrap64; omega
  rw [e1]
  unfold tiR
  by_cases h1 : 9223372036854775808 < M
  · have : (M : Int) > 9223372036854775808 := by omega
    simp [h1, this]
  · have h1' : ¬ (M : Int) > 9223372036854775808 := by omega
    by_cases h2 : M = 9223372036854775808
    · subst h2
      rcases hs with rfl | rfl
      · simp
      · by_cases hc : 0 < c
        · have : (c : Int) > 0 := by omega
          simp [hc, this]
        · have : ¬ (c : Int) > 0 := by omega
          simp [hc, this]
    · have h2' : ¬ (M : Int) = 9223372036854775808 := by omega
      by_cases hc : 0 < c
      · have : (c : Int) > 0 := by omega
        rcases hs with rfl | rfl <;> simp [h1, h1', h2, h2', hc, this]
      · have : ¬ (c : Int) > 0 := by omega
        rcases hs with rfl | rfl <;> simp [h1, h1', h2, h2', hc, this]
theorem pti1 (k : Nat) (mode sign : Int) (M c : Nat) (x1 x3 x4 : Int) (hM : M < 18446744073709551615) (hs : sign = 0 ∨ sign = 1) (hm : 0 ≤ mode ∧ mode ≤ 3) :
    float_ToInt.j1 (k + 3) mode 0 (M : Int) (c : Int) x1 sign x3 x4 = some (tiR sign (if away mode sign (M % 2 == 1) c then M + 1 else M) (if 0 < c then 16 else 0)) := by
  simp only [float_ToInt.j1]
  rw [low_bit M (by omega), away_eq mode sign _ c hm, bs]
  cases away mode sign (M % 2 == 1) c with
  | true =>
    simp only [if_true]
    have e : IntKind.u64.wrap ((M : Int) + 1) = ((M + 1 : Nat) : Int) := by rw [wrap_u64]; omega
    rw [e]; exact pti2 k sign (M + 1) c x1 x3 x4 (by omega) hs
  | false => simp only [Bool.false_eq_true, if_false]; exact pti2 k sign M c x1 x3 x4 (by omega) hs
theorem blen63 : blen (2 ^ 63) = 64 := blen_eq (k := 63) (by decide) (by decide)
theorem rti1 (k : Nat) (hk : 70000 ≤ k) (sign fl : Int) (M : Nat) (wa : ByteArray) (l : List Int) (e : Int) (hM : blen M ≤ 30000) (hs : sign = 0 ∨ sign = 1) :
    quadratref01_ToInt.j1 (k + 2) (nat M) fl wa sign l e = some (tiR sign M fl) := by
  have u := up_nat 1 63 (by rw [blen_eq (n := 1) (k := 0) (by decide) (by decide)]; decide)
  have b63 := blen63
  have c := cmp_nat M (2 ^ 63) (k + 1) (by omega) (by omega) (by omega)
  simp only [quadratref01_ToInt.j1]
  rw [one_nat _ (by omega), bs]
  rw [Nat.one_mul] at u
  rw [show (63 : Int) = ((63 : Nat) : Int) from rfl, u, bs, c, bs]
  have hp : (2 : Nat) ^ 63 = 9223372036854775808 := by decide
  simp only [quadratref01_ToInt.j2]
  rw [hp]
  rcases Nat.lt_trichotomy M 9223372036854775808 with h | h | h
  · have ct : cmpn M 9223372036854775808 = -1 := by unfold cmpn; rw [if_pos h]
    rw [ct, if_neg (by decide), if_neg (by decide), if_neg (by decide), int_nat M k (by omega) (by omega), bs]
    unfold tiR
    rw [if_neg (show ¬ (9223372036854775808 < M ∨ (M = 9223372036854775808 ∧ sign = 0)) by omega)]
    rcases hs with rfl | rfl
    · simp
    · simp only [if_true]
      have : wrap64 (-wrap64 (M : Int)) = wrap64 (-(M : Int)) := by unfold wrap64; omega
      rw [this]
  · have ct : cmpn M 9223372036854775808 = 0 := by unfold cmpn; rw [if_neg (by omega), if_pos h]
    rw [ct, if_neg (by decide), if_pos rfl]
    unfold tiR
    rcases hs with rfl | rfl
    · simp [h]
    · rw [if_neg (by decide), int_nat _ k (by omega) (by omega), bs, if_pos rfl, if_neg (show ¬ (9223372036854775808 < M ∨ (M = 9223372036854775808 ∧ (1 : Int) = 0)) by omega), if_pos rfl]
      have : wrap64 (-wrap64 (M : Int)) = wrap64 (-(M : Int)) := by unfold wrap64; omega
      rw [this]
  · have ct : cmpn M 9223372036854775808 = 1 := by unfold cmpn; rw [if_neg (by omega), if_neg (by omega)]
    unfold tiR
    rw [ct, if_pos (by decide), if_pos trivial, if_pos (show 9223372036854775808 < M ∨ (M = 9223372036854775808 ∧ sign = 0) from .inl h)]
theorem toInt_eq (k : Nat) (hk : 100000 ≤ k) (kind mode a : Int) (ha0 : -9223372036854775808 ≤ a) (ha1 : a < 9223372036854775808) :
    ∃ r, float_ToInt.f k kind mode a = some r ∧ quadratref01_ToInt.f k kind mode a = some r := by
  obtain ⟨k, rfl⟩ : ∃ m, k = m + 72 := ⟨k - 72, by omega⟩
  rcases ask k kind mode a a ha0 ha1 ha0 ha1 with ⟨h1, p, w, x1, x2, x3, x4, y1, y2, y3, y4, ht⟩ | ⟨h1, hm, p, w, bias, T, x, y, x', y', hr, hp, hof, ht, hx, hy, vx, vy, ⟨sx, zx⟩, sy, zy⟩
  · refine ⟨(0, 0, 2), ?_, ?_⟩
    · unfold float_ToInt.f; rw [ht, bs]; simp
    · unfold quadratref01_ToInt.f; rw [h1, bs]; simp
  · have hp0 := hr.p0; have hp1 := hr.p1; have hb0 := hr.b0; have hb1 := hr.b1
    have hpp := pow_p hp0
    have hps := pow_small hp1
    unfold float_ToInt.f quadratref01_ToInt.f
    rw [ht, bs, h1, bs, hx, bs]
    have hok : x.2.2.2.2 = true ∧ y.2.2.2.2 = true := ⟨by cases vx <;> rfl, by cases vy <;> rfl⟩
    simp only [twv, hok.1, hok.2, Bool.and_true, if_true]
    cases vx with
    | none s hs =>
      refine ⟨(0, 0, 10), ?_, ?_⟩
      · simp only [float_ToInt.j0, if_true]
      · rw [sNone_l, if_pos rfl]; simp only [quadratref01_ToInt.j0]; simp
    | inf s hs =>
      refine ⟨(0, 0, 10), ?_, ?_⟩
      · rw [if_neg (by simp)]; simp only [float_ToInt.j0, if_true]
      · rw [sInf_l, if_neg (by decide)]; simp only [quadratref01_ToInt.j0]; simp
    | zero s hs =>
      refine ⟨(0, 0, 0), ?_, ?_⟩
      · rw [if_neg (by simp), if_neg (by simp)]; simp only [float_ToInt.j0]; simp
      · rw [sZero_l, if_neg (by decide)]; simp only [quadratref01_ToInt.j0]; rw [sZero_l, if_neg (by decide), if_pos rfl]
    | fin s hs m e hm0 hm1 he0 he1 hl =>
      have hbm : blen m ≤ p := blen_le.2 hm1
      have hb1' := blen_pos hm0
      rw [if_neg (by simp), if_neg (by simp), sFin_l, if_neg (by decide)]
      simp only [float_ToInt.j0, quadratref01_ToInt.j0]
      rw [sFin_l, if_neg (show ¬ (([102, 105, 110, 105, 116, 101] : List UInt8) == [105, 110, 102, 105, 110, 105, 116, 101]) = true by decide), if_neg (show ¬ ([102, 105, 110, 105, 116, 101] : List UInt8) = [122, 101, 114, 111] by decide), mx_max]
      by_cases hge : 0 ≤ e
      · obtain ⟨d, rfl⟩ : ∃ d : Nat, e = d := ⟨e.toNat, by omega⟩
        have u := up_nat m d (by omega)
        have bM : blen (m * 2 ^ d) = blen m + d := blen_mul_pow hm0 d
        have J := rti1 (k + 69) (by omega) s 0 (m * 2 ^ d) sFin (nat m) (d : Int) (by omega) hs
        have emax : max (d : Int) 0 = (d : Int) := by omega
        rw [emax, u, bs, if_neg (show ¬ (d : Int) < 0 by omega), J]
        by_cases h64 : 64 ≤ d
        · have hbig : 9223372036854775808 < m * 2 ^ d := by
            have : 2 ^ 64 ≤ m * 2 ^ d := lt_blen.1 (by omega)
            omega
          rw [decide_eq_true (show (d : Int) ≥ 64 by omega), if_pos rfl]
          unfold tiR; rw [if_pos (.inl hbig)]; exact ⟨_, rfl, rfl⟩
        · rw [decide_eq_false (show ¬ (d : Int) ≥ 64 by omega), if_neg (by simp), if_neg (by simp), if_pos (show (d : Int) ≥ 0 by omega), if_pos (show 0 ≤ (d : Int) by omega)]
          have es : shl .u64 (m : Int) (d : Int) = ((m * 2 ^ d % 18446744073709551616 : Nat) : Int) := by
            unfold shl
            rw [wrap_u64, Int.toNat_natCast]
            have : min d IntKind.u64.bits = d := by simp only [IntKind.bits]; omega
            rw [this]
            have hc2 : ((m : Int) * 2 ^ d) = ((m * 2 ^ d : Nat) : Int) := by push_cast; rfl
            rw [hc2]; omega
          have er : shr .u64 ((m * 2 ^ d % 18446744073709551616 : Nat) : Int) (d : Int) = ((m * 2 ^ d % 18446744073709551616 / 2 ^ d : Nat) : Int) := by
            unfold shr
            rw [Int.toNat_natCast]
            have : min d IntKind.u64.bits = d := by simp only [IntKind.bits]; omega
            rw [this]
            have hc2 : ((2 : Int) ^ d) = ((2 ^ d : Nat) : Int) := by push_cast; rfl
            rw [hc2]; exact (Int.natCast_ediv _ _).symm
          rw [es, er]
          by_cases hfit : m * 2 ^ d < 18446744073709551616
          · rw [Nat.mod_eq_of_lt hfit, Nat.mul_div_cancel _ (Nat.two_pow_pos d), if_pos rfl]
            have hne : m * 2 ^ d < 18446744073709551615 ∨ m * 2 ^ d = 18446744073709551615 := by omega
            rcases hne with hne | hne
            · have := pti1 (k + 68) mode s (m * 2 ^ d) 0 1 (m : Int) (d : Int) hne hs hm
              rw [away_zero] at this
              exact ⟨_, this, rfl⟩
            · exfalso
              have hb := lt_pow_blen m
              have h2 : 2 ^ blen m ≤ 2 ^ 53 := pow_lt_64 (by omega)
              rcases Nat.eq_zero_or_pos d with h0 | h0
              · rw [h0, Nat.pow_zero, Nat.mul_one] at hne; omega
              · obtain ⟨d, rfl⟩ : ∃ j, d = j + 1 := ⟨d - 1, by omega⟩
                rw [Nat.pow_succ, ← Nat.mul_assoc] at hne; omega
          · have hne : ¬ ((m * 2 ^ d % 18446744073709551616 / 2 ^ d : Nat) : Int) = (m : Int) := by
              intro hh
              have h3 : m * 2 ^ d % 18446744073709551616 / 2 ^ d = m := by omega
              have h4 := Nat.div_mul_le_self (m * 2 ^ d % 18446744073709551616) (2 ^ d)
              rw [h3] at h4
              have h5 := Nat.mod_lt (m * 2 ^ d) (show 0 < 18446744073709551616 by decide)
              omega
            rw [if_neg hne]
            unfold tiR; rw [if_pos (.inl (by omega))]; exact ⟨_, rfl, rfl⟩
      · obtain ⟨d, hd⟩ : ∃ d : Nat, -e = d := ⟨(-e).toNat, by omega⟩
        have ed : wrap64 (-e) = (d : Int) := by rw [w64_id (by omega) (by omega)]; omega
        have ed1 : wrap64 ((d : Int) - 1) = ((d - 1 : Nat) : Int) := by rw [w64_id (by omega) (by omega)]; omega
        have hMl : m / 2 ^ d ≤ m := Nat.div_le_self _ _
        have hr0 := right_l0 m false hm0 d 0 (k + 71) 0 m (by simp) (by decide) (by omega) (by rw [Nat.zero_add]; omega) (by omega) (by omega) (by omega)
        rw [Nat.zero_add] at hr0
        simp only [hf, bl] at hr0
        have hright : float_exact_right.f (k + 71) 0 (m : Int) 0 false (d : Int) = some (((m / 2 ^ d : Nat) : Int), ((cls (m % 2 ^ d) d false : Nat) : Int)) := hr0
        rw [decide_eq_false (show ¬ e ≥ 64 by omega), if_neg (by simp), if_neg (by simp), if_neg (show ¬ e ≥ 0 by omega), ed, hright, bs, pti1 (k + 68) mode s (m / 2 ^ d) _ 1 (m : Int) e (by omega) hs hm]
        have emax : max e 0 = ((0 : Nat) : Int) := by omega
        have u0 := up_nat m 0 (by omega)
        have b1 : blen (m / 2 ^ d) ≤ blen m := by rw [blen_div_pow]; omega
        have u1 := down_nat m d (by omega)
        have u2 := up_nat (m / 2 ^ d) d (by omega)
        have hle : m / 2 ^ d * 2 ^ d ≤ m := Nat.div_mul_le_self m (2 ^ d)
        have u3 := minus_nat m (m / 2 ^ d * 2 ^ d) (k + 71) hle (by omega) (by omega)
        have hmod : m - m / 2 ^ d * 2 ^ d = m % 2 ^ d := by
          have := Nat.div_add_mod m (2 ^ d)
          rw [Nat.mul_comm] at this; omega
        rw [hmod] at u3
        have hrd := Nat.mod_lt m (Nat.two_pow_pos d)
        rw [emax, u0, bs, if_pos (show e < 0 by omega), u1, bs, u2, bs, u3, bs, length_nat]
        generalize hR : m % 2 ^ d = r at *
        generalize hQ : m / 2 ^ d = M at *
        by_cases h0 : r = 0
        · have hb : blen r = 0 := by rw [h0]; rfl
          have hc : cls r d false = 0 := by rw [h0, cls_zero]; rfl
          rw [hb, if_neg (show ¬ (((0 : Nat) : Int) > 0) by simp), hc, away_zero]
          have := rti1 (k + 69) (by omega) s 0 M sFin (nat m) e (by omega) hs
          rw [this]
          exact ⟨_, rfl, by simp⟩
        · have hb := blen_pos h0
          have hbr : blen r ≤ d := blen_le.2 hrd
          obtain ⟨hc1, hc2⟩ := cls_half r d false (.inl h0)
          have hc3 := cls_le r d false
          have hc4 : cmpn r (2 ^ (d - 1)) = halfOf (cls r d false) := by
            rw [← hc2]; split <;> simp
          have bone : blen 1 = 1 := blen_eq (k := 0) (by decide) (by decide)
          have b2 : blen (2 ^ (d - 1)) = d := by
            have := blen_mul_pow (n := 1) (by decide) (d - 1)
            rw [Nat.one_mul, bone] at this; omega
          have u4 := up_nat 1 (d - 1) (by omega)
          rw [Nat.one_mul] at u4
          have u5 := cmp_nat r (2 ^ (d - 1)) (k + 71) (by omega) (by omega) (by omega)
          have e1 : ((((M / 2 ^ 0 % 2 : Nat) : Int)) == 1) = (M % 2 == 1) := by
            rcases Nat.mod_two_eq_zero_or_one M with h0 | h0 <;> simp [h0]
          have u6 : quadratref01_digit.f (nat M) 0 = some ((M / 2 ^ 0 % 2 : Nat) : Int) := digit_nat M 0
          rw [if_pos (show ((blen r : Nat) : Int) > 0 by omega), one_nat _ (by omega), bs, ed1, u4, bs, u5, bs, hc4]
          rw [u6, bs, e1, up_away mode s _ _ hm hc1 hc3, bs]
          rw [if_pos (show 0 < cls r d false by omega)]
          cases away mode s (M % 2 == 1) (cls r d false) with
          | true =>
            have u7 := plus_nat M 1 (k + 71) (by omega) (by omega)
            have hb2 : blen (M + 1) ≤ 60 := blen_le.2 (by omega)
            simp only [if_true]
            rw [bs, u7, bs, rti1 (k + 69) (by omega) s 16 (M + 1) sFin (nat m) e (by omega) hs]
            exact ⟨_, rfl, rfl⟩
          | false =>
            simp only [Bool.false_eq_true, if_false]
            rw [rti1 (k + 69) (by omega) s 16 M sFin (nat m) e (by omega) hs]
            exact ⟨_, rfl, rfl⟩
theorem awake' (k : Nat) (hk : 100 ≤ k) : quadratlaw01_Awake.f k = some true := by
  obtain ⟨j, rfl⟩ : ∃ j, k = j + 100 := ⟨k - 100, by omega⟩
  exact awake j
theorem FloatInts : quadratlaw01_FloatInts.Pure := by
  intro kind mode n _ _ hn
  have hn := lit_wf hn
  refine ⟨200000, ?_⟩
  obtain ⟨r, h1, h2⟩ := fromInt_eq 200000 (by omega) kind mode n hn.1 hn.2
  obtain ⟨q, h3, h4⟩ := toInt_eq 200000 (by omega) kind mode n hn.1 hn.2
  unfold quadratlaw01_FloatInts.f
  rw [h1, bs, h2, bs, h3, bs, h4, bs, awake' 200000 (by omega)]
  simp
end Go.Proofs.Ytgpnmifejgdipaa.Pf
