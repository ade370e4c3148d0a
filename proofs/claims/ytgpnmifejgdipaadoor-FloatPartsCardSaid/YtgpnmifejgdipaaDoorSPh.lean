/-
  The reference's Rounded is R. By the session's own hand.
-/
import Derived.Test.YtgpnmifejgdipaaDoorSPg
import Derived.Test.YtgpnmifejgdipaaDoorSPe
import Derived.Test.YtgpnmifejgdipaaDoorDf
set_option linter.unusedVariables false
namespace Go.Proofs.YtgpnmifejgdipaaDoor.Pf
open Go.RowKit Go.Proofs.YtgpnmifejgdipaaDoor.My Go.Proofs.YtgpnmifejgdipaaDoor.RM Go.Proofs.YtgpnmifejgdipaaDoorW.PrintWords Go.Proofs.YtgpnmifejgdipaaDoorW.PrintLast Go.Proofs.YtgpnmifejgdipaaDoorW.PrintMore

theorem wrap_i64 (n : Int) : IntKind.i64.wrap n = wrap64 n := by unfold wrap64; simp [IntKind.wrap, IntKind.bits, IntKind.signed]; split <;> omega
theorem pow_lt_64 {n m : Nat} (h : n ≤ m) : (2 : Nat) ^ n ≤ 2 ^ m := Nat.pow_le_pow_right (by omega) h
theorem shl1_i (n : Nat) (h : n ≤ 62) : shl .i64 1 (n : Int) = ((2 ^ n : Nat) : Int) := by
  unfold shl
  rw [wrap_i64, Int.toNat_natCast]
  have : min n IntKind.i64.bits = n := by simp only [IntKind.bits]; omega
  rw [this, Int.one_mul]
  have h1 := pow_lt_64 h
  have h0 := Nat.two_pow_pos n
  generalize hX : 2 ^ n = X at *
  have e : ((2 : Int) ^ n) = ((X : Nat) : Int) := by rw [← hX]; push_cast; rfl
  rw [e, w64_id (by omega) (by omega)]
theorem shl1_u (n : Nat) (h : n ≤ 63) : shl .u64 1 (n : Int) = ((2 ^ n : Nat) : Int) := by
  unfold shl
  rw [wrap_u64, Int.toNat_natCast]
  have : min n IntKind.u64.bits = n := by simp only [IntKind.bits]; omega
  rw [this, Int.one_mul]
  have h1 := pow_lt_64 h
  have h0 := Nat.two_pow_pos n
  generalize hX : 2 ^ n = X at *
  have e : ((2 : Int) ^ n) = ((X : Nat) : Int) := by rw [← hX]; push_cast; rfl
  rw [e]; omega
def fin2 (p : Nat) (bias mode sign fl q : Int) (M : Nat) : Int × Nat × Int :=
  if M < 2 ^ (p - 1) then (0, M, fl)
  else if q + p - 1 + bias < 2 * bias + 1 then (q + p - 1 + bias, M - 2 ^ (p - 1), fl)
  else if mode = 1 ∨ (mode = 2 ∧ sign = 0) ∨ (mode = 3 ∧ sign = 1) then (2 * bias, 2 ^ (p - 1) - 1, 20)
  else (2 * bias + 1, 0, 20)
theorem pow_p {p : Nat} (h : 11 ≤ p) : 2 ^ p = 2 * 2 ^ (p - 1) := by
  obtain ⟨m, rfl⟩ : ∃ m, p = m + 1 := ⟨p - 1, by omega⟩
  rw [Nat.pow_succ, Nat.mul_comm]; rfl
theorem pow_small {p : Nat} (h : p ≤ 53) : 2 ^ (p - 1) ≤ 4503599627370496 := by
  have := pow_lt_64 (n := p - 1) (m := 52) (by omega)
  simpa using this
theorem RK.inf {kind bias T : Int} {p : Nat} (h : RK kind p bias T) (s : Int) (hs : s = 0 ∨ s = 1) : quadratref01_Infinite.f kind s = some (wrap64 (s * T + (2 * bias + 1) * ((2 ^ (p - 1) : Nat) : Int) + 0)) := by
  have hb0 := h.b0
  have := Nat.two_pow_pos (p - 1)
  unfold quadratref01_Infinite.f
  rw [h.all, bs, h.bit s _ _ hs (by omega) (by omega) (by omega) (by omega), bs]
theorem RK.gre {kind bias T : Int} {p : Nat} (h : RK kind p bias T) (s : Int) (hs : s = 0 ∨ s = 1) : quadratref01_greatest.f kind s = some (wrap64 (s * T + (2 * bias) * ((2 ^ (p - 1) : Nat) : Int) + ((2 ^ (p - 1) - 1 : Nat) : Int))) := by
  have hp0 := h.p0; have hp1 := h.p1; have hb0 := h.b0; have hb1 := h.b1
  have hpos := Nat.two_pow_pos (p - 1)
  have hps := pow_small hp1
  have e1 : wrap64 ((p : Int) - 1) = ((p - 1 : Nat) : Int) := by rw [w64_id (by omega) (by omega)]; omega
  have e2 : wrap64 (2 * bias + 1 - 1) = 2 * bias := by rw [w64_id (by omega) (by omega)]; omega
  have e3 : wrap64 (((2 ^ (p - 1) : Nat) : Int) - 1) = ((2 ^ (p - 1) - 1 : Nat) : Int) := by rw [w64_id (by omega) (by omega)]; omega
  unfold quadratref01_greatest.f
  rw [h.all, bs, h.dig, bs, e1, if_pos (by omega), e2, shl1_i _ (by omega), e3, h.bit s _ _ hs (by omega) (by omega) (by omega) (by omega), bs]
theorem up_far (mode sign : Int) (hm : 0 ≤ mode ∧ mode ≤ 3) (hs : sign = 0 ∨ sign = 1) :
    quadratref01_goesUp.f mode sign 1 true = some (!decide (mode = 1 ∨ (mode = 2 ∧ sign = 0) ∨ (mode = 3 ∧ sign = 1))) := by
  rcases (by omega : mode = 0 ∨ mode = 1 ∨ mode = 2 ∨ mode = 3) with rfl | rfl | rfl | rfl <;> rcases hs with rfl | rfl <;> rfl
theorem rj5 {kind bias T : Int} {p : Nat} (h : RK kind p bias T) (k : Nat) (hk : 70 ≤ k) (mode sign q fl : Int) (M : Nat) (hm : 0 ≤ mode ∧ mode ≤ 3) (hs : sign = 0 ∨ sign = 1) (hq0 : 2 - bias - p ≤ q) (hq1 : q ≤ 90000) (hM : M < 2 ^ p) (hsm : M < 2 ^ (p - 1) → q = 2 - bias - p) :
    quadratref01_Rounded.j5 (k + 1) kind mode sign p q fl (nat M) = some (pk p T sign (fin2 p bias mode sign fl q M)) := by
  have hp0 := h.p0; have hp1 := h.p1; have hb0 := h.b0; have hb1 := h.b1
  have hbl : blen M ≤ p := blen_le.2 hM
  have hpp := pow_p hp0
  have hpos := Nat.two_pow_pos (p - 1)
  have hps := pow_small hp1
  simp only [quadratref01_Rounded.j5]
  rw [h.bia, bs, length_nat, w64_id (n := (blen M : Int) + q) (by omega) (by omega), w64_id (n := bias + 1) (by omega) (by omega)]
  unfold fin2
  by_cases h1 : M < 2 ^ (p - 1)
  · have hq := hsm h1
    have hb2 : blen M ≤ p - 1 := blen_le.2 h1
    rw [if_neg (by omega), int_nat M k (by omega) hk, bs, if_pos (by omega), w64n M (by omega), h.bit sign 0 M hs (by omega) (by omega) (by omega) (by omega), bs, if_pos h1]
    rfl
  · have hb2 : p - 1 < blen M := lt_blen.2 (by omega)
    have hb3 : blen M = p := by omega
    rw [hb3, if_neg h1]
    by_cases h2 : q + p - 1 + bias < 2 * bias + 1
    · have e1 : wrap64 ((p : Int) - 1) = ((p - 1 : Nat) : Int) := by rw [w64_id (by omega) (by omega)]; omega
      have e2 : wrap64 (q - (2 - bias - p)) = q - (2 - bias - p) := w64_id (by omega) (by omega)
      have e3 : wrap64 (q - (2 - bias - p) + 1) = q + p - 1 + bias := by rw [w64_id (by omega) (by omega)]; omega
      rw [if_neg (by omega), int_nat M k (by omega) hk, bs, if_neg (by omega), h.lea, bs, e1, if_pos (by omega), shl1_i _ (by omega), e2, e3, w64n M (by omega)]
      have e4 : wrap64 ((M : Int) - ((2 ^ (p - 1) : Nat) : Int)) = ((M - 2 ^ (p - 1) : Nat) : Int) := by rw [w64_id (by omega) (by omega)]; omega
      rw [e4, h.bit sign _ _ hs (by omega) (by omega) (by omega) (by omega), bs, if_pos h2]
      rfl
    · rw [if_pos (by omega), if_neg h2, up_far mode sign hm hs, bs]
      by_cases h3 : mode = 1 ∨ (mode = 2 ∧ sign = 0) ∨ (mode = 3 ∧ sign = 1)
      · rw [if_pos h3, decide_eq_true h3, if_neg (by simp), h.gre sign hs, bs]; rfl
      · rw [if_neg h3, decide_eq_false h3, if_pos (by simp), h.inf sign hs, bs]; rfl
theorem rj4 {kind bias T : Int} {p : Nat} (h : RK kind p bias T) (k : Nat) (hk : 70 ≤ k) (mode sign q fl : Int) (M : Nat) (hm : 0 ≤ mode ∧ mode ≤ 3) (hs : sign = 0 ∨ sign = 1) (hq0 : 2 - bias - p ≤ q) (hq1 : q ≤ 80000) (hM : M ≤ 2 ^ p) (hsm : M < 2 ^ (p - 1) → q = 2 - bias - p) :
    quadratref01_Rounded.j4 (k + 2) kind mode sign p q fl (nat M) = some (pk p T sign (fin2 p bias mode sign fl (if M = 2 ^ p then q + 1 else q) (if M = 2 ^ p then 2 ^ (p - 1) else M))) := by
  have hp0 := h.p0; have hp1 := h.p1; have hb0 := h.b0; have hb1 := h.b1
  have hpp := pow_p hp0
  have hpos := Nat.two_pow_pos (p - 1)
  simp only [quadratref01_Rounded.j4, length_nat]
  by_cases h1 : M = 2 ^ p
  · have hb : blen M = p + 1 := blen_eq (by omega) (by rw [Nat.pow_succ]; omega)
    have e1 : wrap64 (q + 1) = q + 1 := w64_id (by omega) (by omega)
    have e2 : M / 2 ^ 1 = 2 ^ (p - 1) := by rw [h1, hpp]; omega
    have e3 := down_nat M 1 (by omega)
    rw [if_pos h1, if_pos h1, if_pos (by omega), e1]
    rw [show (1 : Int) = ((1 : Nat) : Int) from rfl, e3, bs, e2]
    exact rj5 h k hk mode sign (q + 1) fl _ hm hs (by omega) (by omega) (by omega) (by omega)
  · have hb : blen M ≤ p := blen_le.2 (by omega)
    rw [if_neg h1, if_neg h1, if_neg (by omega)]
    exact rj5 h k hk mode sign q fl _ hm hs (by omega) (by omega) (by omega) hsm
/-- How what is left compares with half a unit, as the reference says it. -/
def halfOf (c : Nat) : Int := (c : Int) - 2
theorem up_away (mode sign : Int) (c : Nat) (odd : Bool) (hm : 0 ≤ mode ∧ mode ≤ 3) (hc : 1 ≤ c) (hc3 : c ≤ 3) : quadratref01_goesUp.f mode sign (halfOf c) odd = some (away mode sign odd c) := by
  unfold quadratref01_goesUp.f away halfOf
  rcases (by omega : mode = 0 ∨ mode = 1 ∨ mode = 2 ∨ mode = 3) with rfl | rfl | rfl | rfl
  · rcases (by omega : c = 1 ∨ c = 2 ∨ c = 3) with rfl | rfl | rfl <;> simp
  · simp
  · have : 0 < c := by omega
    simp [this]; rfl
  · have : 0 < c := by omega
    simp [this]; rfl
theorem rj3 {kind bias T : Int} {p : Nat} (h : RK kind p bias T) (k : Nat) (hk : 500 ≤ k) (mode sign q fl : Int) (M c : Nat) (hm : 0 ≤ mode ∧ mode ≤ 3) (hs : sign = 0 ∨ sign = 1) (hq0 : 2 - bias - p ≤ q) (hq1 : q ≤ 80000) (hM : M < 2 ^ p) (hsm : M < 2 ^ (p - 1) → q = 2 - bias - p) (hc : 1 ≤ c) (hc3 : c ≤ 3) :
    quadratref01_Rounded.j3 (k + 3) kind mode sign p q fl (nat M) (halfOf c) = some (pk p T sign (fin2 p bias mode sign fl (if (if away mode sign (M % 2 == 1) c then M + 1 else M) = 2 ^ p then q + 1 else q) (if (if away mode sign (M % 2 == 1) c then M + 1 else M) = 2 ^ p then 2 ^ (p - 1) else (if away mode sign (M % 2 == 1) c then M + 1 else M)))) := by
  have hp1 := h.p1
  have hbl : blen M ≤ p := blen_le.2 hM
  simp only [quadratref01_Rounded.j3]
  have e0 := digit_nat M 0
  rw [show (0 : Int) = ((0 : Nat) : Int) from rfl, e0, bs]
  have e1 : ((((M / 2 ^ 0 % 2 : Nat) : Int)) == 1) = (M % 2 == 1) := by
    rcases Nat.mod_two_eq_zero_or_one M with h0 | h0 <;> simp [h0]
  rw [e1, up_away mode sign c _ hm hc hc3, bs]
  cases hA : away mode sign (M % 2 == 1) c with
  | true =>
    have b1 : blen 1 = 1 := blen_eq (k := 0) (by decide) (by decide)
    have e2 := plus_nat M 1 (k + 2) (by omega) (by omega)
    simp only [if_true]
    rw [one_nat (k + 2) (by omega), bs, e2, bs]
    exact rj4 h k (by omega) mode sign q fl _ hm hs hq0 hq1 (by omega) (fun h' => hsm (by omega))
  | false =>
    simp only [Bool.false_eq_true, if_false]
    exact rj4 h k (by omega) mode sign q fl _ hm hs hq0 hq1 (by omega) hsm
/-- The class of what is left behind d digits. -/
def clsd (r d : Nat) (more : Bool) : Nat := if d = 0 then (if more then 1 else 0) else cls r d more
theorem cls_le (r d : Nat) (more : Bool) : cls r d more ≤ 3 := by unfold cls; (repeat' split) <;> omega
theorem cls_half (r d : Nat) (more : Bool) (hne : r ≠ 0 ∨ more = true) : 1 ≤ cls r d more ∧ (if cmpn r (2 ^ (d - 1)) = 0 then (if more = true then 1 else cmpn r (2 ^ (d - 1))) else cmpn r (2 ^ (d - 1))) = halfOf (cls r d more) := by
  have hp := Nat.two_pow_pos (d - 1)
  unfold cls cmpn halfOf
  generalize 2 ^ (d - 1) = x at *
  by_cases h0 : r = 0
  · have hm : more = true := hne.resolve_left (by omega)
    simp [h0, hm, hp]
  · rcases Nat.lt_trichotomy r x with h | h | h
    · simp [h0, h]
    · subst h; cases more <;> simp [h0]
    · have h1 : ¬ r < x := by omega
      have h2 : ¬ r = x := by omega
      simp [h0, h1, h2]
theorem rj2 {kind bias T : Int} {p : Nat} (h : RK kind p bias T) (k : Nat) (hk : 100000 ≤ k) (mode sign q fl e : Int) (more : Bool) (M r d : Nat) (hm : 0 ≤ mode ∧ mode ≤ 3) (hs : sign = 0 ∨ sign = 1) (hq0 : 2 - bias - p ≤ q) (hq1 : q ≤ 80000) (hM : M < 2 ^ p) (hsm : M < 2 ^ (p - 1) → q = 2 - bias - p)
    (hd : q = e + d) (hd1 : d ≤ 30000) (hr : r < 2 ^ d) (hne : r ≠ 0 ∨ more = true) :
    1 ≤ clsd r d more ∧ clsd r d more ≤ 3 ∧ quadratref01_Rounded.j2 (k + 4) kind mode sign e more p q fl (nat M) (nat r) = quadratref01_Rounded.j3 (k + 3) kind mode sign p q fl (nat M) (halfOf (clsd r d more)) := by
  have hp0 := h.p0; have hp1 := h.p1; have hb0 := h.b0; have hb1 := h.b1
  have hbr : blen r ≤ d := blen_le.2 hr
  unfold clsd
  by_cases h0 : d = 0
  · rw [if_pos h0]
    have hr0 : r = 0 := by rw [h0] at hr; simp at hr; exact hr
    have hmt : more = true := hne.resolve_left (by omega)
    rw [hmt]
    refine ⟨by simp, by simp, ?_⟩
    simp only [quadratref01_Rounded.j2]
    rw [if_neg (by omega)]
    rfl
  · rw [if_neg h0]
    obtain ⟨hc1, hc2⟩ := cls_half r d more hne
    refine ⟨hc1, cls_le r d more, ?_⟩
    have b1 : blen 1 = 1 := blen_eq (k := 0) (by decide) (by decide)
    have b2 : blen (2 ^ (d - 1)) = d := by
      have := blen_mul_pow (n := 1) (by decide) (d - 1)
      rw [Nat.one_mul, b1] at this; omega
    have e1 : wrap64 (wrap64 (q - e) - 1) = ((d - 1 : Nat) : Int) := by rw [w64_id (n := q - e) (by omega) (by omega), w64_id (by omega) (by omega)]; omega
    have e2 := up_nat 1 (d - 1) (by omega)
    rw [Nat.one_mul] at e2
    have e3 := cmp_nat r (2 ^ (d - 1)) (k + 3) (by omega) (by omega) (by omega)
    simp only [quadratref01_Rounded.j2]
    rw [if_pos (by omega), one_nat (k + 3) (by omega), bs, e1, e2, bs, e3, bs, ← hc2]
    split
    · split <;> rfl
    · rfl
theorem fin_fin2 (p : Nat) (bias mode sign : Int) (tiny : Bool) (q : Int) (M c : Nat) : fin p bias mode sign tiny q M c = fin2 p bias mode sign (if 0 < c then (if tiny then 24 else 16) else 0)
    (if (if away mode sign (M % 2 == 1) c then M + 1 else M) = 2 ^ p then q + 1 else q) (if (if away mode sign (M % 2 == 1) c then M + 1 else M) = 2 ^ p then 2 ^ (p - 1) else (if away mode sign (M % 2 == 1) c then M + 1 else M)) := rfl
theorem away_zero (mode sign : Int) (odd : Bool) : away mode sign odd 0 = false := by unfold away; (repeat' split) <;> simp
theorem rj0 {kind bias T : Int} {p : Nat} (h : RK kind p bias T) (k : Nat) (hk : 100000 ≤ k) (mode sign q e : Int) (more : Bool) (n d : Nat) (hm : 0 ≤ mode ∧ mode ≤ 3) (hs : sign = 0 ∨ sign = 1) (hq0 : 2 - bias - p ≤ q) (hq1 : q ≤ 80000) (hM : n / 2 ^ d < 2 ^ p) (hsm : n / 2 ^ d < 2 ^ (p - 1) → q = 2 - bias - p)
    (hd : q = e + d) (hd1 : d ≤ 30000) (hn : blen n ≤ 30000) :
    quadratref01_Rounded.j0 (k + 6) kind mode sign (nat n) e more p q 0 = some (pk p T sign (fin p bias mode sign (decide (e + blen n ≤ 1 - bias)) q (n / 2 ^ d) (clsd (n % 2 ^ d) d more))) := by
  have hp0 := h.p0; have hp1 := h.p1; have hb0 := h.b0; have hb1 := h.b1
  have e1 : wrap64 (q - e) = (d : Int) := by rw [w64_id (by omega) (by omega)]; omega
  have e2 := down_nat n d (by omega)
  have b1 : blen (n / 2 ^ d) ≤ blen n := by rw [blen_div_pow]; omega
  have e3 := up_nat (n / 2 ^ d) d (by omega)
  have hle : n / 2 ^ d * 2 ^ d ≤ n := Nat.div_mul_le_self n (2 ^ d)
  have e4 := minus_nat n (n / 2 ^ d * 2 ^ d) (k + 5) hle (by omega) (by omega)
  have hmod : n - n / 2 ^ d * 2 ^ d = n % 2 ^ d := by
    have := Nat.div_add_mod n (2 ^ d)
    rw [Nat.mul_comm] at this; omega
  have hr := Nat.mod_lt n (Nat.two_pow_pos d)
  simp only [quadratref01_Rounded.j0, e1]
  rw [e2, bs, e3, bs, e4, bs, hmod, length_nat, fin_fin2]
  generalize n % 2 ^ d = r at *
  generalize n / 2 ^ d = M at *
  have hgo : r ≠ 0 ∨ more = true → quadratref01_Rounded.j1 (k + 5) kind mode sign (nat n) e more p q 0 (nat M) (nat r) false = some (pk p T sign (fin2 p bias mode sign (if 0 < clsd r d more then (if (decide (e + blen n ≤ 1 - bias)) = true then 24 else 16) else 0)
    (if (if away mode sign (M % 2 == 1) (clsd r d more) then M + 1 else M) = 2 ^ p then q + 1 else q) (if (if away mode sign (M % 2 == 1) (clsd r d more) then M + 1 else M) = 2 ^ p then 2 ^ (p - 1) else (if away mode sign (M % 2 == 1) (clsd r d more) then M + 1 else M)))) := by
    intro hne
    have h2 := fun fl => rj2 h k hk mode sign q fl e more M r d hm hs hq0 hq1 hM hsm hd hd1 hr hne
    have hc1 := (h2 0).1
    have hc3 := (h2 0).2.1
    have h3 := fun fl => rj3 h k (by omega) mode sign q fl M (clsd r d more) hm hs hq0 hq1 hM hsm hc1 hc3
    simp only [quadratref01_Rounded.j1, Bool.false_eq_true, if_false]
    rw [h.bia, bs, length_nat, w64_id (n := (blen n : Int) + e) (by omega) (by omega), w64_id (n := 1 - bias) (by omega) (by omega), if_pos (show 0 < clsd r d more by omega)]
    by_cases ht : e + blen n ≤ 1 - bias
    · rw [if_pos (by omega), decide_eq_true ht, if_pos rfl, show (16 : Int) + 8 = 24 from rfl, (h2 24).2.2, h3]
    · rw [if_neg (by omega), decide_eq_false ht, if_neg (by simp), (h2 16).2.2, h3]
  have b0 : blen r = 0 ↔ r = 0 := by
    constructor
    · intro hh; apply Classical.byContradiction; intro hc; have := blen_pos hc; omega
    · rintro rfl; rfl
  by_cases h0 : r = 0
  · rw [if_pos (by omega)]
    cases more with
    | true => exact hgo (.inr rfl)
    | false =>
      have hc : clsd r d false = 0 := by unfold clsd cls; simp [h0]
      simp only [Bool.not_false, quadratref01_Rounded.j1, if_true]
      rw [hc, away_zero]
      simp only [Bool.false_eq_true, if_false, Nat.lt_irrefl]
      exact rj4 h (k + 2) (by omega) mode sign q 0 M hm hs hq0 hq1 (by omega) hsm
  · rw [if_neg (by omega)]
    exact hgo (.inl h0)
end Go.Proofs.YtgpnmifejgdipaaDoor.Pf
