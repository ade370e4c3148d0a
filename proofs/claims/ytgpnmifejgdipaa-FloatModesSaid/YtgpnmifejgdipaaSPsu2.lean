/-
  FloatSums: the program's sum of two finite floats. By the session's own hand.
-/
import Derived.Test.YtgpnmifejgdipaaSPsum
import Derived.Test.YtgpnmifejgdipaaDf
set_option linter.unusedVariables false
set_option linter.unusedSimpArgs false
set_option linter.unusedVariables false
namespace Go.Proofs.Ytgpnmifejgdipaa.Pf
open Go.RowKit Go.Proofs.Ytgpnmifejgdipaa.My Go.Proofs.Ytgpnmifejgdipaa.RM Go.Proofs.YtgpnmifejgdipaaW.PrintWords Go.Proofs.YtgpnmifejgdipaaW.PrintLast Go.Proofs.YtgpnmifejgdipaaW.PrintMore

theorem shl_u64 (x n : Nat) (hn : n ≤ 63) : shl .u64 (x : Int) (n : Int) = ((x * 2 ^ n % 18446744073709551616 : Nat) : Int) := by
  have e : min ((n : Int)).toNat IntKind.u64.bits = n := by show min n 64 = n; omega
  unfold shl
  rw [e, wrap_u64]
  have : (x : Int) * 2 ^ n = ((x * 2 ^ n : Nat) : Int) := by rw [Int.natCast_mul, Int.natCast_pow]; rfl
  rw [this]; omega
theorem shr_u64 (x n : Nat) (hn : n ≤ 64) : shr .u64 (x : Int) (n : Int) = ((x / 2 ^ n : Nat) : Int) := by
  have e : min ((n : Int)).toNat IntKind.u64.bits = n := by show min n 64 = n; omega
  unfold shr
  rw [e]
  have : ((2 : Int) ^ n) = ((2 ^ n : Nat) : Int) := by rw [Int.natCast_pow]; rfl
  rw [this]; norm_cast
theorem left_eq (m ap : Nat) (hm : m < 2 ^ 53) (ha : ap ≤ 70) : ∃ hi lo : Nat, float_left.f (m : Int) (ap : Int) = some ((hi : Int), (lo : Int)) ∧ hi * 18446744073709551616 + lo = m * 2 ^ ap ∧ hi < 2 ^ 62 ∧ lo < 18446744073709551616 := by
  unfold float_left.f
  by_cases h : 64 ≤ ap
  · have e1 : wrap64 ((ap : Int) - 64) = ((ap - 64 : Nat) : Int) := by rw [w64_id (by omega) (by omega)]; omega
    rw [if_pos (by omega), e1, if_pos (by omega), shl_u64 m (ap - 64) (by omega)]
    have hs : 2 ^ (ap - 64) ≤ 2 ^ 6 := Nat.pow_le_pow_right (by omega) (by omega)
    have hlt : m * 2 ^ (ap - 64) < 2 ^ 62 := Nat.lt_of_le_of_lt (Nat.mul_le_mul_left _ hs) (by omega)
    rw [Nat.mod_eq_of_lt (by omega)]
    refine ⟨m * 2 ^ (ap - 64), 0, rfl, ?_, hlt, by omega⟩
    rw [Nat.add_zero, Nat.mul_assoc, show (18446744073709551616 : Nat) = 2 ^ 64 from rfl, ← Nat.pow_add]
    congr 2; omega
  · have e1 : wrap64 (64 - (ap : Int)) = ((64 - ap : Nat) : Int) := by rw [w64_id (by omega) (by omega)]; omega
    rw [if_neg (by omega), e1, if_pos (by omega), if_pos (by omega), shl_u64 m ap (by omega), shr_u64 m (64 - ap) (by omega)]
    refine ⟨m / 2 ^ (64 - ap), m * 2 ^ ap % 18446744073709551616, rfl, ?_, Nat.lt_of_le_of_lt (Nat.div_le_self _ _) (by omega), Nat.mod_lt _ (by decide)⟩
    have e2 : m * 2 ^ ap / 18446744073709551616 = m / 2 ^ (64 - ap) := by
      have : (18446744073709551616 : Nat) = 2 ^ (64 - ap) * 2 ^ ap := by rw [← Nat.pow_add, show 64 - ap + ap = 64 by omega]
      rw [this, Nat.mul_div_mul_right _ _ (Nat.two_pow_pos ap)]
    rw [← e2]
    have := Nat.div_add_mod (m * 2 ^ ap) 18446744073709551616
    omega
theorem m64 : Extern.MathBitsCarry.m64 = 18446744073709551616 := rfl
theorem addS_n (x y : Nat) : addS (x : Int) (y : Int) 0 = (((x + y) % 18446744073709551616 : Nat) : Int) := by unfold addS; rw [m64]; simp
theorem addC_n (x y : Nat) : addC (x : Int) (y : Int) 0 = (((x + y) / 18446744073709551616 : Nat) : Int) := by unfold addC; rw [m64]; simp
theorem subS_n (x y c : Nat) : subS (x : Int) (y : Int) (c : Int) = (((x + 18446744073709551616 - y - c) % 18446744073709551616 : Nat) : Int) := by unfold subS; rw [m64]; simp
theorem subB_n (x y c : Nat) : subB (x : Int) (y : Int) (c : Int) = ((if x < y + c then 1 else 0 : Nat) : Int) := by unfold subB; simp

theorem psum_j4 {w bias T : Int} {p : Nat} (h : PK p w bias T) (k : Nat) (hk : 40200 ≤ k) (mode sg e : Int) (more : Bool) (hi lo : Nat) (hm : 0 ≤ mode ∧ mode ≤ 3) (hs : sg = 0 ∨ sg = 1) (h1 : hi < 18446744073709551616) (h0 : lo < 18446744073709551616) (he0 : -8000 ≤ e) (he1 : e ≤ 8000)
    (u1 u2 : Int) (hmore : more = true → hi * 18446744073709551616 + lo ≠ 0 → e < quant p (2 - bias - p) (hi * 18446744073709551616 + lo) e) :
    float_shape_sum.j3 k mode (lo : Int) (hi : Int) sg (p : Int) w u1 u2 e more = some (if hi * 18446744073709551616 + lo = 0 then (wrap64 ((if mode = 2 then 1 else 0) * T), 0) else pk p T sg (R p bias mode sg (hi * 18446744073709551616 + lo) e more)) := by
  obtain ⟨k, rfl⟩ : ∃ m, k = m + 2 := ⟨k - 2, by omega⟩
  simp only [float_shape_sum.j3]
  by_cases hz : hi * 18446744073709551616 + lo = 0
  · have a1 : hi = 0 := by omega
    have a2 : lo = 0 := by omega
    subst a1; subst a2
    rw [if_pos rfl, if_pos (by omega)]
    simp only [float_shape_sum.j4]
    rw [if_pos (by rfl), h.non mode, bs]
  · have hr := round_eq h k (by omega) mode sg e more _ hi lo hm hs hz rfl h1 h0 he0 he1 (fun hh => hmore hh hz)
    rw [if_neg hz]
    by_cases hh : (hi : Int) = 0
    · rw [if_pos hh]
      simp only [float_shape_sum.j4]
      rw [if_neg (by simp; omega), hr, bs]
    · rw [if_neg hh]
      simp only [float_shape_sum.j4]
      rw [if_neg (by simp), hr, bs]
/-- the difference of two words and a little one -/
theorem psum_j2 {w bias T : Int} {p : Nat} (h : PK p w bias T) (k : Nat) (hk : 40300 ≤ k) (mode s t e : Int) (more : Bool) (hi lo b : Nat) (hm : 0 ≤ mode ∧ mode ≤ 3) (hs : s = 0 ∨ s = 1) (ht : t = 0 ∨ t = 1) (h1 : hi < 2 ^ 62) (h0 : lo < 18446744073709551616) (hb : b < 18446744073709551616) (he0 : -8000 ≤ e) (he1 : e ≤ 8000)
    (v1 v2 v3 v4 v5 v6 : Int) (hmore : more = true → b < hi * 18446744073709551616 + lo ∧ e < quant p (2 - bias - p) (hi * 18446744073709551616 + lo - b) e) :
    float_shape_sum.j2 k mode (b : Int) (p : Int) w v1 s v2 v3 v4 t v5 v6 (hi : Int) (lo : Int) e more =
      some (if hi * 18446744073709551616 + lo = b then (wrap64 ((if mode = 2 then 1 else 0) * T), 0) else if b ≤ hi * 18446744073709551616 + lo then pk p T s (R p bias mode s (hi * 18446744073709551616 + lo - b) e more) else pk p T t (R p bias mode t (b - (hi * 18446744073709551616 + lo)) e more)) := by
  obtain ⟨k, rfl⟩ : ∃ m, k = m + 1 := ⟨k - 1, by omega⟩
  simp only [float_shape_sum.j2]
  have z : (0 : Int) = ((0 : Nat) : Int) := rfl
  have eb : subB (lo : Int) (b : Int) 0 = ((if lo < b then 1 else 0 : Nat) : Int) := by rw [z, subB_n]; rfl
  have es : subS (lo : Int) (b : Int) 0 = (((lo + 18446744073709551616 - b) % 18446744073709551616 : Nat) : Int) := by rw [z, subS_n]; rfl
  rw [eb, es]
  rw [if_pos (by split <;> omega), if_pos (by split <;> omega)]
  have eb2 : subB (hi : Int) 0 ((if lo < b then 1 else 0 : Nat) : Int) = ((if hi < (if lo < b then 1 else 0) then 1 else 0 : Nat) : Int) := by rw [z, subB_n]; simp
  have es2 : subS (hi : Int) 0 ((if lo < b then 1 else 0 : Nat) : Int) = (((hi + 18446744073709551616 - (if lo < b then 1 else 0)) % 18446744073709551616 : Nat) : Int) := by rw [z, subS_n]; simp
  rw [eb2, es2]
  by_cases c : lo < b
  · rw [if_pos c]
    by_cases d : hi = 0
    · subst d
      have g1 : b ≠ 0 ∧ (lo + 18446744073709551616 - b) % 18446744073709551616 = lo + 18446744073709551616 - b := by omega
      have eb3 : subB 0 (((lo + 18446744073709551616 - b) % 18446744073709551616 : Nat) : Int) 0 = 1 := by rw [z, subB_n, g1.2, if_pos (by omega)]; rfl
      have es3 : subS 0 (((lo + 18446744073709551616 - b) % 18446744073709551616 : Nat) : Int) 0 = ((b - lo : Nat) : Int) := by rw [z, subS_n, g1.2]; omega
      have es4 : subS 0 (((0 + 18446744073709551616 - 1) % 18446744073709551616 : Nat) : Int) 1 = ((0 : Nat) : Int) := by
        rw [show (1 : Int) = ((1 : Nat) : Int) from rfl, z, subS_n]
      rw [if_pos (by simp), eb3, es3, es4, if_pos (by omega), if_pos (by omega)]
      have hmr : more = false := by
        cases more with
        | false => rfl
        | true => have := (hmore rfl).1; omega
      subst hmr
      rw [psum_j4 h k (by omega) mode t e false 0 (b - lo) hm ht (by omega) (by omega) he0 he1 _ _ (by simp)]
      rw [if_neg (by omega), if_neg (by omega), if_neg (by omega)]
      rw [show 0 * 18446744073709551616 + (b - lo) = b - (0 * 18446744073709551616 + lo) by omega]
    · rw [if_neg (by rw [if_neg (by omega)]; decide)]
      rw [psum_j4 h k (by omega) mode s e more ((hi + 18446744073709551616 - 1) % 18446744073709551616) ((lo + 18446744073709551616 - b) % 18446744073709551616) hm hs (by omega) (by omega) he0 he1 _ _ (by
        intro hh _
        have := (hmore hh).2
        rw [show (hi + 18446744073709551616 - 1) % 18446744073709551616 * 18446744073709551616 + (lo + 18446744073709551616 - b) % 18446744073709551616 = hi * 18446744073709551616 + lo - b by omega]
        exact this)]
      rw [show (hi + 18446744073709551616 - 1) % 18446744073709551616 * 18446744073709551616 + (lo + 18446744073709551616 - b) % 18446744073709551616 = hi * 18446744073709551616 + lo - b by omega]
      by_cases q : hi * 18446744073709551616 + lo = b
      · rw [if_pos (by omega), if_pos q]
      · rw [if_neg (by omega), if_neg q, if_pos (by omega)]
  · rw [if_neg c]
    rw [if_neg (by rw [if_neg (by omega)]; decide)]
    rw [psum_j4 h k (by omega) mode s e more ((hi + 18446744073709551616 - 0) % 18446744073709551616) ((lo + 18446744073709551616 - b) % 18446744073709551616) hm hs (by omega) (by omega) he0 he1 _ _ (by
      intro hh _
      have := (hmore hh).2
      rw [show (hi + 18446744073709551616 - 0) % 18446744073709551616 * 18446744073709551616 + (lo + 18446744073709551616 - b) % 18446744073709551616 = hi * 18446744073709551616 + lo - b by omega]
      exact this)]
    rw [show (hi + 18446744073709551616 - 0) % 18446744073709551616 * 18446744073709551616 + (lo + 18446744073709551616 - b) % 18446744073709551616 = hi * 18446744073709551616 + lo - b by omega]
    by_cases q : hi * 18446744073709551616 + lo = b
    · rw [if_pos (by omega), if_pos q]
    · rw [if_neg (by omega), if_neg q, if_pos (by omega)]
/-- the sum of two finite floats of which the first has the greater exponent -/
theorem psum_eq {w bias T : Int} {p : Nat} (h : PK p w bias T) (k : Nat) (hk : 40400 ≤ k) (mode s t e f : Int) (c1 c2 : Int) (m n : Nat) (hm : 0 ≤ mode ∧ mode ≤ 3) (hs : s = 0 ∨ s = 1) (ht : t = 0 ∨ t = 1) (hm1 : m < 2 ^ p) (hn1 : n < 2 ^ p) (hn0 : n ≠ 0)
    (hef : f ≤ e) (he0 : -1100 ≤ f) (he1 : e ≤ 1100) (hl : e ≠ 2 - bias - p → 2 ^ (p - 1) ≤ m) (hf : 2 - bias - p ≤ f) :
    float_shape_sum.f k (p : Int) w mode c1 s (m : Int) e c2 t (n : Int) f = some (addv p bias T mode s t (m * 2 ^ (e - f).toNat) n f) := by
  have hp0 := h.p0; have hp1 := h.p1
  obtain ⟨k, rfl⟩ : ∃ m, k = m + 2 := ⟨k - 2, by omega⟩
  have p53 : 2 ^ p ≤ 2 ^ 53 := Nat.pow_le_pow_right (by omega) hp1
  have w1 : wrap64 (e - f) = ((e - f).toNat : Int) := by rw [w64_id (by omega) (by omega)]; omega
  unfold float_shape_sum.f
  rw [w1]
  generalize hap : (e - f).toNat = ap
  have z : (0 : Int) = ((0 : Nat) : Int) := rfl
  by_cases far : 70 < ap
  · rw [if_pos (by omega), decide_eq_true (by omega)]
    have hmn := hl (by omega)
    obtain ⟨hi, lo, e1, e2, e3, e4⟩ := left_eq m 70 (by omega) (by omega)
    simp only [float_shape_sum.j0]
    rw [show (70 : Int) = ((70 : Nat) : Int) from rfl, e1, bs, if_pos trivial]
    have w2 : wrap64 (e - ((70 : Nat) : Int)) = e - 70 := by rw [w64_id (by omega) (by omega)]; rfl
    rw [w2]
    have b2 : 2 ^ (p - 1 + 70) ≤ m * 2 ^ 70 := by rw [Nat.pow_add]; exact Nat.mul_le_mul_right _ hmn
    have hbig : 2 ^ 80 ≤ m * 2 ^ 70 := Nat.le_trans (Nat.pow_le_pow_right (by omega) (by omega)) b2
    simp only [float_shape_sum.j1]
    unfold addv
    by_cases hst : s = t
    · rw [if_pos hst, if_pos hst, show addS (lo : Int) 0 0 = _ from addS_n lo 0, show addC (lo : Int) 0 0 = _ from addC_n lo 0, if_neg (by omega)]
      have q1 := quant_ge p (2 - bias - p) _ (e - 70) _ b2
      have hr := round_eq h k (by omega) mode s (e - 70) true (m * 2 ^ 70) hi lo hm hs (by omega) e2.symm (by omega) e4 (by omega) (by omega) (fun _ => by omega)
      have a1 : IntKind.u64.wrap ((hi : Int) + (((lo + 0) / 18446744073709551616 : Nat) : Int)) = (hi : Int) := by rw [wrap_u64]; omega
      have a2 : (((lo + 0) % 18446744073709551616 : Nat) : Int) = (lo : Int) := by omega
      rw [a1, a2, hr, bs]
      rw [R_far_add p bias mode s m n ap f hp0 hp1 hmn hn0 (by omega) far]
      rw [show f + (ap : Int) - 70 = e - 70 by omega]
    · rw [if_neg hst, if_neg hst, if_pos trivial]
      have b3 : 2 ^ (p - 2 + 70) ≤ m * 2 ^ 70 - 1 := by
        have h2 : 2 ^ (p - 1 + 70) = 2 * 2 ^ (p - 2 + 70) := by rw [← Nat.pow_succ']; congr 1; omega
        have h3 : 1 ≤ 2 ^ (p - 2 + 70) := Nat.one_le_two_pow
        omega
      have q1 := quant_ge p (2 - bias - p) _ (e - 70) _ b3
      rw [show (1 : Int) = ((1 : Nat) : Int) from rfl, psum_j2 h k (by omega) mode s t (e - 70) true hi lo 1 hm hs ht e3 e4 (by omega) (by omega) (by omega) _ _ _ _ _ _ (fun _ => ⟨by omega, by rw [e2]; omega⟩)]
      rw [e2, if_neg (by omega), if_pos (by omega)]
      have hN : 2 ^ 53 ≤ m * 2 ^ ap := by
        have : 2 ^ (p - 1 + ap) ≤ m * 2 ^ ap := by rw [Nat.pow_add]; exact Nat.mul_le_mul_right _ hmn
        exact Nat.le_trans (Nat.pow_le_pow_right (by omega) (by omega)) this
      rw [if_neg (by omega), if_pos (by omega), R_far_sub p bias mode s m n ap f hp0 hp1 hmn hn0 (by omega) far]
      rw [show f + (ap : Int) - 70 = e - 70 by omega]
  · rw [if_neg (by omega), decide_eq_false (by omega)]
    obtain ⟨hi, lo, e1, e2, e3, e4⟩ := left_eq m ap (by omega) (by omega)
    simp only [float_shape_sum.j0]
    rw [e1, bs, if_neg (by simp)]
    have w2 : wrap64 (e - (ap : Int)) = f := by rw [w64_id (by omega) (by omega)]; omega
    rw [w2]
    simp only [float_shape_sum.j1]
    unfold addv
    by_cases hst : s = t
    · rw [if_pos hst, if_pos hst, addS_n, addC_n, if_neg (by omega)]
      have hr := round_eq h k (by omega) mode s f false (m * 2 ^ ap + n) (hi + (lo + n) / 18446744073709551616) ((lo + n) % 18446744073709551616) hm hs (by omega) (by omega) (by omega) (by omega) (by omega) (by omega) (by simp)
      have a1 : IntKind.u64.wrap ((hi : Int) + (((lo + n) / 18446744073709551616 : Nat) : Int)) = ((hi + (lo + n) / 18446744073709551616 : Nat) : Int) := by rw [wrap_u64]; omega
      rw [a1, hr, bs]
    · rw [if_neg hst, if_neg hst, if_neg (by simp)]
      rw [psum_j2 h k (by omega) mode s t f false hi lo n hm hs ht e3 e4 (by omega) (by omega) (by omega) _ _ _ _ _ _ (by simp), e2]
end Go.Proofs.Ytgpnmifejgdipaa.Pf
