/-
  Div64: the quotient and the rest of two words by one. By the session's own hand.
-/
import Derived.Test.YtgpnmifejgdipaaSPsu2
import Derived.Test.YtgpnmifejgdipaaDf
set_option linter.unusedVariables false
set_option linter.unusedSimpArgs false
namespace Go.Proofs.Ytgpnmifejgdipaa.Pf
open Go.RowKit Go.Proofs.Ytgpnmifejgdipaa.My Go.Proofs.Ytgpnmifejgdipaa.RM Go.Proofs.YtgpnmifejgdipaaW.PrintWords Go.Proofs.YtgpnmifejgdipaaW.PrintLast Go.Proofs.YtgpnmifejgdipaaW.PrintMore

theorem u64w (n : Nat) (h : n < 18446744073709551616) : IntKind.u64.wrap (n : Int) = (n : Int) := by rw [wrap_u64]; omega
/-- A guess fits exactly if its low part does. -/
theorem guess_le {y v1 v0 u d q1 rh : Nat} (hy : y = v1 * 4294967296 + v0) (hu : u = q1 * v1 + rh) : q1 * y ≤ u * 4294967296 + d ↔ q1 * v0 ≤ 4294967296 * rh + d := by
  have e1 : q1 * y = q1 * v1 * 4294967296 + q1 * v0 := by rw [hy, Nat.mul_add, ← Nat.mul_assoc]
  have e2 : u * 4294967296 = q1 * v1 * 4294967296 + 4294967296 * rh := by rw [hu, Nat.add_mul, Nat.mul_comm rh]
  rw [e1, e2]; omega
structure Dgt (y v1 v0 u d q : Nat) : Prop where
  hy : y = v1 * 4294967296 + v0
  h0 : v0 < 4294967296
  h1 : 2147483648 ≤ v1
  h1' : v1 < 4294967296
  hu : u < y
  hd : d < 4294967296
  hq : q = (u * 4294967296 + d) / y
theorem Dgt.lt {y v1 v0 u d q : Nat} (D : Dgt y v1 v0 u d q) : q < 4294967296 := by
  have := D.hu; have := D.hd
  rw [D.hq, Nat.div_lt_iff_lt_mul (by have := D.hy; have := D.h1; omega)]
  have : (u + 1) * 4294967296 ≤ y * 4294967296 := Nat.mul_le_mul_right _ D.hu
  omega
theorem Dgt.le {y v1 v0 u d q : Nat} (D : Dgt y v1 v0 u d q) (x : Nat) : x ≤ q ↔ x * y ≤ u * 4294967296 + d := by
  rw [D.hq, Nat.le_div_iff_mul_le (by have := D.hy; have := D.h1; omega)]
/-- One round of the guess: it's right, or one less is nearer. -/
theorem Dgt.round {y v1 v0 u d q : Nat} (D : Dgt y v1 v0 u d q) {q1 rh : Nat} (hu : u = q1 * v1 + rh) (hr : rh < 4294967296) (hl : q ≤ q1) (hm : q1 ≤ 4294967297) :
    q1 * v0 < 18446744073709551616 ∧ 4294967296 * rh + d < 18446744073709551616 ∧
    (¬ (4294967296 ≤ q1 ∨ 4294967296 * rh + d < q1 * v0) → q1 = q) ∧
    (4294967296 ≤ q1 ∨ 4294967296 * rh + d < q1 * v0 → q ≤ q1 - 1 ∧ 1 ≤ q1 ∧ u = (q1 - 1) * v1 + (rh + v1) ∧ (4294967296 ≤ rh + v1 → q1 - 1 = q)) := by
  have h0 := D.h0; have h1 := D.h1; have h1' := D.h1'; have hd := D.hd; have hlt := D.lt
  have m1 : q1 * v0 ≤ 4294967297 * 4294967295 := Nat.mul_le_mul hm (by omega)
  refine ⟨by omega, by omega, fun c => ?_, fun c => ?_⟩
  · have : q1 ≤ q := (D.le q1).2 ((guess_le D.hy hu).2 (by omega))
    omega
  · have hlt : q < q1 := by
      rcases c with c | c
      · omega
      · have : ¬ q1 ≤ q := fun h => by have := (guess_le D.hy hu).1 ((D.le q1).1 h); omega
        omega
    have e : u = (q1 - 1) * v1 + (rh + v1) := by
      have : q1 * v1 = (q1 - 1) * v1 + v1 := by rw [← Nat.succ_mul]; congr 1; omega
      omega
    refine ⟨by omega, by omega, e, fun g => ?_⟩
    have m2 : (q1 - 1) * v0 ≤ 4294967296 * 4294967295 := Nat.mul_le_mul (by omega) (by omega)
    have : q1 - 1 ≤ q := (D.le _).2 ((guess_le D.hy e).2 (by omega))
    omega
theorem knuth_l0 {y v1 v0 u d q : Nat} (D : Dgt y v1 v0 u d q) (s u0 : Int) : ∀ (j q1 rh k : Nat), u = q1 * v1 + rh → rh < 4294967296 → q ≤ q1 → q1 ≤ 4294967297 → 4294967296 ≤ rh + j * 2147483648 → 2 * j + 2 ≤ k →
    ∃ k', k ≤ k' + 2 * j + 2 ∧ bits_Div64.l0 k y s v1 v0 u d u0 q1 rh = bits_Div64.j2 k' y s v1 v0 u d u0 q := by
  intro j
  induction j with
  | zero => intro q1 rh k _ h _ _ h2; omega
  | succ j ih =>
    intro q1 rh k hu hr hl hm hj hk
    obtain ⟨k, rfl⟩ : ∃ m, k = m + 2 := ⟨k - 2, by omega⟩
    obtain ⟨a1, a2, a3, a4⟩ := D.round hu hr hl hm
    have h1 := D.h1; have h1' := D.h1'; have h0 := D.h0; have hd := D.hd
    have w1 : IntKind.u64.wrap ((q1 : Int) * v0) = ((q1 * v0 : Nat) : Int) := by rw [← Int.natCast_mul]; exact u64w _ a1
    have w2 : IntKind.u64.wrap (4294967296 * (rh : Int)) = ((4294967296 * rh : Nat) : Int) := by rw [show (4294967296 * (rh : Int)) = ((4294967296 * rh : Nat) : Int) by omega]; exact u64w _ (by omega)
    have w3 : IntKind.u64.wrap (((4294967296 * rh : Nat) : Int) + d) = ((4294967296 * rh + d : Nat) : Int) := by rw [← Int.natCast_add]; exact u64w _ a2
    have w4 : IntKind.u64.wrap ((rh : Int) + v1) = ((rh + v1 : Nat) : Int) := by rw [← Int.natCast_add]; exact u64w _ (by omega)
    simp only [bits_Div64.l0, bits_Div64.j1, w1, w2, w3, w4]
    by_cases c : 4294967296 ≤ q1 ∨ 4294967296 * rh + d < q1 * v0
    · obtain ⟨b1, b2, b3, b4⟩ := a4 c
      have w5 : IntKind.u64.wrap ((q1 : Int) - 1) = ((q1 - 1 : Nat) : Int) := by rw [show (q1 : Int) - 1 = ((q1 - 1 : Nat) : Int) by omega]; exact u64w _ (by omega)
      rw [w5]
      have key : ∃ k', k + 2 ≤ k' + 2 * (j + 1) + 2 ∧ (if ((rh + v1 : Nat) : Int) ≥ 4294967296 then bits_Div64.j2 k y s v1 v0 u d u0 ((q1 - 1 : Nat) : Int) else bits_Div64.l0 k y s v1 v0 u d u0 ((q1 - 1 : Nat) : Int) ((rh + v1 : Nat) : Int)) = bits_Div64.j2 k' y s v1 v0 u d u0 q := by
        by_cases g : 4294967296 ≤ rh + v1
        · refine ⟨k, by omega, ?_⟩
          rw [if_pos (by omega), b4 g]
        · rw [if_neg (by omega)]
          obtain ⟨k', e1, e2⟩ := ih (q1 - 1) (rh + v1) k b3 (by omega) b1 (by omega) (by omega) (by omega)
          exact ⟨k', by omega, e2⟩
      by_cases c1 : 4294967296 ≤ q1
      · rw [if_pos (by omega)]; simpa using key
      · rw [if_neg (by omega), if_pos (by simp; omega)]; exact key
    · rw [if_neg (by omega), if_neg (by simp; omega)]
      exact ⟨k, by omega, by rw [a3 c]⟩
/-- What's left behind a digit. -/
theorem Dgt.rest {y v1 v0 u d q : Nat} (D : Dgt y v1 v0 u d q) (hy : y < 18446744073709551616) : IntKind.u64.wrap (IntKind.u64.wrap (IntKind.u64.wrap ((u : Int) * 4294967296) + d) - IntKind.u64.wrap ((q : Int) * y)) = (((u * 4294967296 + d) % y : Nat) : Int) := by
  have e := Nat.div_add_mod (u * 4294967296 + d) y
  have l := Nat.mod_lt (u * 4294967296 + d) (show 0 < y by have := D.hu; omega)
  rw [← D.hq] at e
  have e1 : (u : Int) * 4294967296 = ((u * 4294967296 : Nat) : Int) := by omega
  have e2 : (q : Int) * y = ((y * q : Nat) : Int) := by push_cast; rw [Int.mul_comm]
  rw [e1, e2]
  simp only [wrap_u64]
  generalize (u * 4294967296 + d) % y = r at *
  generalize y * q = Y at *
  generalize u * 4294967296 = U at *
  omega
theorem knuth_l1 {y v1 v0 u d q : Nat} (D : Dgt y v1 v0 u d q) (hyw : y < 18446744073709551616) (q9 : Int) : ∀ (j q1 rh k : Nat), u = q1 * v1 + rh → rh < 4294967296 → q ≤ q1 → q1 ≤ 4294967297 → 4294967296 ≤ rh + j * 2147483648 → 2 * j + 2 ≤ k →
    bits_Div64.l1 k y 0 v1 v0 d q9 rh u q1 = some (IntKind.u64.wrap (IntKind.u64.wrap (q9 * 4294967296) + q), (((u * 4294967296 + d) % y : Nat) : Int)) := by
  intro j
  have fin : ∀ r : Nat, r < 18446744073709551616 → shr .u64 (r : Int) 0 = (r : Int) := fun r hr => by
    have := shr_u64 r 0 (by omega)
    rw [Nat.pow_zero, Nat.div_one] at this; exact this
  have rl : (u * 4294967296 + d) % y < 18446744073709551616 := Nat.lt_trans (Nat.mod_lt _ (show 0 < y by have := D.hu; omega)) hyw
  induction j with
  | zero => intro q1 rh k _ h _ _ h2; omega
  | succ j ih =>
    intro q1 rh k hu hr hl hm hj hk
    obtain ⟨k, rfl⟩ : ∃ m, k = m + 2 := ⟨k - 2, by omega⟩
    obtain ⟨a1, a2, a3, a4⟩ := D.round hu hr hl hm
    have h1 := D.h1; have h1' := D.h1'; have h0 := D.h0; have hd := D.hd
    have w1 : IntKind.u64.wrap ((q1 : Int) * v0) = ((q1 * v0 : Nat) : Int) := by rw [← Int.natCast_mul]; exact u64w _ a1
    have w2 : IntKind.u64.wrap (4294967296 * (rh : Int)) = ((4294967296 * rh : Nat) : Int) := by rw [show (4294967296 * (rh : Int)) = ((4294967296 * rh : Nat) : Int) by omega]; exact u64w _ (by omega)
    have w3 : IntKind.u64.wrap (((4294967296 * rh : Nat) : Int) + d) = ((4294967296 * rh + d : Nat) : Int) := by rw [← Int.natCast_add]; exact u64w _ a2
    have w4 : IntKind.u64.wrap ((rh : Int) + v1) = ((rh + v1 : Nat) : Int) := by rw [← Int.natCast_add]; exact u64w _ (by omega)
    simp only [bits_Div64.l1, bits_Div64.j4, w1, w2, w3, w4]
    by_cases c : 4294967296 ≤ q1 ∨ 4294967296 * rh + d < q1 * v0
    · obtain ⟨b1, b2, b3, b4⟩ := a4 c
      have w5 : IntKind.u64.wrap ((q1 : Int) - 1) = ((q1 - 1 : Nat) : Int) := by rw [show (q1 : Int) - 1 = ((q1 - 1 : Nat) : Int) by omega]; exact u64w _ (by omega)
      rw [w5]
      have key : (if ((rh + v1 : Nat) : Int) ≥ 4294967296 then (if (0 : Int) ≤ 0 then some (IntKind.u64.wrap (IntKind.u64.wrap (q9 * 4294967296) + ((q1 - 1 : Nat) : Int)), shr .u64 (IntKind.u64.wrap (IntKind.u64.wrap (IntKind.u64.wrap ((u : Int) * 4294967296) + d) - IntKind.u64.wrap (((q1 - 1 : Nat) : Int) * y))) 0) else none) else bits_Div64.l1 k y 0 v1 v0 d q9 ((rh + v1 : Nat) : Int) u ((q1 - 1 : Nat) : Int)) = some (IntKind.u64.wrap (IntKind.u64.wrap (q9 * 4294967296) + q), (((u * 4294967296 + d) % y : Nat) : Int)) := by
        by_cases g : 4294967296 ≤ rh + v1
        · rw [if_pos (by omega), if_pos (by omega), b4 g, D.rest hyw, fin _ rl]
        · rw [if_neg (by omega)]
          exact ih (q1 - 1) (rh + v1) k b3 (by omega) b1 (by omega) (by omega) (by omega)
      by_cases c1 : 4294967296 ≤ q1
      · rw [if_pos (by omega)]; simpa using key
      · rw [if_neg (by omega), if_pos (by simp; omega)]; exact key
    · rw [if_neg (by omega), if_neg (by simp; omega), if_pos (by omega), a3 c, D.rest hyw, fin _ rl]
theorem Dgt.start {y v1 v0 u d q : Nat} (D : Dgt y v1 v0 u d q) : u = u / v1 * v1 + u % v1 ∧ u % v1 < 4294967296 ∧ q ≤ u / v1 ∧ u / v1 ≤ 4294967297 := by
  have h1 := D.h1; have h1' := D.h1'; have h0 := D.h0; have hd := D.hd; have hu := D.hu; have hy := D.hy
  have e := Nat.div_add_mod u v1
  have l := Nat.mod_lt u (show 0 < v1 by omega)
  have e' : u = u / v1 * v1 + u % v1 := by rw [Nat.mul_comm]; exact e.symm
  refine ⟨e', by omega, ?_, ?_⟩
  · rw [Nat.le_div_iff_mul_le (by omega)]
    have a := (D.le q).1 (Nat.le_refl _)
    have b : q * y = q * v1 * 4294967296 + q * v0 := by rw [hy, Nat.mul_add, ← Nat.mul_assoc]
    generalize q * v1 = X at *
    generalize q * v0 = Y at *
    omega
  · have : u / v1 < 4294967298 := by
      rw [Nat.div_lt_iff_lt_mul (by omega)]; omega
    omega
/-- Two words by one whose highest digit is 1. -/
theorem div64_eq (hi lo y k : Nat) (hy : 9223372036854775808 ≤ y) (hy1 : y < 18446744073709551616) (hh : hi < y) (hh0 : hi ≠ 0) (hl : lo < 18446744073709551616) (hk : 40 ≤ k) :
    bits_Div64.f k hi lo y = some ((((hi * 18446744073709551616 + lo) / y : Nat) : Int), (((hi * 18446744073709551616 + lo) % y : Nat) : Int)) := by
  have hv := Nat.div_add_mod y 4294967296
  have hv0 := Nat.mod_lt y (show 0 < 4294967296 by decide)
  have hlv := Nat.div_add_mod lo 4294967296
  have hl0 := Nat.mod_lt lo (show 0 < 4294967296 by decide)
  unfold bits_Div64.f bits_LeadingZeros64.f
  have eb : blen y = 64 := blen_eq (k := 63) (by omega) (by omega)
  rw [if_neg (by omega), if_neg (by omega), if_neg (by omega), if_pos (by omega), bs, Int.toNat_natCast, bitLen_blen y hy1, eb]
  have z : (64 : Int) - ((64 : Nat) : Int) = 0 := by omega
  have w0 : IntKind.u64.wrap 0 = 0 := by rw [wrap_u64]; omega
  have w64 : IntKind.u64.wrap (64 - 0) = 64 := by rw [wrap_u64]; omega
  have s1 : shl .u64 (y : Int) 0 = y := by have := shl_u64 y 0 (by omega); rw [Nat.pow_zero, Nat.mul_one, Nat.mod_eq_of_lt hy1] at this; exact this
  have s2 : shl .u64 (hi : Int) 0 = hi := by have := shl_u64 hi 0 (by omega); rw [Nat.pow_zero, Nat.mul_one, Nat.mod_eq_of_lt (by omega)] at this; exact this
  have s3 : shl .u64 (lo : Int) 0 = lo := by have := shl_u64 lo 0 (by omega); rw [Nat.pow_zero, Nat.mul_one, Nat.mod_eq_of_lt hl] at this; exact this
  have s4 : shr .u64 (lo : Int) 64 = 0 := by have := shr_u64 lo 64 (by omega); rw [Nat.div_eq_of_lt (by omega)] at this; exact this
  have o1 : Go.bits .or .u64 (hi : Int) 0 = hi := by
    have := or_add (hi : Int) 0 0 (by omega) (by omega) (by omega) (by omega) (by omega) (by omega)
    rw [this]; omega
  have n1 : Go.bits .and .u64 (y : Int) 4294967295 = ((y % 4294967296 : Nat) : Int) := by have := and_mask (y : Int) 32 (by omega) (by omega) (by omega); simpa using this
  have n2 : Go.bits .and .u64 (lo : Int) 4294967295 = ((lo % 4294967296 : Nat) : Int) := by have := and_mask (lo : Int) 32 (by omega) (by omega) (by omega); simpa using this
  have d1 : (y : Int) / 4294967296 = ((y / 4294967296 : Nat) : Int) := by omega
  have d2 : (lo : Int) / 4294967296 = ((lo / 4294967296 : Nat) : Int) := by omega
  rw [z, w0, if_pos (by omega), w64, if_pos (by omega), s1, s2, s3, s4, o1, n1, n2, d1, d2]
  generalize hv1 : y / 4294967296 = v1 at *
  generalize hv0' : y % 4294967296 = v0 at *
  generalize lo / 4294967296 = l1 at *
  generalize lo % 4294967296 = l0 at *
  rw [if_neg (by omega)]
  obtain ⟨q1, hq1⟩ : ∃ q1, q1 = (hi * 4294967296 + l1) / y := ⟨_, rfl⟩
  obtain ⟨r1, hr1⟩ : ∃ r1, r1 = (hi * 4294967296 + l1) % y := ⟨_, rfl⟩
  have D : Dgt y v1 v0 hi l1 q1 := ⟨by omega, hv0, by omega, by omega, hh, by omega, hq1⟩
  obtain ⟨t1, t2, t3, t4⟩ := D.start
  have g1 : IntKind.u64.wrap (Int.tdiv (hi : Int) (v1 : Int)) = ((hi / v1 : Nat) : Int) := by
    rw [Int.tdiv_eq_ediv_of_nonneg (by omega), ← Int.natCast_ediv]; exact u64w _ (by omega)
  have g2 : IntKind.u64.wrap ((hi : Int) - IntKind.u64.wrap (((hi / v1 : Nat) : Int) * v1)) = ((hi % v1 : Nat) : Int) := by
    rw [← Int.natCast_mul, u64w (hi / v1 * v1) (by omega), show (hi : Int) - ((hi / v1 * v1 : Nat) : Int) = ((hi % v1 : Nat) : Int) by omega]; exact u64w _ (by omega)
  rw [g1, g2]
  obtain ⟨k', e1, e2⟩ := knuth_l0 D 0 l0 2 (hi / v1) (hi % v1) k t1 t2 t3 t4 (by omega) (by omega)
  rw [e2]
  obtain ⟨k'', rfl⟩ : ∃ m, k' = m + 1 := ⟨k' - 1, by omega⟩
  have Dlt := D.lt
  have Drest := D.rest hy1
  rw [← hr1] at Drest
  have hr1y : r1 < y := by rw [hr1]; exact Nat.mod_lt _ (by omega)
  obtain ⟨q0, hq0⟩ : ∃ q0, q0 = (r1 * 4294967296 + l0) / y := ⟨_, rfl⟩
  obtain ⟨r0, hr0⟩ : ∃ r0, r0 = (r1 * 4294967296 + l0) % y := ⟨_, rfl⟩
  have D2 : Dgt y v1 v0 r1 l0 q0 := ⟨by omega, hv0, by omega, by omega, hr1y, by omega, hq0⟩
  obtain ⟨p1, p2, p3, p4⟩ := D2.start
  simp only [bits_Div64.j2]
  rw [Drest, if_neg (by omega)]
  have f1 : IntKind.u64.wrap (Int.tdiv (r1 : Int) (v1 : Int)) = ((r1 / v1 : Nat) : Int) := by
    rw [Int.tdiv_eq_ediv_of_nonneg (by omega), ← Int.natCast_ediv]; exact u64w _ (by omega)
  have f2 : IntKind.u64.wrap ((r1 : Int) - IntKind.u64.wrap (((r1 / v1 : Nat) : Int) * v1)) = ((r1 % v1 : Nat) : Int) := by
    rw [← Int.natCast_mul, u64w (r1 / v1 * v1) (by omega), show (r1 : Int) - ((r1 / v1 * v1 : Nat) : Int) = ((r1 % v1 : Nat) : Int) by omega]; exact u64w _ (by omega)
  rw [f1, f2, knuth_l1 D2 hy1 q1 2 (r1 / v1) (r1 % v1) k'' p1 p2 p3 p4 (by omega) (by omega)]
  have D2lt := D2.lt
  have em := Nat.div_add_mod (hi * 4294967296 + l1) y
  have en := Nat.div_add_mod (r1 * 4294967296 + l0) y
  have ln := Nat.mod_lt (r1 * 4294967296 + l0) (show 0 < y by omega)
  rw [← hq1, ← hr1] at em
  rw [← hq0, ← hr0] at en
  rw [← hr0] at ln ⊢
  have tot : hi * 18446744073709551616 + lo = (q1 * 4294967296 + q0) * y + r0 := by
    have : (q1 * 4294967296 + q0) * y = y * q1 * 4294967296 + y * q0 := by rw [Nat.add_mul, Nat.mul_comm (q1 * 4294967296), Nat.mul_comm q0, ← Nat.mul_assoc]
    rw [this]
    generalize y * q1 = A at *
    generalize y * q0 = B at *
    omega
  have dm : (hi * 18446744073709551616 + lo) / y = q1 * 4294967296 + q0 ∧ (hi * 18446744073709551616 + lo) % y = r0 := by
    rw [tot]; exact div_mod_of _ _ _ ln
  rw [dm.1, dm.2]
  have x1 : IntKind.u64.wrap ((q1 : Int) * 4294967296) = ((q1 * 4294967296 : Nat) : Int) := by rw [show (q1 : Int) * 4294967296 = ((q1 * 4294967296 : Nat) : Int) by omega]; exact u64w _ (by omega)
  rw [x1, ← Int.natCast_add, u64w _ (by omega)]
end Go.Proofs.Ytgpnmifejgdipaa.Pf
