/-
  FloatSums: both sides agree, class by class (printed by gen_s3.py). By the session's own hand.
-/
import Derived.Test.YtgpnmifejgdipaaSPsu2
import Derived.Test.YtgpnmifejgdipaaDf
set_option linter.unusedVariables false
set_option linter.unusedSimpArgs false
namespace Go.Proofs.Ytgpnmifejgdipaa.Pf
open Go.RowKit Go.Proofs.Ytgpnmifejgdipaa.My Go.Proofs.Ytgpnmifejgdipaa.RM Go.Proofs.YtgpnmifejgdipaaW.PrintWords Go.Proofs.YtgpnmifejgdipaaW.PrintLast Go.Proofs.YtgpnmifejgdipaaW.PrintMore

theorem sq_sNone_none : (sNone.toList = ([110, 111, 110, 101] : List UInt8)) = True := eq_true (by decide +kernel)
theorem sq_sNone_infinite : (sNone.toList = ([105, 110, 102, 105, 110, 105, 116, 101] : List UInt8)) = False := eq_false (by decide +kernel)
theorem sq_sNone_zero : (sNone.toList = ([122, 101, 114, 111] : List UInt8)) = False := eq_false (by decide +kernel)
theorem sb_sNone : (sNone.toList == ([110, 111, 110, 101] : List UInt8)) = true := by decide +kernel
theorem sq_sInf_none : (sInf.toList = ([110, 111, 110, 101] : List UInt8)) = False := eq_false (by decide +kernel)
theorem sq_sInf_infinite : (sInf.toList = ([105, 110, 102, 105, 110, 105, 116, 101] : List UInt8)) = True := eq_true (by decide +kernel)
theorem sq_sInf_zero : (sInf.toList = ([122, 101, 114, 111] : List UInt8)) = False := eq_false (by decide +kernel)
theorem sb_sInf : (sInf.toList == ([110, 111, 110, 101] : List UInt8)) = false := by decide +kernel
theorem sq_sZero_none : (sZero.toList = ([110, 111, 110, 101] : List UInt8)) = False := eq_false (by decide +kernel)
theorem sq_sZero_infinite : (sZero.toList = ([105, 110, 102, 105, 110, 105, 116, 101] : List UInt8)) = False := eq_false (by decide +kernel)
theorem sq_sZero_zero : (sZero.toList = ([122, 101, 114, 111] : List UInt8)) = True := eq_true (by decide +kernel)
theorem sb_sZero : (sZero.toList == ([110, 111, 110, 101] : List UInt8)) = false := by decide +kernel
theorem sq_sFin_none : (sFin.toList = ([110, 111, 110, 101] : List UInt8)) = False := eq_false (by decide +kernel)
theorem sq_sFin_infinite : (sFin.toList = ([105, 110, 102, 105, 110, 105, 116, 101] : List UInt8)) = False := eq_false (by decide +kernel)
theorem sq_sFin_zero : (sFin.toList = ([122, 101, 114, 111] : List UInt8)) = False := eq_false (by decide +kernel)
theorem sb_sFin : (sFin.toList == ([110, 111, 110, 101] : List UInt8)) = false := by decide +kernel
theorem nq_0_0 : ((0 : Int) = 0) = True := eq_true (by decide)
theorem nq_0_2 : ((0 : Int) = 2) = False := eq_false (by decide)
theorem nq_0_3 : ((0 : Int) = 3) = False := eq_false (by decide)
theorem nb_0_0 : ((0 : Int) == 0) = true := by decide
theorem nb_0_3 : ((0 : Int) == 3) = false := by decide
theorem nq_1_0 : ((1 : Int) = 0) = False := eq_false (by decide)
theorem nq_1_2 : ((1 : Int) = 2) = False := eq_false (by decide)
theorem nq_1_3 : ((1 : Int) = 3) = False := eq_false (by decide)
theorem nb_1_0 : ((1 : Int) == 0) = false := by decide
theorem nb_1_3 : ((1 : Int) == 3) = false := by decide
theorem nq_2_0 : ((2 : Int) = 0) = False := eq_false (by decide)
theorem nq_2_2 : ((2 : Int) = 2) = True := eq_true (by decide)
theorem nq_2_3 : ((2 : Int) = 3) = False := eq_false (by decide)
theorem nb_2_0 : ((2 : Int) == 0) = false := by decide
theorem nb_2_3 : ((2 : Int) == 3) = false := by decide
theorem nq_3_0 : ((3 : Int) = 0) = False := eq_false (by decide)
theorem nq_3_2 : ((3 : Int) = 2) = False := eq_false (by decide)
theorem nq_3_3 : ((3 : Int) = 3) = True := eq_true (by decide)
theorem nb_3_0 : ((3 : Int) == 0) = false := by decide
theorem nb_3_3 : ((3 : Int) == 3) = true := by decide

def rAdd (k : Nat) (kind mode a : Int) (x y : ByteArray × Int × List Int × Int) : Option (Int × Int × Int) :=
  if x.1.toList = ([110, 111, 110, 101] : List UInt8) then quadratref01_Add.j0 k kind mode a true x.1 x.2.1 x.2.2.1 x.2.2.2 y.1 y.2.1 y.2.2.1 y.2.2.2
  else quadratref01_Add.j0 k kind mode a (y.1.toList == ([110, 111, 110, 101] : List UInt8)) x.1 x.2.1 x.2.2.1 x.2.2.2 y.1 y.2.1 y.2.2.1 y.2.2.2
theorem addv_zl (p : Nat) (bias T mode s t : Int) (N : Nat) (low : Int) (hN : N ≠ 0) : addv p bias T mode s t 0 N low = pk p T t (R p bias mode t N low false) := by
  unfold addv
  by_cases h : s = t
  · subst h; rw [if_pos rfl, if_neg (by omega), Nat.zero_add]
  · rw [if_neg h, if_neg (by omega), if_neg (by omega), Nat.sub_zero]
theorem addv_zr (p : Nat) (bias T mode s t : Int) (M : Nat) (low : Int) (hM : M ≠ 0) : addv p bias T mode s t M 0 low = pk p T s (R p bias mode s M low false) := by rw [addv_comm, addv_zl _ _ _ _ _ _ _ _ hM]
theorem addv_zz (p : Nat) (bias T mode s t low : Int) (hp : p = p) : ∀ q : Nat, addv q bias T mode s t 0 0 low = (wrap64 ((if mode = 2 then 1 else 0) * T), 0) := by
  intro q
  unfold addv
  by_cases h : s = t
  · rw [if_pos h, if_pos rfl]
  · rw [if_neg h, if_pos rfl]
theorem R_low (p : Nat) (bias mode s : Int) (N : Nat) (e low : Int) (hN : N ≠ 0) (h : low ≤ e) : R p bias mode s (N * 2 ^ (e - low).toNat) low false = R p bias mode s N e false := by
  have := R_up p bias mode s N (e - low).toNat e hN
  rwa [show e - ((e - low).toNat : Int) = low by omega] at this
theorem mul_pow_ne {N k : Nat} (h : N ≠ 0) : N * 2 ^ k ≠ 0 := Nat.mul_ne_zero h (Nat.ne_of_gt (Nat.two_pow_pos k))

theorem add_agree {kind bias T w : Int} {p : Nat} (hr : RK kind p bias T) (hp : PK p w bias T) (k : Nat) (hk : 100400 ≤ k) (mode a : Int) (hm : 0 ≤ mode ∧ mode ≤ 3) {x y : Int × Int × Int × Int × Bool} {x' y' : ByteArray × Int × List Int × Int}
    (vx : Vw p bias x x') (vy : Vw p bias y y') (hz : x.1 = 0 → a = wrap64 (x.2.1 * T)) :
    ∃ r : Int × Int, float_shape_add.f k (p : Int) w mode x.1 x.2.1 x.2.2.1 x.2.2.2.1 y.1 y.2.1 y.2.2.1 y.2.2.2.1 = some r ∧ rAdd k kind mode a x' y' = some (r.1, r.2, 0) := by
  obtain ⟨k, rfl⟩ : ∃ m, k = m + 4 := ⟨k - 4, by omega⟩
  have hp0 := hp.p0; have hp1 := hp.p1; have hb0 := hp.b0; have hb1 := hp.b1
  have p53 : 2 ^ p ≤ 2 ^ 53 := Nat.pow_le_pow_right (by omega) hp1
  cases vx with
  | none s hs =>
    cases vy <;> (simp only [float_shape_add.f, float_shape_add.j0, float_shape_add.j1, float_shape_add.j2, float_shape_add.j3, rAdd, quadratref01_Add.j0, quadratref01_Add.j1, if_true, if_false, Bool.false_eq_true, nq_0_0, nq_0_2, nq_0_3, nb_0_0, nb_0_3, nq_1_0, nq_1_2, nq_1_3, nb_1_0, nb_1_3, nq_2_0, nq_2_2, nq_2_3, nb_2_0, nb_2_3, nq_3_0, nq_3_2, nq_3_3, nb_3_0, nb_3_3, sq_sNone_none, sq_sNone_infinite, sq_sNone_zero, sb_sNone, sq_sInf_none, sq_sInf_infinite, sq_sInf_zero, sb_sInf, sq_sZero_none, sq_sZero_infinite, sq_sZero_zero, sb_sZero, sq_sFin_none, sq_sFin_infinite, sq_sFin_zero, sb_sFin]; rw [hp.qui, bs, hr.qui, bs]; exact ⟨_, rfl, rfl⟩)
  | inf s hs =>
    cases vy with
    | none t ht => simp only [float_shape_add.f, float_shape_add.j0, float_shape_add.j1, float_shape_add.j2, float_shape_add.j3, rAdd, quadratref01_Add.j0, quadratref01_Add.j1, if_true, if_false, Bool.false_eq_true, nq_0_0, nq_0_2, nq_0_3, nb_0_0, nb_0_3, nq_1_0, nq_1_2, nq_1_3, nb_1_0, nb_1_3, nq_2_0, nq_2_2, nq_2_3, nb_2_0, nb_2_3, nq_3_0, nq_3_2, nq_3_3, nb_3_0, nb_3_3, sq_sNone_none, sq_sNone_infinite, sq_sNone_zero, sb_sNone, sq_sInf_none, sq_sInf_infinite, sq_sInf_zero, sb_sInf, sq_sZero_none, sq_sZero_infinite, sq_sZero_zero, sb_sZero, sq_sFin_none, sq_sFin_infinite, sq_sFin_zero, sb_sFin]; rw [hp.qui, bs, hr.qui, bs]; exact ⟨_, rfl, rfl⟩
    | inf t ht =>
      simp only [float_shape_add.f, float_shape_add.j0, float_shape_add.j1, float_shape_add.j2, float_shape_add.j3, rAdd, quadratref01_Add.j0, quadratref01_Add.j1, if_true, if_false, Bool.false_eq_true, nq_0_0, nq_0_2, nq_0_3, nb_0_0, nb_0_3, nq_1_0, nq_1_2, nq_1_3, nb_1_0, nb_1_3, nq_2_0, nq_2_2, nq_2_3, nb_2_0, nb_2_3, nq_3_0, nq_3_2, nq_3_3, nb_3_0, nb_3_3, sq_sNone_none, sq_sNone_infinite, sq_sNone_zero, sb_sNone, sq_sInf_none, sq_sInf_infinite, sq_sInf_zero, sb_sInf, sq_sZero_none, sq_sZero_infinite, sq_sZero_zero, sb_sZero, sq_sFin_none, sq_sFin_infinite, sq_sFin_zero, sb_sFin]
      by_cases h : s = t
      · subst h
        rw [show (s != s) = false by simp]
        simp only [float_shape_add.f, float_shape_add.j0, float_shape_add.j1, float_shape_add.j2, float_shape_add.j3, rAdd, quadratref01_Add.j0, quadratref01_Add.j1, if_true, if_false, Bool.false_eq_true, nq_0_0, nq_0_2, nq_0_3, nb_0_0, nb_0_3, nq_1_0, nq_1_2, nq_1_3, nb_1_0, nb_1_3, nq_2_0, nq_2_2, nq_2_3, nb_2_0, nb_2_3, nq_3_0, nq_3_2, nq_3_3, nb_3_0, nb_3_3, sq_sNone_none, sq_sNone_infinite, sq_sNone_zero, sb_sNone, sq_sInf_none, sq_sInf_infinite, sq_sInf_zero, sb_sInf, sq_sZero_none, sq_sZero_infinite, sq_sZero_zero, sb_sZero, sq_sFin_none, sq_sFin_infinite, sq_sFin_zero, sb_sFin]
        rw [hp.inf s hs, bs, hr.inf s hs, bs]; exact ⟨_, rfl, rfl⟩
      · rw [show (s != t) = true by simpa using h]
        simp only [float_shape_add.f, float_shape_add.j0, float_shape_add.j1, float_shape_add.j2, float_shape_add.j3, rAdd, quadratref01_Add.j0, quadratref01_Add.j1, if_true, if_false, Bool.false_eq_true, nq_0_0, nq_0_2, nq_0_3, nb_0_0, nb_0_3, nq_1_0, nq_1_2, nq_1_3, nb_1_0, nb_1_3, nq_2_0, nq_2_2, nq_2_3, nb_2_0, nb_2_3, nq_3_0, nq_3_2, nq_3_3, nb_3_0, nb_3_3, sq_sNone_none, sq_sNone_infinite, sq_sNone_zero, sb_sNone, sq_sInf_none, sq_sInf_infinite, sq_sInf_zero, sb_sInf, sq_sZero_none, sq_sZero_infinite, sq_sZero_zero, sb_sZero, sq_sFin_none, sq_sFin_infinite, sq_sFin_zero, sb_sFin]
        rw [hp.qui, bs, hr.qui, bs]; exact ⟨_, rfl, rfl⟩
    | zero t ht => simp only [float_shape_add.f, float_shape_add.j0, float_shape_add.j1, float_shape_add.j2, float_shape_add.j3, rAdd, quadratref01_Add.j0, quadratref01_Add.j1, if_true, if_false, Bool.false_eq_true, nq_0_0, nq_0_2, nq_0_3, nb_0_0, nb_0_3, nq_1_0, nq_1_2, nq_1_3, nb_1_0, nb_1_3, nq_2_0, nq_2_2, nq_2_3, nb_2_0, nb_2_3, nq_3_0, nq_3_2, nq_3_3, nb_3_0, nb_3_3, sq_sNone_none, sq_sNone_infinite, sq_sNone_zero, sb_sNone, sq_sInf_none, sq_sInf_infinite, sq_sInf_zero, sb_sInf, sq_sZero_none, sq_sZero_infinite, sq_sZero_zero, sb_sZero, sq_sFin_none, sq_sFin_infinite, sq_sFin_zero, sb_sFin]; rw [hp.inf s hs, bs, hr.inf s hs, bs]; exact ⟨_, rfl, rfl⟩
    | fin t ht n f hn0 hn1 hf0 hf1 hl => simp only [float_shape_add.f, float_shape_add.j0, float_shape_add.j1, float_shape_add.j2, float_shape_add.j3, rAdd, quadratref01_Add.j0, quadratref01_Add.j1, if_true, if_false, Bool.false_eq_true, nq_0_0, nq_0_2, nq_0_3, nb_0_0, nb_0_3, nq_1_0, nq_1_2, nq_1_3, nb_1_0, nb_1_3, nq_2_0, nq_2_2, nq_2_3, nb_2_0, nb_2_3, nq_3_0, nq_3_2, nq_3_3, nb_3_0, nb_3_3, sq_sNone_none, sq_sNone_infinite, sq_sNone_zero, sb_sNone, sq_sInf_none, sq_sInf_infinite, sq_sInf_zero, sb_sInf, sq_sZero_none, sq_sZero_infinite, sq_sZero_zero, sb_sZero, sq_sFin_none, sq_sFin_infinite, sq_sFin_zero, sb_sFin]; rw [hp.inf s hs, bs, hr.inf s hs, bs]; exact ⟨_, rfl, rfl⟩
  | zero s hs =>
    have hz' : a = wrap64 (s * T) := hz rfl
    cases vy with
    | none t ht => simp only [float_shape_add.f, float_shape_add.j0, float_shape_add.j1, float_shape_add.j2, float_shape_add.j3, rAdd, quadratref01_Add.j0, quadratref01_Add.j1, if_true, if_false, Bool.false_eq_true, nq_0_0, nq_0_2, nq_0_3, nb_0_0, nb_0_3, nq_1_0, nq_1_2, nq_1_3, nb_1_0, nb_1_3, nq_2_0, nq_2_2, nq_2_3, nb_2_0, nb_2_3, nq_3_0, nq_3_2, nq_3_3, nb_3_0, nb_3_3, sq_sNone_none, sq_sNone_infinite, sq_sNone_zero, sb_sNone, sq_sInf_none, sq_sInf_infinite, sq_sInf_zero, sb_sInf, sq_sZero_none, sq_sZero_infinite, sq_sZero_zero, sb_sZero, sq_sFin_none, sq_sFin_infinite, sq_sFin_zero, sb_sFin]; rw [hp.qui, bs, hr.qui, bs]; exact ⟨_, rfl, rfl⟩
    | inf t ht => simp only [float_shape_add.f, float_shape_add.j0, float_shape_add.j1, float_shape_add.j2, float_shape_add.j3, rAdd, quadratref01_Add.j0, quadratref01_Add.j1, if_true, if_false, Bool.false_eq_true, nq_0_0, nq_0_2, nq_0_3, nb_0_0, nb_0_3, nq_1_0, nq_1_2, nq_1_3, nb_1_0, nb_1_3, nq_2_0, nq_2_2, nq_2_3, nb_2_0, nb_2_3, nq_3_0, nq_3_2, nq_3_3, nb_3_0, nb_3_3, sq_sNone_none, sq_sNone_infinite, sq_sNone_zero, sb_sNone, sq_sInf_none, sq_sInf_infinite, sq_sInf_zero, sb_sInf, sq_sZero_none, sq_sZero_infinite, sq_sZero_zero, sb_sZero, sq_sFin_none, sq_sFin_infinite, sq_sFin_zero, sb_sFin]; rw [hp.inf t ht, bs, hr.inf t ht, bs]; exact ⟨_, rfl, rfl⟩
    | zero t ht =>
      simp only [float_shape_add.f, float_shape_add.j0, float_shape_add.j1, float_shape_add.j2, float_shape_add.j3, rAdd, quadratref01_Add.j0, quadratref01_Add.j1, if_true, if_false, Bool.false_eq_true, nq_0_0, nq_0_2, nq_0_3, nb_0_0, nb_0_3, nq_1_0, nq_1_2, nq_1_3, nb_1_0, nb_1_3, nq_2_0, nq_2_2, nq_2_3, nb_2_0, nb_2_3, nq_3_0, nq_3_2, nq_3_3, nb_3_0, nb_3_3, sq_sNone_none, sq_sNone_infinite, sq_sNone_zero, sb_sNone, sq_sInf_none, sq_sInf_infinite, sq_sInf_zero, sb_sInf, sq_sZero_none, sq_sZero_infinite, sq_sZero_zero, sb_sZero, sq_sFin_none, sq_sFin_infinite, sq_sFin_zero, sb_sFin]
      by_cases h : s = t
      · subst h
        rw [show (s == s) = true by simp, if_pos rfl]
        simp only [float_shape_add.f, float_shape_add.j0, float_shape_add.j1, float_shape_add.j2, float_shape_add.j3, rAdd, quadratref01_Add.j0, quadratref01_Add.j1, if_true, if_false, Bool.false_eq_true, nq_0_0, nq_0_2, nq_0_3, nb_0_0, nb_0_3, nq_1_0, nq_1_2, nq_1_3, nb_1_0, nb_1_3, nq_2_0, nq_2_2, nq_2_3, nb_2_0, nb_2_3, nq_3_0, nq_3_2, nq_3_3, nb_3_0, nb_3_3, sq_sNone_none, sq_sNone_infinite, sq_sNone_zero, sb_sNone, sq_sInf_none, sq_sInf_infinite, sq_sInf_zero, sb_sInf, sq_sZero_none, sq_sZero_infinite, sq_sZero_zero, sb_sZero, sq_sFin_none, sq_sFin_infinite, sq_sFin_zero, sb_sFin]
        rw [hp.zer s hs, bs]; exact ⟨_, rfl, by rw [hz']⟩
      · rw [show (s == t) = false by simpa using h, if_neg h]
        simp only [float_shape_add.f, float_shape_add.j0, float_shape_add.j1, float_shape_add.j2, float_shape_add.j3, rAdd, quadratref01_Add.j0, quadratref01_Add.j1, if_true, if_false, Bool.false_eq_true, nq_0_0, nq_0_2, nq_0_3, nb_0_0, nb_0_3, nq_1_0, nq_1_2, nq_1_3, nb_1_0, nb_1_3, nq_2_0, nq_2_2, nq_2_3, nb_2_0, nb_2_3, nq_3_0, nq_3_2, nq_3_3, nb_3_0, nb_3_3, sq_sNone_none, sq_sNone_infinite, sq_sNone_zero, sb_sNone, sq_sInf_none, sq_sInf_infinite, sq_sInf_zero, sb_sInf, sq_sZero_none, sq_sZero_infinite, sq_sZero_zero, sb_sZero, sq_sFin_none, sq_sFin_infinite, sq_sFin_zero, sb_sFin]
        have e := radd_j2 hr (k + 2) (by omega) mode sZero sZero s t 0 0 0 0 hm hs ht (by decide) (by decide) (by omega) (by omega) (by omega) (by omega)
        rw [nat_zero] at e
        rw [hp.non mode, bs, e, Nat.zero_mul, addv_zz p bias T mode s t _ rfl]
        exact ⟨_, rfl, rfl⟩
    | fin t ht n f hn0 hn1 hf0 hf1 hl =>
      simp only [float_shape_add.f, float_shape_add.j0, float_shape_add.j1, float_shape_add.j2, float_shape_add.j3, rAdd, quadratref01_Add.j0, quadratref01_Add.j1, if_true, if_false, Bool.false_eq_true, nq_0_0, nq_0_2, nq_0_3, nb_0_0, nb_0_3, nq_1_0, nq_1_2, nq_1_3, nb_1_0, nb_1_3, nq_2_0, nq_2_2, nq_2_3, nb_2_0, nb_2_3, nq_3_0, nq_3_2, nq_3_3, nb_3_0, nb_3_3, sq_sNone_none, sq_sNone_infinite, sq_sNone_zero, sb_sNone, sq_sInf_none, sq_sInf_infinite, sq_sInf_zero, sb_sInf, sq_sZero_none, sq_sZero_infinite, sq_sZero_zero, sb_sZero, sq_sFin_none, sq_sFin_infinite, sq_sFin_zero, sb_sFin]
      have e := radd_j2 hr (k + 2) (by omega) mode sZero sFin s t 0 f 0 n hm hs ht (by decide) (by omega) (by omega) (by omega) (by omega) (by omega)
      rw [nat_zero] at e
      have hw : n < 18446744073709551616 := by omega
      have hb : blen n ≤ p := blen_le.2 hn1
      have e4 := round_eq hp k (by omega) mode t f false n 0 n hm ht hn0 (by omega) (by omega) (by omega) (by omega) (by omega) (by simp)
      have e4' : float_shape_round.f k (p : Int) w mode t 0 (n : Int) f false = _ := e4
      rw [e4', bs, e, Nat.zero_mul, addv_zl _ _ _ _ _ _ _ _ (mul_pow_ne hn0), R_low _ _ _ _ _ _ _ hn0 (by omega)]
      exact ⟨_, rfl, rfl⟩
  | fin s hs m e hm0 hm1 he0 he1 hlx =>
    have bm : blen m ≤ p := blen_le.2 hm1
    cases vy with
    | none t ht => simp only [float_shape_add.f, float_shape_add.j0, float_shape_add.j1, float_shape_add.j2, float_shape_add.j3, rAdd, quadratref01_Add.j0, quadratref01_Add.j1, if_true, if_false, Bool.false_eq_true, nq_0_0, nq_0_2, nq_0_3, nb_0_0, nb_0_3, nq_1_0, nq_1_2, nq_1_3, nb_1_0, nb_1_3, nq_2_0, nq_2_2, nq_2_3, nb_2_0, nb_2_3, nq_3_0, nq_3_2, nq_3_3, nb_3_0, nb_3_3, sq_sNone_none, sq_sNone_infinite, sq_sNone_zero, sb_sNone, sq_sInf_none, sq_sInf_infinite, sq_sInf_zero, sb_sInf, sq_sZero_none, sq_sZero_infinite, sq_sZero_zero, sb_sZero, sq_sFin_none, sq_sFin_infinite, sq_sFin_zero, sb_sFin]; rw [hp.qui, bs, hr.qui, bs]; exact ⟨_, rfl, rfl⟩
    | inf t ht => simp only [float_shape_add.f, float_shape_add.j0, float_shape_add.j1, float_shape_add.j2, float_shape_add.j3, rAdd, quadratref01_Add.j0, quadratref01_Add.j1, if_true, if_false, Bool.false_eq_true, nq_0_0, nq_0_2, nq_0_3, nb_0_0, nb_0_3, nq_1_0, nq_1_2, nq_1_3, nb_1_0, nb_1_3, nq_2_0, nq_2_2, nq_2_3, nb_2_0, nb_2_3, nq_3_0, nq_3_2, nq_3_3, nb_3_0, nb_3_3, sq_sNone_none, sq_sNone_infinite, sq_sNone_zero, sb_sNone, sq_sInf_none, sq_sInf_infinite, sq_sInf_zero, sb_sInf, sq_sZero_none, sq_sZero_infinite, sq_sZero_zero, sb_sZero, sq_sFin_none, sq_sFin_infinite, sq_sFin_zero, sb_sFin]; rw [hp.inf t ht, bs, hr.inf t ht, bs]; exact ⟨_, rfl, rfl⟩
    | zero t ht =>
      simp only [float_shape_add.f, float_shape_add.j0, float_shape_add.j1, float_shape_add.j2, float_shape_add.j3, rAdd, quadratref01_Add.j0, quadratref01_Add.j1, if_true, if_false, Bool.false_eq_true, nq_0_0, nq_0_2, nq_0_3, nb_0_0, nb_0_3, nq_1_0, nq_1_2, nq_1_3, nb_1_0, nb_1_3, nq_2_0, nq_2_2, nq_2_3, nb_2_0, nb_2_3, nq_3_0, nq_3_2, nq_3_3, nb_3_0, nb_3_3, sq_sNone_none, sq_sNone_infinite, sq_sNone_zero, sb_sNone, sq_sInf_none, sq_sInf_infinite, sq_sInf_zero, sb_sInf, sq_sZero_none, sq_sZero_infinite, sq_sZero_zero, sb_sZero, sq_sFin_none, sq_sFin_infinite, sq_sFin_zero, sb_sFin]
      have e1 := radd_j2 hr (k + 2) (by omega) mode sFin sZero s t e 0 m 0 hm hs ht (by omega) (by decide) (by omega) (by omega) (by omega) (by omega)
      rw [nat_zero] at e1
      have e4 := round_eq hp k (by omega) mode s e false m 0 m hm hs hm0 (by omega) (by omega) (by omega) (by omega) (by omega) (by simp)
      have e4' : float_shape_round.f k (p : Int) w mode s 0 (m : Int) e false = _ := e4
      rw [e4', bs, e1, Nat.zero_mul, addv_zr _ _ _ _ _ _ _ _ (mul_pow_ne hm0), R_low _ _ _ _ _ _ _ hm0 (by omega)]
      exact ⟨_, rfl, rfl⟩
    | fin t ht n f hn0 hn1 hf0 hf1 hly =>
      simp only [float_shape_add.f, float_shape_add.j0, float_shape_add.j1, float_shape_add.j2, float_shape_add.j3, rAdd, quadratref01_Add.j0, quadratref01_Add.j1, if_true, if_false, Bool.false_eq_true, nq_0_0, nq_0_2, nq_0_3, nb_0_0, nb_0_3, nq_1_0, nq_1_2, nq_1_3, nb_1_0, nb_1_3, nq_2_0, nq_2_2, nq_2_3, nb_2_0, nb_2_3, nq_3_0, nq_3_2, nq_3_3, nb_3_0, nb_3_3, sq_sNone_none, sq_sNone_infinite, sq_sNone_zero, sb_sNone, sq_sInf_none, sq_sInf_infinite, sq_sInf_zero, sb_sInf, sq_sZero_none, sq_sZero_infinite, sq_sZero_zero, sb_sZero, sq_sFin_none, sq_sFin_infinite, sq_sFin_zero, sb_sFin]
      have e1 := radd_j2 hr (k + 2) (by omega) mode sFin sFin s t e f m n hm hs ht (by omega) (by omega) (by omega) (by omega) (by omega) (by omega)
      rw [e1]
      by_cases hlt : e < f
      · rw [if_pos hlt, psum_eq hp k (by omega) mode t s f e 1 1 n m hm ht hs hn1 hm1 hm0 (by omega) (by omega) (by omega) (fun hne => Nat.le_of_not_lt fun hh => hne (hly hh)) (by omega), bs]
        rw [show min e f = e by omega, show (e - e).toNat = 0 by omega, Nat.pow_zero, Nat.mul_one, addv_comm p bias T mode t s]
        exact ⟨_, rfl, rfl⟩
      · rw [if_neg hlt, psum_eq hp k (by omega) mode s t e f 1 1 m n hm hs ht hm1 hn1 hn0 (by omega) (by omega) (by omega) (fun hne => Nat.le_of_not_lt fun hh => hne (hlx hh)) (by omega), bs]
        rw [show min e f = f by omega, show (f - f).toNat = 0 by omega, Nat.pow_zero, Nat.mul_one]
        exact ⟨_, rfl, rfl⟩
end Go.Proofs.Ytgpnmifejgdipaa.Pf
