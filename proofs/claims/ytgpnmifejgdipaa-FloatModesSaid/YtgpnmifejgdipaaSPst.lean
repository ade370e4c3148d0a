/-
  FloatSteps: a step down and up again, by places (printed by gen_st.py). By the session's own hand.
-/
import Derived.Test.YtgpnmifejgdipaaSPnext
import Derived.Test.YtgpnmifejgdipaaSPcmp
import Derived.Test.YtgpnmifejgdipaaDf
set_option linter.unusedVariables false
set_option linter.unusedSimpArgs false
namespace Go.Proofs.Ytgpnmifejgdipaa.Pf
open Go.RowKit Go.Proofs.Ytgpnmifejgdipaa.My Go.Proofs.Ytgpnmifejgdipaa.RM Go.Proofs.YtgpnmifejgdipaaW.PrintWords Go.Proofs.YtgpnmifejgdipaaW.PrintLast Go.Proofs.YtgpnmifejgdipaaW.PrintMore

/-- A kind, by places. -/
structure NK (V : Int → Prop) (kind p w T P W l o E : Int) : Prop where
  e0 : 1 < E
  e1 : E < 9223372036854775807
  eT : E < T
  two : ∀ (k : Nat) (a b : Int), V a → V b → float_two.f (k + 3) kind 0 a b = some (twv p w (rdv P W l o (wd a)) (rdv P W l o (wd b)))
  pla : ∀ a : Int, float_shape_place.f p w a = some (plc T (wd a))
  top : float_shape_top.f p w = some (W - 1)
  fin : shl .u64 (W - 1) (wrap64 (p - 1)) = E
  p0 : 0 ≤ wrap64 (p - 1)
  j1 : ∀ (k : Nat) (up : Bool) (x : Int), -T < x → x < T → float_Next.j1 (k + 2) up x p w = some (nj T up x, 0)
  vn : ∀ (up : Bool) (y : Int), -E ≤ y → y ≤ E → V (nj T up y) ∧ plc T (wd (nj T up y)) = y ∧ (rdv P W l o (wd (nj T up y))).1 ≠ 3
  c1 : ∀ a : Int, V a → (rdv P W l o (wd a)).1 = 1 → -E < plc T (wd a) ∧ plc T (wd a) < E ∧ ∀ up, nj T up (plc T (wd a)) = a
  cs : ∀ u : Int, (rdv P W l o u).1 = 0 ∨ (rdv P W l o u).1 = 1 ∨ (rdv P W l o u).1 = 2 ∨ (rdv P W l o u).1 = 3
  cmp : ∀ (k : Nat) (a b : Int), V a → V b → (rdv P W l o (wd a)).1 ≠ 3 → (rdv P W l o (wd b)).1 ≠ 3 → float_Compare.f (k + 6) kind a b = some (cmp3 (plc T (wd a)) (plc T (wd b)))
def stp (E : Int) (up : Bool) (x : Int) : Int := if up then (if x < E then x + 1 else x) else (if -x < E then x - 1 else x)
theorem next_of {V : Int → Prop} {kind p w T P W l o E : Int} (N : NK V kind p w T P W l o E) (k : Nat) (a : Int) (up : Bool) (hV : V a) (hc : (rdv P W l o (wd a)).1 ≠ 3) (h0 : -E ≤ plc T (wd a)) (h1 : plc T (wd a) ≤ E) :
    float_Next.f (k + 6) kind a up = some (nj T up (stp E up (plc T (wd a))), 0) := by
  have e0 := N.e0; have e1 := N.e1; have eT := N.eT
  unfold float_Next.f
  rw [N.two (k + 3) a a hV hV, bs]
  have hok : (twv p w (rdv P W l o (wd a)) (rdv P W l o (wd a))).2.2.2.2.2.2.2.2.2.2 = true := by simp only [twv, rdv_ok]; rfl
  rw [if_pos hok, if_neg (show ¬ (twv p w (rdv P W l o (wd a)) (rdv P W l o (wd a))).2.2.1 = 3 from hc)]
  simp only [twv]
  generalize hx : plc T (wd a) = x at *
  have wE : wrap64 E = E := w64_id (by omega) (by omega)
  cases up with
  | true =>
    have w1 : wrap64 (x * 1) = x := by rw [Int.mul_one]; exact w64_id (by omega) (by omega)
    have w2 : wrap64 (x + 1) = x + 1 := w64_id (by omega) (by omega)
    rw [if_pos rfl]
    simp only [float_Next.j0]
    rw [N.pla, bs, hx, N.top, bs, if_pos N.p0, N.fin, w1, w2, wE]
    rw [show stp E true x = if x < E then x + 1 else x by unfold stp; rw [if_pos rfl]]
    by_cases c : x < E
    · rw [if_pos c, if_pos c, N.j1 (k + 3) true (x + 1) (by omega) (by omega)]
    · rw [if_neg c, if_neg c, N.j1 (k + 3) true x (by omega) (by omega)]
  | false =>
    have w1 : wrap64 (x * -1) = -x := by rw [Int.mul_neg, Int.mul_one]; exact w64_id (by omega) (by omega)
    have w2 : wrap64 (x + -1) = x - 1 := by rw [← Int.sub_eq_add_neg]; exact w64_id (by omega) (by omega)
    rw [if_neg (by simp)]
    simp only [float_Next.j0]
    rw [N.pla, bs, hx, N.top, bs, if_pos N.p0, N.fin, w1, w2, wE]
    rw [show stp E false x = if -x < E then x - 1 else x by unfold stp; rw [if_neg (by simp)]]
    by_cases c : -x < E
    · rw [if_pos c, if_pos c, N.j1 (k + 3) false (x - 1) (by omega) (by omega)]
    · rw [if_neg c, if_neg c, N.j1 (k + 3) false x (by omega) (by omega)]
theorem st_awake (k : Nat) (kind a : Int) : quadratlaw01_FloatSteps.j0 (k + 101) kind a true = some true := by
  simp only [quadratlaw01_FloatSteps.j0]; rw [if_pos trivial, awake k, bs]
/-- The law, once the class is known. -/
theorem st_class (k : Nat) (kind a : Int) (s : ByteArray) (h : float_Class.f (k + 101) kind a = some s) (hs : s.toList = ([108, 101, 97, 115, 116] : List UInt8) ∨ s.toList = ([110, 111, 114, 109, 97, 108] : List UInt8) → quadratlaw01_FloatSteps.j0 (k + 101) kind a false = some true) :
    quadratlaw01_FloatSteps.f (k + 101) kind a = some true := by
  unfold quadratlaw01_FloatSteps.f
  rw [h, bs]
  by_cases c : s.toList = ([108, 101, 97, 115, 116] : List UInt8)
  · rw [if_pos c]; exact hs (.inl c)
  · rw [if_neg c]
    by_cases d : s.toList = ([110, 111, 114, 109, 97, 108] : List UInt8)
    · rw [d, show ((([110, 111, 114, 109, 97, 108] : List UInt8) != ([110, 111, 114, 109, 97, 108] : List UInt8)) = false) by decide]; exact hs (.inr d)
    · rw [show (s.toList != ([110, 111, 114, 109, 97, 108] : List UInt8)) = true by simpa using d]; exact st_awake k kind a
theorem steps_of {V : Int → Prop} {kind p w T P W l o E : Int} (N : NK V kind p w T P W l o E) (k : Nat) (a : Int) (hV : V a) (h1 : (rdv P W l o (wd a)).1 = 1) : quadratlaw01_FloatSteps.j0 (k + 110) kind a false = some true := by
  have e0 := N.e0
  obtain ⟨x0, x1, back⟩ := N.c1 a hV h1
  have hc : (rdv P W l o (wd a)).1 ≠ 3 := by omega
  have n1 := next_of N (k + 103) a false hV hc (by omega) (by omega)
  have n2 := next_of N (k + 103) a true hV hc (by omega) (by omega)
  generalize hx : plc T (wd a) = x at *
  have s1 : stp E false x = x - 1 := by unfold stp; rw [if_neg (by simp), if_pos (by omega)]
  have s2 : stp E true x = x + 1 := by unfold stp; rw [if_pos rfl, if_pos (by omega)]
  rw [s1] at n1
  rw [s2] at n2
  obtain ⟨v1, q1, r1⟩ := N.vn false (x - 1) (by omega) (by omega)
  obtain ⟨v2, q2, r2⟩ := N.vn true (x + 1) (by omega) (by omega)
  have n3 := next_of N (k + 103) _ true v1 r1 (by omega) (by omega)
  have n4 := next_of N (k + 103) _ false v2 r2 (by omega) (by omega)
  rw [q1, show stp E true (x - 1) = x by unfold stp; rw [if_pos rfl, if_pos (by omega)]; omega, back true] at n3
  rw [q2, show stp E false (x + 1) = x by unfold stp; rw [if_neg (by simp), if_pos (by omega)]; omega, back false] at n4
  have n5 := N.cmp (k + 103) _ a v1 hV r1 hc
  rw [q1, hx, show cmp3 (x - 1) x = (-1, 0) by unfold cmp3; rw [if_pos (by omega)]] at n5
  simp only [quadratlaw01_FloatSteps.j0]
  rw [if_neg (by simp), n1, bs, n3, bs, n2, bs, n4, bs, n5, bs, if_pos rfl, if_pos rfl, if_pos rfl, if_pos rfl, if_pos rfl, if_pos rfl, if_pos rfl, show k + 109 = (k + 9) + 100 from rfl, awake (k + 9), bs]
theorem sl1 : (⟨#[122, 101, 114, 111]⟩ : ByteArray).toList = ([122, 101, 114, 111] : List UInt8) := by decide +kernel
theorem sl2 : (⟨#[105, 110, 102, 105, 110, 105, 116, 101]⟩ : ByteArray).toList = ([105, 110, 102, 105, 110, 105, 116, 101] : List UInt8) := by decide +kernel
theorem sl3 : (⟨#[110, 111, 110, 101]⟩ : ByteArray).toList = ([110, 111, 110, 101] : List UInt8) := by decide +kernel
theorem sl4 : (⟨#[]⟩ : ByteArray).toList = ([] : List UInt8) := by decide +kernel
/-- The class of bits that are a float. -/
theorem class_of {V : Int → Prop} {kind p w T P W l o E : Int} (N : NK V kind p w T P W l o E) (k : Nat) (a : Int) (hV : V a) : ∃ s : ByteArray, float_Class.f (k + 3) kind a = some s ∧ (s.toList = ([108, 101, 97, 115, 116] : List UInt8) ∨ s.toList = ([110, 111, 114, 109, 97, 108] : List UInt8) → (rdv P W l o (wd a)).1 = 1) := by
  unfold float_Class.f
  rw [N.two k a a hV hV, bs]
  have hok : (twv p w (rdv P W l o (wd a)) (rdv P W l o (wd a))).2.2.2.2.2.2.2.2.2.2 = true := by simp only [twv, rdv_ok]; rfl
  rw [if_pos hok]
  have q0 : ∀ c : Int, (rdv P W l o (wd a)).1 ≠ c → ¬ (twv p w (rdv P W l o (wd a)) (rdv P W l o (wd a))).2.2.1 = c := fun c h => h
  have q1 : ∀ c : Int, (rdv P W l o (wd a)).1 = c → (twv p w (rdv P W l o (wd a)) (rdv P W l o (wd a))).2.2.1 = c := fun c h => h
  rcases N.cs (wd a) with h | h | h | h
  · rw [if_pos (q1 0 h)]; exact ⟨_, rfl, fun H => by rw [sl1] at H; rcases H with H | H <;> simp at H⟩
  · rw [if_neg (q0 0 (by omega)), if_neg (q0 2 (by omega)), if_neg (q0 3 (by omega)), if_pos (show 0 ≤ wrap64 ((twv p w (rdv P W l o (wd a)) (rdv P W l o (wd a))).1 - 1) from N.p0)]
    split
    · exact ⟨_, rfl, fun _ => h⟩
    · exact ⟨_, rfl, fun _ => h⟩
  · rw [if_neg (q0 0 (by omega)), if_pos (q1 2 h)]; exact ⟨_, rfl, fun H => by rw [sl2] at H; rcases H with H | H <;> simp at H⟩
  · rw [if_neg (q0 0 (by omega)), if_neg (q0 2 (by omega)), if_pos (q1 3 h)]; exact ⟨_, rfl, fun H => by rw [sl3] at H; rcases H with H | H <;> simp at H⟩
theorem steps_all {V : Int → Prop} {kind p w T P W l o E : Int} (N : NK V kind p w T P W l o E) (k : Nat) (a : Int) (hV : V a) : quadratlaw01_FloatSteps.f (k + 110) kind a = some true := by
  obtain ⟨s, hs, h⟩ := class_of N (k + 107) a hV
  exact st_class (k + 9) kind a s hs fun H => steps_of N k a hV (h H)
theorem steps_bad (k : Nat) (kind a : Int) (h : ∃ p w x1 x2 x3 x4 y1 y2 y3 y4, float_two.f (k + 101) kind 0 a a = some (p, w, x1, x2, x3, x4, y1, y2, y3, y4, false)) : quadratlaw01_FloatSteps.f (k + 101) kind a = some true := by
  obtain ⟨p, w, x1, x2, x3, x4, y1, y2, y3, y4, ht⟩ := h
  refine st_class k kind a (⟨#[]⟩ : ByteArray) ?_ fun H => ?_
  · unfold float_Class.f; rw [ht, bs, if_neg (by simp)]
  · rw [sl4] at H; rcases H with H | H <;> simp at H

def V2 (a : Int) : Prop := 0 ≤ a ∧ a < 65536
theorem rdc_2 (u : Int) : ((rdv 1024 32 (-24) (-25) u).1 = 0 ∧ u % 32768 = 0) ∨ ((rdv 1024 32 (-24) (-25) u).1 = 1 ∧ 0 < u % 32768 ∧ u % 32768 < 31744) ∨ ((rdv 1024 32 (-24) (-25) u).1 = 2 ∧ u % 32768 = 31744) ∨ ((rdv 1024 32 (-24) (-25) u).1 = 3 ∧ 31744 < u % 32768) := by
  unfold rdv
  by_cases h1 : u / 1024 % 32 = 32 - 1
  · rw [if_pos h1]
    by_cases h2 : u % 1024 = 0
    · rw [if_pos h2]; refine .inr (.inr (.inl ⟨rfl, ?_⟩)); omega
    · rw [if_neg h2]; refine .inr (.inr (.inr ⟨rfl, ?_⟩)); omega
  · rw [if_neg h1]
    by_cases h2 : u / 1024 % 32 = 0
    · rw [if_pos h2]
      by_cases h3 : u % 1024 = 0
      · rw [if_pos h3]; refine .inl ⟨rfl, ?_⟩; omega
      · rw [if_neg h3]; refine .inr (.inl ⟨rfl, ?_, ?_⟩) <;> omega
    · rw [if_neg h2]; refine .inr (.inl ⟨rfl, ?_, ?_⟩) <;> omega
theorem wnj_2 (up : Bool) (y : Int) (h0 : -31744 ≤ y) (h1 : y ≤ 31744) : V2 (nj 32768 up y) ∧ plc 32768 (wd (nj 32768 up y)) = y ∧ wd (nj 32768 up y) % 32768 ≤ 31744 := by
  unfold V2 nj
  by_cases c : y < 0
  · have e1 : wrap64 (-y) = -y := w64_id (by omega) (by omega)
    rw [if_pos c, e1]
    have e2 : wd (wrap64 (32768 + -y)) = 32768 - y := by unfold wd wrap64; omega
    refine ⟨by unfold wrap64; omega, ?_, by rw [e2]; omega⟩
    unfold plc
    rw [e2, if_pos (by omega)]
    have e3 : (32768 - y) % 32768 = -y := by omega
    rw [e3, Int.neg_neg]; exact w64_id (by omega) (by omega)
  · rw [if_neg c]
    by_cases c0 : y = 0
    · rw [if_pos c0]
      subst c0
      cases up with
      | true => exact ⟨by decide +kernel, by decide +kernel, by decide +kernel⟩
      | false => exact ⟨by decide +kernel, by decide +kernel, by decide +kernel⟩
    · rw [if_neg c0]
      have e2 : wd y = y := by unfold wd; omega
      refine ⟨by omega, ?_, by rw [e2]; omega⟩
      unfold plc
      rw [e2, if_neg (by omega)]; omega
theorem nk_2 : NK V2 2 11 5 32768 1024 32 (-24) (-25) 31744 where
  e0 := by decide
  e1 := by decide
  eT := by decide
  two := fun k a b ha hb => two_2 k 0 a b (by decide) (by decide) ha.1 ha.2 hb.1 hb.2
  pla := fun a => by rw [show float_shape_place.f 11 5 a = _ from pk_2.pla a]; rfl
  top := by kernel_rfl
  fin := by kernel_rfl
  p0 := by decide +kernel
  j1 := fun k up x h0 h1 => j1_2 k up x h0 h1
  vn := fun up y h0 h1 => by
    obtain ⟨a1, a2, a3⟩ := wnj_2 up y h0 h1
    refine ⟨a1, a2, ?_⟩
    rcases rdc_2 (wd (nj 32768 up y)) with h | h | h | h <;> omega
  c1 := fun a ha h => by
    have hw := wd_bd a
    have ha' : 0 ≤ a ∧ a < 65536 := ha
    have h' : 0 < wd a % 32768 ∧ wd a % 32768 < 31744 := by rcases rdc_2 (wd a) with g | g | g | g <;> omega
    have hwa : wd a = a % 18446744073709551616 := rfl
    unfold plc
    by_cases c : wd a / 32768 % 2 = 1
    · rw [if_pos c, w64_id (n := -(wd a % 32768)) (by omega) (by omega)]
      refine ⟨by omega, by omega, fun up => ?_⟩
      unfold nj
      rw [if_pos (by omega), Int.neg_neg, w64_id (n := wd a % 32768) (by omega) (by omega)]
      unfold wrap64; omega
    · rw [if_neg c]
      refine ⟨by omega, by omega, fun up => ?_⟩
      unfold nj
      rw [if_neg (by omega), if_neg (by omega)]
      omega
  cs := fun u => by rcases rdc_2 u with h | h | h | h <;> omega
  cmp := fun k a b ha hb h1 h2 => by
    unfold float_Compare.f
    rw [show k + 6 = (k + 3) + 3 from rfl, show float_two.f (k + 3 + 3) 2 0 a b = _ from two_2 (k + 3) 0 a b (by decide) (by decide) ha.1 ha.2 hb.1 hb.2, bs]
    have hok : (twv 11 5 (rdv 1024 32 (-24) (-25) (wd a)) (rdv 1024 32 (-24) (-25) (wd b))).2.2.2.2.2.2.2.2.2.2 = true := by simp only [twv, rdv_ok]; rfl
    rw [if_pos hok, if_neg (show ¬ (twv 11 5 (rdv 1024 32 (-24) (-25) (wd a)) (rdv 1024 32 (-24) (-25) (wd b))).2.2.1 = 3 from h1)]
    simp only [twv]
    rw [show ((rdv 1024 32 (-24) (-25) (wd b)).1 == 3) = false by simpa using h2]
    exact pcmp_j0 pk_2 (k + 4) a b _ _ _ _ _ _ _ _ (more_2 (wd a)).2 (more_2 (wd b)).2

def V4 (a : Int) : Prop := 0 ≤ a ∧ a < 4294967296
theorem rdc_4 (u : Int) : ((rdv 8388608 256 (-149) (-150) u).1 = 0 ∧ u % 2147483648 = 0) ∨ ((rdv 8388608 256 (-149) (-150) u).1 = 1 ∧ 0 < u % 2147483648 ∧ u % 2147483648 < 2139095040) ∨ ((rdv 8388608 256 (-149) (-150) u).1 = 2 ∧ u % 2147483648 = 2139095040) ∨ ((rdv 8388608 256 (-149) (-150) u).1 = 3 ∧ 2139095040 < u % 2147483648) := by
  unfold rdv
  by_cases h1 : u / 8388608 % 256 = 256 - 1
  · rw [if_pos h1]
    by_cases h2 : u % 8388608 = 0
    · rw [if_pos h2]; refine .inr (.inr (.inl ⟨rfl, ?_⟩)); omega
    · rw [if_neg h2]; refine .inr (.inr (.inr ⟨rfl, ?_⟩)); omega
  · rw [if_neg h1]
    by_cases h2 : u / 8388608 % 256 = 0
    · rw [if_pos h2]
      by_cases h3 : u % 8388608 = 0
      · rw [if_pos h3]; refine .inl ⟨rfl, ?_⟩; omega
      · rw [if_neg h3]; refine .inr (.inl ⟨rfl, ?_, ?_⟩) <;> omega
    · rw [if_neg h2]; refine .inr (.inl ⟨rfl, ?_, ?_⟩) <;> omega
theorem wnj_4 (up : Bool) (y : Int) (h0 : -2139095040 ≤ y) (h1 : y ≤ 2139095040) : V4 (nj 2147483648 up y) ∧ plc 2147483648 (wd (nj 2147483648 up y)) = y ∧ wd (nj 2147483648 up y) % 2147483648 ≤ 2139095040 := by
  unfold V4 nj
  by_cases c : y < 0
  · have e1 : wrap64 (-y) = -y := w64_id (by omega) (by omega)
    rw [if_pos c, e1]
    have e2 : wd (wrap64 (2147483648 + -y)) = 2147483648 - y := by unfold wd wrap64; omega
    refine ⟨by unfold wrap64; omega, ?_, by rw [e2]; omega⟩
    unfold plc
    rw [e2, if_pos (by omega)]
    have e3 : (2147483648 - y) % 2147483648 = -y := by omega
    rw [e3, Int.neg_neg]; exact w64_id (by omega) (by omega)
  · rw [if_neg c]
    by_cases c0 : y = 0
    · rw [if_pos c0]
      subst c0
      cases up with
      | true => exact ⟨by decide +kernel, by decide +kernel, by decide +kernel⟩
      | false => exact ⟨by decide +kernel, by decide +kernel, by decide +kernel⟩
    · rw [if_neg c0]
      have e2 : wd y = y := by unfold wd; omega
      refine ⟨by omega, ?_, by rw [e2]; omega⟩
      unfold plc
      rw [e2, if_neg (by omega)]; omega
theorem nk_4 : NK V4 4 24 8 2147483648 8388608 256 (-149) (-150) 2139095040 where
  e0 := by decide
  e1 := by decide
  eT := by decide
  two := fun k a b ha hb => two_4 k 0 a b (by decide) (by decide) ha.1 ha.2 hb.1 hb.2
  pla := fun a => by rw [show float_shape_place.f 24 8 a = _ from pk_4.pla a]; rfl
  top := by kernel_rfl
  fin := by kernel_rfl
  p0 := by decide +kernel
  j1 := fun k up x h0 h1 => j1_4 k up x h0 h1
  vn := fun up y h0 h1 => by
    obtain ⟨a1, a2, a3⟩ := wnj_4 up y h0 h1
    refine ⟨a1, a2, ?_⟩
    rcases rdc_4 (wd (nj 2147483648 up y)) with h | h | h | h <;> omega
  c1 := fun a ha h => by
    have hw := wd_bd a
    have ha' : 0 ≤ a ∧ a < 4294967296 := ha
    have h' : 0 < wd a % 2147483648 ∧ wd a % 2147483648 < 2139095040 := by rcases rdc_4 (wd a) with g | g | g | g <;> omega
    have hwa : wd a = a % 18446744073709551616 := rfl
    unfold plc
    by_cases c : wd a / 2147483648 % 2 = 1
    · rw [if_pos c, w64_id (n := -(wd a % 2147483648)) (by omega) (by omega)]
      refine ⟨by omega, by omega, fun up => ?_⟩
      unfold nj
      rw [if_pos (by omega), Int.neg_neg, w64_id (n := wd a % 2147483648) (by omega) (by omega)]
      unfold wrap64; omega
    · rw [if_neg c]
      refine ⟨by omega, by omega, fun up => ?_⟩
      unfold nj
      rw [if_neg (by omega), if_neg (by omega)]
      omega
  cs := fun u => by rcases rdc_4 u with h | h | h | h <;> omega
  cmp := fun k a b ha hb h1 h2 => by
    unfold float_Compare.f
    rw [show k + 6 = (k + 3) + 3 from rfl, show float_two.f (k + 3 + 3) 4 0 a b = _ from two_4 (k + 3) 0 a b (by decide) (by decide) ha.1 ha.2 hb.1 hb.2, bs]
    have hok : (twv 24 8 (rdv 8388608 256 (-149) (-150) (wd a)) (rdv 8388608 256 (-149) (-150) (wd b))).2.2.2.2.2.2.2.2.2.2 = true := by simp only [twv, rdv_ok]; rfl
    rw [if_pos hok, if_neg (show ¬ (twv 24 8 (rdv 8388608 256 (-149) (-150) (wd a)) (rdv 8388608 256 (-149) (-150) (wd b))).2.2.1 = 3 from h1)]
    simp only [twv]
    rw [show ((rdv 8388608 256 (-149) (-150) (wd b)).1 == 3) = false by simpa using h2]
    exact pcmp_j0 pk_4 (k + 4) a b _ _ _ _ _ _ _ _ (more_4 (wd a)).2 (more_4 (wd b)).2

def V8 (a : Int) : Prop := -9223372036854775808 ≤ a ∧ a < 9223372036854775808
theorem rdc_8 (u : Int) : ((rdv 4503599627370496 2048 (-1074) (-1075) u).1 = 0 ∧ u % 9223372036854775808 = 0) ∨ ((rdv 4503599627370496 2048 (-1074) (-1075) u).1 = 1 ∧ 0 < u % 9223372036854775808 ∧ u % 9223372036854775808 < 9218868437227405312) ∨ ((rdv 4503599627370496 2048 (-1074) (-1075) u).1 = 2 ∧ u % 9223372036854775808 = 9218868437227405312) ∨ ((rdv 4503599627370496 2048 (-1074) (-1075) u).1 = 3 ∧ 9218868437227405312 < u % 9223372036854775808) := by
  unfold rdv
  by_cases h1 : u / 4503599627370496 % 2048 = 2048 - 1
  · rw [if_pos h1]
    by_cases h2 : u % 4503599627370496 = 0
    · rw [if_pos h2]; refine .inr (.inr (.inl ⟨rfl, ?_⟩)); omega
    · rw [if_neg h2]; refine .inr (.inr (.inr ⟨rfl, ?_⟩)); omega
  · rw [if_neg h1]
    by_cases h2 : u / 4503599627370496 % 2048 = 0
    · rw [if_pos h2]
      by_cases h3 : u % 4503599627370496 = 0
      · rw [if_pos h3]; refine .inl ⟨rfl, ?_⟩; omega
      · rw [if_neg h3]; refine .inr (.inl ⟨rfl, ?_, ?_⟩) <;> omega
    · rw [if_neg h2]; refine .inr (.inl ⟨rfl, ?_, ?_⟩) <;> omega
theorem wnj_8 (up : Bool) (y : Int) (h0 : -9218868437227405312 ≤ y) (h1 : y ≤ 9218868437227405312) : V8 (nj 9223372036854775808 up y) ∧ plc 9223372036854775808 (wd (nj 9223372036854775808 up y)) = y ∧ wd (nj 9223372036854775808 up y) % 9223372036854775808 ≤ 9218868437227405312 := by
  unfold V8 nj
  by_cases c : y < 0
  · have e1 : wrap64 (-y) = -y := w64_id (by omega) (by omega)
    rw [if_pos c, e1]
    have e2 : wd (wrap64 (9223372036854775808 + -y)) = 9223372036854775808 - y := by unfold wd wrap64; omega
    refine ⟨by unfold wrap64; omega, ?_, by rw [e2]; omega⟩
    unfold plc
    rw [e2, if_pos (by omega)]
    have e3 : (9223372036854775808 - y) % 9223372036854775808 = -y := by omega
    rw [e3, Int.neg_neg]; exact w64_id (by omega) (by omega)
  · rw [if_neg c]
    by_cases c0 : y = 0
    · rw [if_pos c0]
      subst c0
      cases up with
      | true => exact ⟨by decide +kernel, by decide +kernel, by decide +kernel⟩
      | false => exact ⟨by decide +kernel, by decide +kernel, by decide +kernel⟩
    · rw [if_neg c0]
      have e2 : wd y = y := by unfold wd; omega
      refine ⟨by omega, ?_, by rw [e2]; omega⟩
      unfold plc
      rw [e2, if_neg (by omega)]; omega
theorem nk_8 : NK V8 8 53 11 9223372036854775808 4503599627370496 2048 (-1074) (-1075) 9218868437227405312 where
  e0 := by decide
  e1 := by decide
  eT := by decide
  two := fun k a b ha hb => two_8 k 0 a b (by decide) (by decide)
  pla := fun a => by rw [show float_shape_place.f 53 11 a = _ from pk_8.pla a]; rfl
  top := by kernel_rfl
  fin := by kernel_rfl
  p0 := by decide +kernel
  j1 := fun k up x h0 h1 => j1_8 k up x h0 h1
  vn := fun up y h0 h1 => by
    obtain ⟨a1, a2, a3⟩ := wnj_8 up y h0 h1
    refine ⟨a1, a2, ?_⟩
    rcases rdc_8 (wd (nj 9223372036854775808 up y)) with h | h | h | h <;> omega
  c1 := fun a ha h => by
    have hw := wd_bd a
    have ha' : -9223372036854775808 ≤ a ∧ a < 9223372036854775808 := ha
    have h' : 0 < wd a % 9223372036854775808 ∧ wd a % 9223372036854775808 < 9218868437227405312 := by rcases rdc_8 (wd a) with g | g | g | g <;> omega
    have hwa : wd a = a % 18446744073709551616 := rfl
    unfold plc
    by_cases c : wd a / 9223372036854775808 % 2 = 1
    · rw [if_pos c, w64_id (n := -(wd a % 9223372036854775808)) (by omega) (by omega)]
      refine ⟨by omega, by omega, fun up => ?_⟩
      unfold nj
      rw [if_pos (by omega), Int.neg_neg, w64_id (n := wd a % 9223372036854775808) (by omega) (by omega)]
      unfold wrap64; omega
    · rw [if_neg c]
      refine ⟨by omega, by omega, fun up => ?_⟩
      unfold nj
      rw [if_neg (by omega), if_neg (by omega)]
      omega
  cs := fun u => by rcases rdc_8 u with h | h | h | h <;> omega
  cmp := fun k a b ha hb h1 h2 => by
    unfold float_Compare.f
    rw [show k + 6 = (k + 3) + 3 from rfl, show float_two.f (k + 3 + 3) 8 0 a b = _ from two_8 (k + 3) 0 a b (by decide) (by decide), bs]
    have hok : (twv 53 11 (rdv 4503599627370496 2048 (-1074) (-1075) (wd a)) (rdv 4503599627370496 2048 (-1074) (-1075) (wd b))).2.2.2.2.2.2.2.2.2.2 = true := by simp only [twv, rdv_ok]; rfl
    rw [if_pos hok, if_neg (show ¬ (twv 53 11 (rdv 4503599627370496 2048 (-1074) (-1075) (wd a)) (rdv 4503599627370496 2048 (-1074) (-1075) (wd b))).2.2.1 = 3 from h1)]
    simp only [twv]
    rw [show ((rdv 4503599627370496 2048 (-1074) (-1075) (wd b)).1 == 3) = false by simpa using h2]
    exact pcmp_j0 pk_8 (k + 4) a b _ _ _ _ _ _ _ _ (more_8 (wd a)).2 (more_8 (wd b)).2

theorem FloatSteps (kind a : Int) (h0 : -9223372036854775808 ≤ a) (h1 : a < 9223372036854775808) : ∃ k, quadratlaw01_FloatSteps.f k kind a = some true := by
  refine ⟨300, ?_⟩
  by_cases h2 : kind = 2
  · subst h2
    by_cases hV : 0 ≤ a ∧ a < 65536
    · exact steps_all nk_2 190 a hV
    · obtain ⟨x1, x2, x3, x4, y1, y2, y3, y4, ht⟩ := two_bad_2 297 0 a a (by decide) (by decide) h0 h1 h0 h1 (.inl hV)
      exact steps_bad 199 2 a ⟨_, _, _, _, _, _, _, _, _, _, ht⟩
  by_cases h4 : kind = 4
  · subst h4
    by_cases hV : 0 ≤ a ∧ a < 4294967296
    · exact steps_all nk_4 190 a hV
    · obtain ⟨x1, x2, x3, x4, y1, y2, y3, y4, ht⟩ := two_bad_4 297 0 a a (by decide) (by decide) h0 h1 h0 h1 (.inl hV)
      exact steps_bad 199 4 a ⟨_, _, _, _, _, _, _, _, _, _, ht⟩
  by_cases h8 : kind = 8
  · subst h8; exact steps_all nk_8 190 a ⟨h0, h1⟩
  exact steps_bad 199 kind a ⟨_, _, _, _, _, _, _, _, _, _, two_none 300 kind 0 a a h2 h4 h8⟩
end Go.Proofs.Ytgpnmifejgdipaa.Pf
