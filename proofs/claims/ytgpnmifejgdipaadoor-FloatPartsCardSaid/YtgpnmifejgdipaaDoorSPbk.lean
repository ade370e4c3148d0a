/-
  A float rounds to itself; what a word's fields are, and the float of given fields (printed by gen_bk.py). By the session's own hand.
-/
import Derived.Test.YtgpnmifejgdipaaDoorSPk
import Derived.Test.YtgpnmifejgdipaaDoorSPl
import Derived.Test.YtgpnmifejgdipaaDoorDf
set_option linter.unusedVariables false
set_option linter.unusedSimpArgs false
namespace Go.Proofs.YtgpnmifejgdipaaDoor.Pf
open Go.RowKit Go.Proofs.YtgpnmifejgdipaaDoor.My Go.Proofs.YtgpnmifejgdipaaDoor.RM Go.Proofs.YtgpnmifejgdipaaDoorW.PrintWords Go.Proofs.YtgpnmifejgdipaaDoorW.PrintLast Go.Proofs.YtgpnmifejgdipaaDoorW.PrintMore

/-- N * 2^e is m * 2^x. -/
def Eqv (N : Nat) (e : Int) (m : Nat) (x : Int) : Prop := (x ≤ e ∧ m = N * 2 ^ (e - x).toNat) ∨ (e ≤ x ∧ N = m * 2 ^ (x - e).toNat)
/-- The fields of a float with the digits m and the exponent x. -/
def fl (p : Nat) (bias : Int) (m : Nat) (x : Int) : Int × Nat × Int := if m < 2 ^ (p - 1) then (0, m, 0) else (x + p - 1 + bias, m - 2 ^ (p - 1), 0)
theorem cls_z0 (k : Nat) : cls 0 k false = 0 := by unfold cls; simp
theorem away_z0 (mode s : Int) (b : Bool) : away mode s b 0 = false := by
  unfold away; simp
theorem R_exact (p : Nat) (hp : 1 ≤ p) (bias mode s : Int) (N : Nat) (e : Int) (m : Nat) (x : Int) (hm0 : m ≠ 0) (hm : m < 2 ^ p) (h0 : 2 - bias - p ≤ x) (h1 : x ≤ bias + 1 - p) (hl : m < 2 ^ (p - 1) → x = 2 - bias - p) (h : Eqv N e m x) :
    R p bias mode s N e false = fl p bias m x := by
  have hN : N ≠ 0 := by
    rcases h with ⟨_, h⟩ | ⟨_, h⟩
    · rintro rfl; simp at h; exact hm0 h
    · rw [h]; exact Nat.mul_ne_zero hm0 (Nat.pos_iff_ne_zero.1 (Nat.two_pow_pos _))
  have hb : e + (blen N : Int) = x + blen m := by
    rcases h with ⟨a, h⟩ | ⟨a, h⟩
    · rw [h, blen_mul_pow hN]; push_cast; omega
    · rw [h, blen_mul_pow hm0]; push_cast; omega
  have hmb : blen m ≤ p := blen_le.2 hm
  have hq : quant p (2 - bias - p) N e = x := by
    unfold quant
    rw [hb]
    by_cases c : m < 2 ^ (p - 1)
    · have := hl c; omega
    · have : p - 1 < blen m := lt_blen.2 (by omega)
      omega
  have hs : spl N e x false = (m, 0) := by
    unfold spl
    by_cases c : x ≤ e
    · rw [if_pos c]
      rcases h with ⟨a, h⟩ | ⟨a, h⟩
      · rw [h]; rfl
      · have : x = e := by omega
        subst this
        rw [h]; simp
    · rw [if_neg c]
      rcases h with ⟨a, h⟩ | ⟨a, h⟩
      · omega
      · rw [h, Nat.mul_div_cancel _ (Nat.two_pow_pos _), Nat.mul_mod_left, cls_z0]
  unfold R
  rw [hq]
  dsimp only
  rw [hs]
  unfold fin fl
  dsimp only
  rw [away_z0]
  simp only [Bool.false_eq_true, if_false, Nat.lt_irrefl]
  rw [if_neg (show ¬ m = 2 ^ p by omega), if_neg (show ¬ m = 2 ^ p by omega)]
  by_cases c : m < 2 ^ (p - 1)
  · rw [if_pos c, if_pos c]
  · rw [if_neg c, if_neg c, if_pos (by omega)]
/-- A kind's words and their fields. -/
structure BK (V : Int → Prop) (kind : Int) (p : Nat) (w bias T P W l o : Int) : Prop where
  pkk : PK p w bias T
  two : ∀ (k : Nat) (mode a b : Int), 0 ≤ mode → mode < 4 → V a → V b → float_two.f (k + 3) kind mode a b = some (twv p w (rdv P W l o (wd a)) (rdv P W l o (wd b)))
  of : float_of.f kind = some ((p : Int), w, true)
  view : ∀ a : Int, Vw p bias (rdv P W l o (wd a)) (tkv P W l o (wd a))
  wrd : ∀ (a : Int) (s : Int) (m : Nat) (x : Int), V a → rdv P W l o (wd a) = (1, s, (m : Int), x, true) → ∀ z, (pk p T s (fl p bias m x)).1 = z → z = a
  inf : ∀ (a : Int) (s z c : Int) , V a → rdv P W l o (wd a) = (2, s, z, c, true) → wrap64 (s * T + (2 * bias + 1) * ((2 ^ (p - 1) : Nat) : Int) + 0) = a
  zer : ∀ (a : Int) (s z c : Int) , V a → rdv P W l o (wd a) = (0, s, z, c, true) → wrap64 (s * T) = a
  rd : ∀ (s : Int) (m : Nat) (x : Int), (s = 0 ∨ s = 1) → m ≠ 0 → m < 2 ^ p → 2 - bias - p ≤ x → x ≤ bias + 1 - p → (m < 2 ^ (p - 1) → x = 2 - bias - p) → V (pk p T s (fl p bias m x)).1 ∧ rdv P W l o (wd (pk p T s (fl p bias m x)).1) = (1, s, (m : Int), x, true)
  rinf : ∀ s : Int, (s = 0 ∨ s = 1) → V (wrap64 (s * T + (2 * bias + 1) * ((2 ^ (p - 1) : Nat) : Int) + 0)) ∧ rdv P W l o (wd (wrap64 (s * T + (2 * bias + 1) * ((2 ^ (p - 1) : Nat) : Int) + 0))) = (2, s, 0, 0, true)
  rzer : ∀ s : Int, (s = 0 ∨ s = 1) → V (wrap64 (s * T)) ∧ rdv P W l o (wd (wrap64 (s * T))) = (0, s, 0, 0, true)
  rqui : V (qn p bias) ∧ rdv P W l o (wd (qn p bias)) = (3, 0, 0, 0, true)

def U2 (a : Int) : Prop := 0 ≤ a ∧ a < 65536
theorem spl_2 (u : Int) : u / (1024 * 32) % 2 = u / 32768 % 2 ∧ u / 1024 % 32 = u % 32768 / 1024 ∧ u % 1024 = u % 32768 % 1024 := by
  have : (1024 : Int) * 32 = 32768 := by decide
  rw [this]; omega
theorem rdi_2 (u s m x : Int) (h : rdv 1024 32 (-24) (-25) u = (1, s, m, x, true)) : s = u / 32768 % 2 ∧ u % 32768 = (if m < 1024 then m else (x - (-25)) * 1024 + (m - 1024)) ∧ (m < 1024 → 0 < m) ∧ (¬ m < 1024 → m < 2048) := by
  obtain ⟨h1, h2, h3⟩ := spl_2 u
  unfold rdv at h
  rw [h1, h2, h3] at h
  dsimp only at h
  by_cases c1 : u % 32768 / 1024 = 32 - 1
  · rw [if_pos c1] at h
    by_cases c2 : u % 32768 % 1024 = 0
    · rw [if_pos c2] at h; simp at h
    · rw [if_neg c2] at h; simp at h
  · rw [if_neg c1] at h
    by_cases c0 : u % 32768 / 1024 = 0
    · rw [if_pos c0] at h
      by_cases c2 : u % 32768 % 1024 = 0
      · rw [if_pos c2] at h; simp at h
      · rw [if_neg c2] at h
        simp only [Prod.mk.injEq, true_and, and_true] at h
        obtain ⟨rfl, rfl, rfl⟩ := h
        refine ⟨rfl, ?_, fun _ => by omega, fun _ => by omega⟩
        rw [if_pos (by omega)]; omega
    · rw [if_neg c0] at h
      simp only [Prod.mk.injEq, true_and, and_true] at h
      obtain ⟨rfl, rfl, rfl⟩ := h
      refine ⟨rfl, ?_, fun _ => by omega, fun _ => by omega⟩
      rw [if_neg (by omega)]; omega
theorem rdj_2 (u E F : Int) (h0 : 0 ≤ E) (h1 : E < 32) (h2 : 0 ≤ F) (h3 : F < 1024) (h : u % 32768 = E * 1024 + F) : rdv 1024 32 (-24) (-25) u = if E = 32 - 1 then (if F = 0 then (2, u / 32768 % 2, 0, 0, true) else (3, u / 32768 % 2, 0, 0, true)) else if E = 0 then (if F = 0 then (0, u / 32768 % 2, 0, 0, true) else (1, u / 32768 % 2, F, -24, true)) else (1, u / 32768 % 2, F + 1024, E + (-25), true) := by
  obtain ⟨g1, g2, g3⟩ := spl_2 u
  unfold rdv
  rw [g1, g2, g3]
  have e1 : u % 32768 / 1024 = E := by omega
  have e2 : u % 32768 % 1024 = F := by omega
  rw [e1, e2]
theorem wtd_2 (s E F : Int) (hs : s = 0 ∨ s = 1) (h0 : 0 ≤ E) (h1 : E < 32) (h2 : 0 ≤ F) (h3 : F < 1024) : U2 (wrap64 (s * 32768 + E * 1024 + F)) ∧ wd (wrap64 (s * 32768 + E * 1024 + F)) / 32768 % 2 = s ∧ wd (wrap64 (s * 32768 + E * 1024 + F)) % 32768 = E * 1024 + F := by
  unfold U2 wd wrap64
  rcases hs with rfl | rfl <;> refine ⟨?_, ?_, ?_⟩ <;> omega
theorem bk_2 : BK U2 2 11 5 15 32768 1024 32 (-24) (-25) where
  pkk := pk_2
  two := fun k mode a b m0 m1 ha hb => two_2 k mode a b m0 m1 ha.1 ha.2 hb.1 hb.2
  of := by kernel_rfl
  view := fun a => view_2 (wd a) (wd_bd a).1 (wd_bd a).2
  wrd := fun a s m x ha h z hz => by
    obtain ⟨h1, h2, h3, h4⟩ := rdi_2 _ _ _ _ h
    have hv : Vw 11 15 _ _ := view_2 (wd a) (wd_bd a).1 (wd_bd a).2
    rw [h] at hv
    have hp1 : (2 : Nat) ^ (11 - 1) = 1024 := by decide
    have hx : (m : Int) < 1024 ∨ (x - (-25) = x + (11 : Nat) - 1 + 15) := by right; omega
    unfold pk fl at hz
    rw [hp1] at hz
    have hr := wd_bd a
    have hwa : wd a = a % 18446744073709551616 := rfl
    have ha' : 0 ≤ a ∧ a < 65536 := ha
    subst hz
    by_cases c : m < 1024
    · rw [if_pos c]
      rw [if_pos (by omega)] at h2
      dsimp only
      unfold wrap64
      omega
    · rw [if_neg c]
      rw [if_neg (by omega)] at h2
      dsimp only
      have e1 : ((m - 1024 : Nat) : Int) = (m : Int) - 1024 := by omega
      have e2 : x + ((11 : Nat) : Int) - 1 + 15 = x - (-25) := by omega
      rw [e1, e2]
      have e3 : ((1024 : Nat) : Int) = 1024 := by decide
      rw [e3]
      unfold wrap64
      omega
  inf := fun a s z c ha h => by
    obtain ⟨h1, h2, h3⟩ := spl_2 (wd a)
    have hr := wd_bd a
    have hwa : wd a = a % 18446744073709551616 := rfl
    have ha' : 0 ≤ a ∧ a < 65536 := ha
    have hp1 : (2 * (15 : Int) + 1) * (((2 : Nat) ^ (11 - 1) : Nat) : Int) = 31744 := by decide +kernel
    rw [hp1]
    have g : s = wd a / 32768 % 2 ∧ wd a % 32768 = 31744 := by
      unfold rdv at h
      rw [h1, h2, h3] at h
      dsimp only at h
      by_cases c1 : wd a % 32768 / 1024 = 32 - 1
      · rw [if_pos c1] at h
        by_cases c2 : wd a % 32768 % 1024 = 0
        · rw [if_pos c2] at h; simp only [Prod.mk.injEq, true_and, and_true] at h; omega
        · rw [if_neg c2] at h; simp at h
      · rw [if_neg c1] at h
        by_cases c0 : wd a % 32768 / 1024 = 0
        · rw [if_pos c0] at h
          by_cases c2 : wd a % 32768 % 1024 = 0
          · rw [if_pos c2] at h; simp at h
          · rw [if_neg c2] at h; simp at h
        · rw [if_neg c0] at h; simp at h
    unfold wrap64; omega
  zer := fun a s z c ha h => by
    obtain ⟨h1, h2, h3⟩ := spl_2 (wd a)
    have hr := wd_bd a
    have hwa : wd a = a % 18446744073709551616 := rfl
    have ha' : 0 ≤ a ∧ a < 65536 := ha
    have g : s = wd a / 32768 % 2 ∧ wd a % 32768 = 0 := by
      unfold rdv at h
      rw [h1, h2, h3] at h
      dsimp only at h
      by_cases c1 : wd a % 32768 / 1024 = 32 - 1
      · rw [if_pos c1] at h
        by_cases c2 : wd a % 32768 % 1024 = 0
        · rw [if_pos c2] at h; simp at h
        · rw [if_neg c2] at h; simp at h
      · rw [if_neg c1] at h
        by_cases c0 : wd a % 32768 / 1024 = 0
        · rw [if_pos c0] at h
          by_cases c2 : wd a % 32768 % 1024 = 0
          · rw [if_pos c2] at h; simp only [Prod.mk.injEq, true_and, and_true] at h; omega
          · rw [if_neg c2] at h; simp at h
        · rw [if_neg c0] at h; simp at h
    unfold wrap64; omega
  rd := fun s m x hs h0 h1 h2 h3 h4 => by
    have hp1 : (2 : Nat) ^ (11 - 1) = 1024 := by decide
    have hp2 : (2 : Nat) ^ 11 = 2048 := by decide
    have e3 : ((1024 : Nat) : Int) = 1024 := by decide
    rw [hp1] at h4
    rw [hp2] at h1
    unfold pk fl
    rw [hp1]
    by_cases c : m < 1024
    · rw [if_pos c]
      dsimp only
      rw [e3]
      obtain ⟨g1, g2, g3⟩ := wtd_2 s 0 m hs (by decide) (by decide) (by omega) (by omega)
      refine ⟨g1, ?_⟩
      rw [rdj_2 _ 0 m (by decide) (by decide) (by omega) (by omega) g3, if_neg (by decide), if_pos rfl, if_neg (by omega), g2]
      have := h4 c
      rw [this]; rfl
    · rw [if_neg c]
      dsimp only
      have e1 : ((m - 1024 : Nat) : Int) = (m : Int) - 1024 := by omega
      have e2 : x + ((11 : Nat) : Int) - 1 + 15 = x - (-25) := by omega
      rw [e1, e2, e3]
      obtain ⟨g1, g2, g3⟩ := wtd_2 s (x - (-25)) (m - 1024) hs (by omega) (by omega) (by omega) (by omega)
      refine ⟨g1, ?_⟩
      rw [rdj_2 _ _ _ (by omega) (by omega) (by omega) (by omega) g3, if_neg (by omega), if_neg (by omega), g2, Int.sub_add_cancel]
      have e4 : x - (-25) + (-25) = x := by omega
      rw [e4]
  rinf := fun s hs => by
    have hp1 : (((2 : Nat) ^ (11 - 1) : Nat) : Int) = 1024 := by decide +kernel
    rw [hp1]
    obtain ⟨g1, g2, g3⟩ := wtd_2 s (2 * 15 + 1) 0 hs (by decide) (by decide) (by decide) (by decide)
    refine ⟨g1, ?_⟩
    rw [rdj_2 _ _ _ (by decide) (by decide) (by decide) (by decide) g3, if_pos (by decide), if_pos rfl, g2]
  rzer := fun s hs => by
    obtain ⟨g1, g2, g3⟩ := wtd_2 s 0 0 hs (by decide) (by decide) (by decide) (by decide)
    rw [Int.zero_mul, Int.add_zero, Int.add_zero] at g1 g2 g3
    refine ⟨g1, ?_⟩
    rw [rdj_2 _ 0 0 (by decide) (by decide) (by decide) (by decide) (by rw [g3]; rfl), if_neg (by decide), if_pos rfl, if_pos rfl, g2]
  rqui := ⟨by unfold U2; decide +kernel, by decide +kernel⟩

def U4 (a : Int) : Prop := 0 ≤ a ∧ a < 4294967296
theorem spl_4 (u : Int) : u / (8388608 * 256) % 2 = u / 2147483648 % 2 ∧ u / 8388608 % 256 = u % 2147483648 / 8388608 ∧ u % 8388608 = u % 2147483648 % 8388608 := by
  have : (8388608 : Int) * 256 = 2147483648 := by decide
  rw [this]; omega
theorem rdi_4 (u s m x : Int) (h : rdv 8388608 256 (-149) (-150) u = (1, s, m, x, true)) : s = u / 2147483648 % 2 ∧ u % 2147483648 = (if m < 8388608 then m else (x - (-150)) * 8388608 + (m - 8388608)) ∧ (m < 8388608 → 0 < m) ∧ (¬ m < 8388608 → m < 16777216) := by
  obtain ⟨h1, h2, h3⟩ := spl_4 u
  unfold rdv at h
  rw [h1, h2, h3] at h
  dsimp only at h
  by_cases c1 : u % 2147483648 / 8388608 = 256 - 1
  · rw [if_pos c1] at h
    by_cases c2 : u % 2147483648 % 8388608 = 0
    · rw [if_pos c2] at h; simp at h
    · rw [if_neg c2] at h; simp at h
  · rw [if_neg c1] at h
    by_cases c0 : u % 2147483648 / 8388608 = 0
    · rw [if_pos c0] at h
      by_cases c2 : u % 2147483648 % 8388608 = 0
      · rw [if_pos c2] at h; simp at h
      · rw [if_neg c2] at h
        simp only [Prod.mk.injEq, true_and, and_true] at h
        obtain ⟨rfl, rfl, rfl⟩ := h
        refine ⟨rfl, ?_, fun _ => by omega, fun _ => by omega⟩
        rw [if_pos (by omega)]; omega
    · rw [if_neg c0] at h
      simp only [Prod.mk.injEq, true_and, and_true] at h
      obtain ⟨rfl, rfl, rfl⟩ := h
      refine ⟨rfl, ?_, fun _ => by omega, fun _ => by omega⟩
      rw [if_neg (by omega)]; omega
theorem rdj_4 (u E F : Int) (h0 : 0 ≤ E) (h1 : E < 256) (h2 : 0 ≤ F) (h3 : F < 8388608) (h : u % 2147483648 = E * 8388608 + F) : rdv 8388608 256 (-149) (-150) u = if E = 256 - 1 then (if F = 0 then (2, u / 2147483648 % 2, 0, 0, true) else (3, u / 2147483648 % 2, 0, 0, true)) else if E = 0 then (if F = 0 then (0, u / 2147483648 % 2, 0, 0, true) else (1, u / 2147483648 % 2, F, -149, true)) else (1, u / 2147483648 % 2, F + 8388608, E + (-150), true) := by
  obtain ⟨g1, g2, g3⟩ := spl_4 u
  unfold rdv
  rw [g1, g2, g3]
  have e1 : u % 2147483648 / 8388608 = E := by omega
  have e2 : u % 2147483648 % 8388608 = F := by omega
  rw [e1, e2]
theorem wtd_4 (s E F : Int) (hs : s = 0 ∨ s = 1) (h0 : 0 ≤ E) (h1 : E < 256) (h2 : 0 ≤ F) (h3 : F < 8388608) : U4 (wrap64 (s * 2147483648 + E * 8388608 + F)) ∧ wd (wrap64 (s * 2147483648 + E * 8388608 + F)) / 2147483648 % 2 = s ∧ wd (wrap64 (s * 2147483648 + E * 8388608 + F)) % 2147483648 = E * 8388608 + F := by
  unfold U4 wd wrap64
  rcases hs with rfl | rfl <;> refine ⟨?_, ?_, ?_⟩ <;> omega
theorem bk_4 : BK U4 4 24 8 127 2147483648 8388608 256 (-149) (-150) where
  pkk := pk_4
  two := fun k mode a b m0 m1 ha hb => two_4 k mode a b m0 m1 ha.1 ha.2 hb.1 hb.2
  of := by kernel_rfl
  view := fun a => view_4 (wd a) (wd_bd a).1 (wd_bd a).2
  wrd := fun a s m x ha h z hz => by
    obtain ⟨h1, h2, h3, h4⟩ := rdi_4 _ _ _ _ h
    have hv : Vw 24 127 _ _ := view_4 (wd a) (wd_bd a).1 (wd_bd a).2
    rw [h] at hv
    have hp1 : (2 : Nat) ^ (24 - 1) = 8388608 := by decide
    have hx : (m : Int) < 8388608 ∨ (x - (-150) = x + (24 : Nat) - 1 + 127) := by right; omega
    unfold pk fl at hz
    rw [hp1] at hz
    have hr := wd_bd a
    have hwa : wd a = a % 18446744073709551616 := rfl
    have ha' : 0 ≤ a ∧ a < 4294967296 := ha
    subst hz
    by_cases c : m < 8388608
    · rw [if_pos c]
      rw [if_pos (by omega)] at h2
      dsimp only
      unfold wrap64
      omega
    · rw [if_neg c]
      rw [if_neg (by omega)] at h2
      dsimp only
      have e1 : ((m - 8388608 : Nat) : Int) = (m : Int) - 8388608 := by omega
      have e2 : x + ((24 : Nat) : Int) - 1 + 127 = x - (-150) := by omega
      rw [e1, e2]
      have e3 : ((8388608 : Nat) : Int) = 8388608 := by decide
      rw [e3]
      unfold wrap64
      omega
  inf := fun a s z c ha h => by
    obtain ⟨h1, h2, h3⟩ := spl_4 (wd a)
    have hr := wd_bd a
    have hwa : wd a = a % 18446744073709551616 := rfl
    have ha' : 0 ≤ a ∧ a < 4294967296 := ha
    have hp1 : (2 * (127 : Int) + 1) * (((2 : Nat) ^ (24 - 1) : Nat) : Int) = 2139095040 := by decide +kernel
    rw [hp1]
    have g : s = wd a / 2147483648 % 2 ∧ wd a % 2147483648 = 2139095040 := by
      unfold rdv at h
      rw [h1, h2, h3] at h
      dsimp only at h
      by_cases c1 : wd a % 2147483648 / 8388608 = 256 - 1
      · rw [if_pos c1] at h
        by_cases c2 : wd a % 2147483648 % 8388608 = 0
        · rw [if_pos c2] at h; simp only [Prod.mk.injEq, true_and, and_true] at h; omega
        · rw [if_neg c2] at h; simp at h
      · rw [if_neg c1] at h
        by_cases c0 : wd a % 2147483648 / 8388608 = 0
        · rw [if_pos c0] at h
          by_cases c2 : wd a % 2147483648 % 8388608 = 0
          · rw [if_pos c2] at h; simp at h
          · rw [if_neg c2] at h; simp at h
        · rw [if_neg c0] at h; simp at h
    unfold wrap64; omega
  zer := fun a s z c ha h => by
    obtain ⟨h1, h2, h3⟩ := spl_4 (wd a)
    have hr := wd_bd a
    have hwa : wd a = a % 18446744073709551616 := rfl
    have ha' : 0 ≤ a ∧ a < 4294967296 := ha
    have g : s = wd a / 2147483648 % 2 ∧ wd a % 2147483648 = 0 := by
      unfold rdv at h
      rw [h1, h2, h3] at h
      dsimp only at h
      by_cases c1 : wd a % 2147483648 / 8388608 = 256 - 1
      · rw [if_pos c1] at h
        by_cases c2 : wd a % 2147483648 % 8388608 = 0
        · rw [if_pos c2] at h; simp at h
        · rw [if_neg c2] at h; simp at h
      · rw [if_neg c1] at h
        by_cases c0 : wd a % 2147483648 / 8388608 = 0
        · rw [if_pos c0] at h
          by_cases c2 : wd a % 2147483648 % 8388608 = 0
          · rw [if_pos c2] at h; simp only [Prod.mk.injEq, true_and, and_true] at h; omega
          · rw [if_neg c2] at h; simp at h
        · rw [if_neg c0] at h; simp at h
    unfold wrap64; omega
  rd := fun s m x hs h0 h1 h2 h3 h4 => by
    have hp1 : (2 : Nat) ^ (24 - 1) = 8388608 := by decide
    have hp2 : (2 : Nat) ^ 24 = 16777216 := by decide
    have e3 : ((8388608 : Nat) : Int) = 8388608 := by decide
    rw [hp1] at h4
    rw [hp2] at h1
    unfold pk fl
    rw [hp1]
    by_cases c : m < 8388608
    · rw [if_pos c]
      dsimp only
      rw [e3]
      obtain ⟨g1, g2, g3⟩ := wtd_4 s 0 m hs (by decide) (by decide) (by omega) (by omega)
      refine ⟨g1, ?_⟩
      rw [rdj_4 _ 0 m (by decide) (by decide) (by omega) (by omega) g3, if_neg (by decide), if_pos rfl, if_neg (by omega), g2]
      have := h4 c
      rw [this]; rfl
    · rw [if_neg c]
      dsimp only
      have e1 : ((m - 8388608 : Nat) : Int) = (m : Int) - 8388608 := by omega
      have e2 : x + ((24 : Nat) : Int) - 1 + 127 = x - (-150) := by omega
      rw [e1, e2, e3]
      obtain ⟨g1, g2, g3⟩ := wtd_4 s (x - (-150)) (m - 8388608) hs (by omega) (by omega) (by omega) (by omega)
      refine ⟨g1, ?_⟩
      rw [rdj_4 _ _ _ (by omega) (by omega) (by omega) (by omega) g3, if_neg (by omega), if_neg (by omega), g2, Int.sub_add_cancel]
      have e4 : x - (-150) + (-150) = x := by omega
      rw [e4]
  rinf := fun s hs => by
    have hp1 : (((2 : Nat) ^ (24 - 1) : Nat) : Int) = 8388608 := by decide +kernel
    rw [hp1]
    obtain ⟨g1, g2, g3⟩ := wtd_4 s (2 * 127 + 1) 0 hs (by decide) (by decide) (by decide) (by decide)
    refine ⟨g1, ?_⟩
    rw [rdj_4 _ _ _ (by decide) (by decide) (by decide) (by decide) g3, if_pos (by decide), if_pos rfl, g2]
  rzer := fun s hs => by
    obtain ⟨g1, g2, g3⟩ := wtd_4 s 0 0 hs (by decide) (by decide) (by decide) (by decide)
    rw [Int.zero_mul, Int.add_zero, Int.add_zero] at g1 g2 g3
    refine ⟨g1, ?_⟩
    rw [rdj_4 _ 0 0 (by decide) (by decide) (by decide) (by decide) (by rw [g3]; rfl), if_neg (by decide), if_pos rfl, if_pos rfl, g2]
  rqui := ⟨by unfold U4; decide +kernel, by decide +kernel⟩

def U8 (a : Int) : Prop := -9223372036854775808 ≤ a ∧ a < 9223372036854775808
theorem spl_8 (u : Int) : u / (4503599627370496 * 2048) % 2 = u / 9223372036854775808 % 2 ∧ u / 4503599627370496 % 2048 = u % 9223372036854775808 / 4503599627370496 ∧ u % 4503599627370496 = u % 9223372036854775808 % 4503599627370496 := by
  have : (4503599627370496 : Int) * 2048 = 9223372036854775808 := by decide
  rw [this]; omega
theorem rdi_8 (u s m x : Int) (h : rdv 4503599627370496 2048 (-1074) (-1075) u = (1, s, m, x, true)) : s = u / 9223372036854775808 % 2 ∧ u % 9223372036854775808 = (if m < 4503599627370496 then m else (x - (-1075)) * 4503599627370496 + (m - 4503599627370496)) ∧ (m < 4503599627370496 → 0 < m) ∧ (¬ m < 4503599627370496 → m < 9007199254740992) := by
  obtain ⟨h1, h2, h3⟩ := spl_8 u
  unfold rdv at h
  rw [h1, h2, h3] at h
  dsimp only at h
  by_cases c1 : u % 9223372036854775808 / 4503599627370496 = 2048 - 1
  · rw [if_pos c1] at h
    by_cases c2 : u % 9223372036854775808 % 4503599627370496 = 0
    · rw [if_pos c2] at h; simp at h
    · rw [if_neg c2] at h; simp at h
  · rw [if_neg c1] at h
    by_cases c0 : u % 9223372036854775808 / 4503599627370496 = 0
    · rw [if_pos c0] at h
      by_cases c2 : u % 9223372036854775808 % 4503599627370496 = 0
      · rw [if_pos c2] at h; simp at h
      · rw [if_neg c2] at h
        simp only [Prod.mk.injEq, true_and, and_true] at h
        obtain ⟨rfl, rfl, rfl⟩ := h
        refine ⟨rfl, ?_, fun _ => by omega, fun _ => by omega⟩
        rw [if_pos (by omega)]; omega
    · rw [if_neg c0] at h
      simp only [Prod.mk.injEq, true_and, and_true] at h
      obtain ⟨rfl, rfl, rfl⟩ := h
      refine ⟨rfl, ?_, fun _ => by omega, fun _ => by omega⟩
      rw [if_neg (by omega)]; omega
theorem rdj_8 (u E F : Int) (h0 : 0 ≤ E) (h1 : E < 2048) (h2 : 0 ≤ F) (h3 : F < 4503599627370496) (h : u % 9223372036854775808 = E * 4503599627370496 + F) : rdv 4503599627370496 2048 (-1074) (-1075) u = if E = 2048 - 1 then (if F = 0 then (2, u / 9223372036854775808 % 2, 0, 0, true) else (3, u / 9223372036854775808 % 2, 0, 0, true)) else if E = 0 then (if F = 0 then (0, u / 9223372036854775808 % 2, 0, 0, true) else (1, u / 9223372036854775808 % 2, F, -1074, true)) else (1, u / 9223372036854775808 % 2, F + 4503599627370496, E + (-1075), true) := by
  obtain ⟨g1, g2, g3⟩ := spl_8 u
  unfold rdv
  rw [g1, g2, g3]
  have e1 : u % 9223372036854775808 / 4503599627370496 = E := by omega
  have e2 : u % 9223372036854775808 % 4503599627370496 = F := by omega
  rw [e1, e2]
theorem wtd_8 (s E F : Int) (hs : s = 0 ∨ s = 1) (h0 : 0 ≤ E) (h1 : E < 2048) (h2 : 0 ≤ F) (h3 : F < 4503599627370496) : U8 (wrap64 (s * 9223372036854775808 + E * 4503599627370496 + F)) ∧ wd (wrap64 (s * 9223372036854775808 + E * 4503599627370496 + F)) / 9223372036854775808 % 2 = s ∧ wd (wrap64 (s * 9223372036854775808 + E * 4503599627370496 + F)) % 9223372036854775808 = E * 4503599627370496 + F := by
  unfold U8 wd wrap64
  rcases hs with rfl | rfl <;> refine ⟨?_, ?_, ?_⟩ <;> omega
theorem bk_8 : BK U8 8 53 11 1023 9223372036854775808 4503599627370496 2048 (-1074) (-1075) where
  pkk := pk_8
  two := fun k mode a b m0 m1 ha hb => two_8 k mode a b m0 m1
  of := by kernel_rfl
  view := fun a => view_8 (wd a) (wd_bd a).1 (wd_bd a).2
  wrd := fun a s m x ha h z hz => by
    obtain ⟨h1, h2, h3, h4⟩ := rdi_8 _ _ _ _ h
    have hv : Vw 53 1023 _ _ := view_8 (wd a) (wd_bd a).1 (wd_bd a).2
    rw [h] at hv
    have hp1 : (2 : Nat) ^ (53 - 1) = 4503599627370496 := by decide
    have hx : (m : Int) < 4503599627370496 ∨ (x - (-1075) = x + (53 : Nat) - 1 + 1023) := by right; omega
    unfold pk fl at hz
    rw [hp1] at hz
    have hr := wd_bd a
    have hwa : wd a = a % 18446744073709551616 := rfl
    have ha' : -9223372036854775808 ≤ a ∧ a < 9223372036854775808 := ha
    subst hz
    by_cases c : m < 4503599627370496
    · rw [if_pos c]
      rw [if_pos (by omega)] at h2
      dsimp only
      unfold wrap64
      omega
    · rw [if_neg c]
      rw [if_neg (by omega)] at h2
      dsimp only
      have e1 : ((m - 4503599627370496 : Nat) : Int) = (m : Int) - 4503599627370496 := by omega
      have e2 : x + ((53 : Nat) : Int) - 1 + 1023 = x - (-1075) := by omega
      rw [e1, e2]
      have e3 : ((4503599627370496 : Nat) : Int) = 4503599627370496 := by decide
      rw [e3]
      unfold wrap64
      omega
  inf := fun a s z c ha h => by
    obtain ⟨h1, h2, h3⟩ := spl_8 (wd a)
    have hr := wd_bd a
    have hwa : wd a = a % 18446744073709551616 := rfl
    have ha' : -9223372036854775808 ≤ a ∧ a < 9223372036854775808 := ha
    have hp1 : (2 * (1023 : Int) + 1) * (((2 : Nat) ^ (53 - 1) : Nat) : Int) = 9218868437227405312 := by decide +kernel
    rw [hp1]
    have g : s = wd a / 9223372036854775808 % 2 ∧ wd a % 9223372036854775808 = 9218868437227405312 := by
      unfold rdv at h
      rw [h1, h2, h3] at h
      dsimp only at h
      by_cases c1 : wd a % 9223372036854775808 / 4503599627370496 = 2048 - 1
      · rw [if_pos c1] at h
        by_cases c2 : wd a % 9223372036854775808 % 4503599627370496 = 0
        · rw [if_pos c2] at h; simp only [Prod.mk.injEq, true_and, and_true] at h; omega
        · rw [if_neg c2] at h; simp at h
      · rw [if_neg c1] at h
        by_cases c0 : wd a % 9223372036854775808 / 4503599627370496 = 0
        · rw [if_pos c0] at h
          by_cases c2 : wd a % 9223372036854775808 % 4503599627370496 = 0
          · rw [if_pos c2] at h; simp at h
          · rw [if_neg c2] at h; simp at h
        · rw [if_neg c0] at h; simp at h
    unfold wrap64; omega
  zer := fun a s z c ha h => by
    obtain ⟨h1, h2, h3⟩ := spl_8 (wd a)
    have hr := wd_bd a
    have hwa : wd a = a % 18446744073709551616 := rfl
    have ha' : -9223372036854775808 ≤ a ∧ a < 9223372036854775808 := ha
    have g : s = wd a / 9223372036854775808 % 2 ∧ wd a % 9223372036854775808 = 0 := by
      unfold rdv at h
      rw [h1, h2, h3] at h
      dsimp only at h
      by_cases c1 : wd a % 9223372036854775808 / 4503599627370496 = 2048 - 1
      · rw [if_pos c1] at h
        by_cases c2 : wd a % 9223372036854775808 % 4503599627370496 = 0
        · rw [if_pos c2] at h; simp at h
        · rw [if_neg c2] at h; simp at h
      · rw [if_neg c1] at h
        by_cases c0 : wd a % 9223372036854775808 / 4503599627370496 = 0
        · rw [if_pos c0] at h
          by_cases c2 : wd a % 9223372036854775808 % 4503599627370496 = 0
          · rw [if_pos c2] at h; simp only [Prod.mk.injEq, true_and, and_true] at h; omega
          · rw [if_neg c2] at h; simp at h
        · rw [if_neg c0] at h; simp at h
    unfold wrap64; omega
  rd := fun s m x hs h0 h1 h2 h3 h4 => by
    have hp1 : (2 : Nat) ^ (53 - 1) = 4503599627370496 := by decide
    have hp2 : (2 : Nat) ^ 53 = 9007199254740992 := by decide
    have e3 : ((4503599627370496 : Nat) : Int) = 4503599627370496 := by decide
    rw [hp1] at h4
    rw [hp2] at h1
    unfold pk fl
    rw [hp1]
    by_cases c : m < 4503599627370496
    · rw [if_pos c]
      dsimp only
      rw [e3]
      obtain ⟨g1, g2, g3⟩ := wtd_8 s 0 m hs (by decide) (by decide) (by omega) (by omega)
      refine ⟨g1, ?_⟩
      rw [rdj_8 _ 0 m (by decide) (by decide) (by omega) (by omega) g3, if_neg (by decide), if_pos rfl, if_neg (by omega), g2]
      have := h4 c
      rw [this]; rfl
    · rw [if_neg c]
      dsimp only
      have e1 : ((m - 4503599627370496 : Nat) : Int) = (m : Int) - 4503599627370496 := by omega
      have e2 : x + ((53 : Nat) : Int) - 1 + 1023 = x - (-1075) := by omega
      rw [e1, e2, e3]
      obtain ⟨g1, g2, g3⟩ := wtd_8 s (x - (-1075)) (m - 4503599627370496) hs (by omega) (by omega) (by omega) (by omega)
      refine ⟨g1, ?_⟩
      rw [rdj_8 _ _ _ (by omega) (by omega) (by omega) (by omega) g3, if_neg (by omega), if_neg (by omega), g2, Int.sub_add_cancel]
      have e4 : x - (-1075) + (-1075) = x := by omega
      rw [e4]
  rinf := fun s hs => by
    have hp1 : (((2 : Nat) ^ (53 - 1) : Nat) : Int) = 4503599627370496 := by decide +kernel
    rw [hp1]
    obtain ⟨g1, g2, g3⟩ := wtd_8 s (2 * 1023 + 1) 0 hs (by decide) (by decide) (by decide) (by decide)
    refine ⟨g1, ?_⟩
    rw [rdj_8 _ _ _ (by decide) (by decide) (by decide) (by decide) g3, if_pos (by decide), if_pos rfl, g2]
  rzer := fun s hs => by
    obtain ⟨g1, g2, g3⟩ := wtd_8 s 0 0 hs (by decide) (by decide) (by decide) (by decide)
    rw [Int.zero_mul, Int.add_zero, Int.add_zero] at g1 g2 g3
    refine ⟨g1, ?_⟩
    rw [rdj_8 _ 0 0 (by decide) (by decide) (by decide) (by decide) (by rw [g3]; rfl), if_neg (by decide), if_pos rfl, if_pos rfl, g2]
  rqui := ⟨by unfold U8; decide +kernel, by decide +kernel⟩
end Go.Proofs.YtgpnmifejgdipaaDoor.Pf
