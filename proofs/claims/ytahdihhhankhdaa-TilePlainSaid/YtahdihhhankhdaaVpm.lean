/-
  V: the plain law of chapter 20: numbers and subscripts; what is sorted is one list. By the session's own hand.
-/
import Derived.Test.YtahdihhhankhdaaVpl
set_option linter.unusedVariables false
set_option linter.unusedSimpArgs false
set_option maxRecDepth 100000
set_option linter.all false
set_option linter.unnecessarySimpa false
set_option linter.deprecated false
namespace Go.Proofs.Ytahdihhhankhdaa.V
open Go.Proofs.YtahdihhhankhdaaVY Go.RowKit
theorem numTo_cons (x y : Int) (e s : List Int) : ∀ i, numTo (x :: e) (y :: s) (i + 1) = y + x * numTo e s i
  | 0 => by simp [numTo, prod]
  | i + 1 => by
    rw [numTo, numTo_cons x y e s i, numTo, List.take_succ_cons, prod, List.getD_cons_succ, Int.mul_add, ← Int.add_assoc]
    congr 1
    rw [← Int.mul_assoc, ← Int.mul_assoc, Int.mul_comm x]
/-- subscripts within an extent -/
def Within (e s : List Int) : Prop := s.length = e.length ∧ ∀ i < e.length, 0 ≤ s.getD i 0 ∧ s.getD i 0 < e.getD i 0
theorem within_cons {x y : Int} {e s : List Int} : Within (x :: e) (y :: s) ↔ (0 ≤ y ∧ y < x) ∧ Within e s := by
  unfold Within
  constructor
  · rintro ⟨h1, h2⟩
    exact ⟨h2 0 (by simp), by simpa using h1, fun i hi => by simpa using h2 (i + 1) (by simpa using hi)⟩
  · rintro ⟨h1, h2, h3⟩
    refine ⟨by simp [h2], fun i hi => ?_⟩
    cases i with
    | zero => exact h1
    | succ i => simpa using h3 i (by simpa using hi)
theorem num_subs : ∀ {e s : List Int}, Within e s → subsOf e (numTo e s s.length) = s ∧ 0 ≤ numTo e s s.length ∧ numTo e s s.length < prod e
  | [], [], _ => ⟨rfl, Int.le_refl _, by decide⟩
  | x :: e, y :: s, h => by
    obtain ⟨h1, h2⟩ := within_cons.1 h
    obtain ⟨i1, i2, i3⟩ := num_subs h2
    rw [List.length_cons, numTo_cons, subsOf, prod]
    have hq : (y + x * numTo e s s.length) / x = numTo e s s.length := by
      rw [Int.add_mul_ediv_left _ _ (by omega), Int.ediv_eq_zero_of_lt h1.1 h1.2, Int.zero_add]
    have hr : (y + x * numTo e s s.length) % x = y := by
      rw [Int.add_mul_emod_self_left, Int.emod_eq_of_lt h1.1 h1.2]
    rw [hq, hr, i1]
    have m1 : 0 ≤ x * numTo e s s.length := Int.mul_nonneg (by omega) i2
    have m2 : x * (numTo e s s.length + 1) ≤ x * prod e := Int.mul_le_mul_of_nonneg_left (by omega) (by omega)
    rw [Int.mul_add, Int.mul_one] at m2
    exact ⟨rfl, by omega, by omega⟩
  | [], y :: s, h => by have := h.1; simp at this
  | x :: e, [], h => by have := h.1; simp at this
theorem subs_within : ∀ {e : List Int} {k : Int}, (∀ x ∈ e, 1 ≤ x) → 0 ≤ k → k < prod e → Within e (subsOf e k) ∧ numTo e (subsOf e k) (subsOf e k).length = k
  | [], k, _, h0, h1 => ⟨⟨rfl, fun i hi => absurd hi (Nat.not_lt_zero _)⟩, by simp only [prod] at h1; simp only [subsOf, numTo, List.length_nil]; omega⟩
  | x :: e, k, he, h0, h1 => by
    have hx := he x (List.mem_cons_self ..)
    rw [prod] at h1
    have hq : k / x < prod e := by
      rw [Int.ediv_lt_iff_lt_mul (by omega), Int.mul_comm]; exact h1
    obtain ⟨i1, i2⟩ := subs_within (k := k / x) (fun a ha => he a (List.mem_cons_of_mem _ ha)) (Int.ediv_nonneg h0 (by omega)) hq
    rw [subsOf, List.length_cons, numTo_cons, i2]
    refine ⟨within_cons.2 ⟨⟨Int.emod_nonneg _ (by omega), Int.emod_lt_of_pos _ (by omega)⟩, i1⟩, ?_⟩
    have := Int.emod_add_mul_ediv k x
    omega
theorem keyAt_keys {e l z : List Int} {n k : Nat} (h : k < n) : keyAt (keysOf e l z n) k = keyOf z l (subsOf e k) := by
  refine keyAt_of ?_
  unfold keysOf
  rw [List.getElem?_map, List.getElem?_range h]; rfl
theorem within_ext {e a b : List Int} (ha : a.length = e.length) (hb : b.length = e.length) (h : ∀ i < e.length, a.getD i 0 = b.getD i 0) : a = b := by
  apply List.ext_getElem?
  intro i
  by_cases hi : i < e.length
  · obtain ⟨x, hx⟩ := get_lt (l := a) (i := i) (by omega)
    obtain ⟨y, hy⟩ := get_lt (l := b) (i := i) (by omega)
    have := h i hi
    rw [gD_of hx, gD_of hy] at this
    rw [hx, hy, this]
  · rw [List.getElem?_eq_none (by omega), List.getElem?_eq_none (by omega)]
theorem ord_mem {l : List Int} {n i : Nat} (h : isOrd l n = true) (hi : i < n) : (i : Int) ∈ l := (isOrd_perm.1 h).mem_iff.2 (upTo_mem.2 (by omega))
theorem vals_inj {e l a b : List Int} (h : isOrd l e.length = true) (ha : a.length = e.length) (hb : b.length = e.length) (hv : vals l a = vals l b) : a = b :=
  within_ext ha hb fun i hi => by
    have := List.map_inj_left.1 hv i (ord_mem h hi)
    rwa [Int.toNat_natCast] at this
theorem key_inj {e l z a b : List Int} (h : isOrd l e.length = true) (ha : a.length = e.length) (hb : b.length = e.length) (hv : keyOf z l a = keyOf z l b) : a = b := by
  unfold keyOf at hv
  obtain ⟨h1, h2⟩ := List.append_inj hv (by simp [keyR])
  refine within_ext ha hb fun i hi => ?_
  have h3 := List.map_inj_left.1 h1 i (ord_mem h hi)
  have h4 := List.map_inj_left.1 h2 i (ord_mem h hi)
  rw [Int.toNat_natCast] at h3 h4
  have h5 := Int.emod_add_mul_ediv (a.getD i 0) (z.getD i 0)
  have h6 := Int.emod_add_mul_ediv (b.getD i 0) (z.getD i 0)
  rw [h3, h4] at h5
  omega
/-- one goes ahead of the other -/
def Ahead (K : List (List Int)) (a b : Int) : Prop := ahd (keyAt K a) (keyAt K b) = true
theorem spot_spec {K : List (List Int)} {out k : List Int} : ∀ {j : Nat}, j ≤ out.length →
    (∀ i, spot K out k j ≤ i → i < j → ahd k (keyAt K (out.getD i 0)) = true) ∧ (∀ i, spot K out k j = i + 1 → ahd k (keyAt K (out.getD i 0)) = false)
  | 0, _ => ⟨fun i _ h => absurd h (Nat.not_lt_zero _), fun i h => by simp [spot] at h⟩
  | j + 1, hj => by
    obtain ⟨i1, i2⟩ := spot_spec (K := K) (out := out) (k := k) (j := j) (by omega)
    rw [spot]
    split
    · rename_i hc
      refine ⟨fun i h1 h2 => ?_, i2⟩
      by_cases e : i = j
      · rw [e]; exact hc
      · exact i1 i h1 (by omega)
    · rename_i hc
      refine ⟨fun i h1 h2 => by omega, fun i h => ?_⟩
      rw [show i = j by omega]
      simpa using hc
theorem sortK_sorted {K : List (List Int)} {m : Nat} (hm : ∀ k ∈ K, k.length = m) (hd : ∀ i j : Nat, i < K.length → j < K.length → keyAt K i = keyAt K j → i = j) :
    ∀ n, n ≤ K.length → (sortK K n).Pairwise (Ahead K)
  | 0, _ => List.Pairwise.nil
  | n + 1, hn => by
    have ih := sortK_sorted hm hd n (by omega)
    have hlen := sortK_len K n
    have hkl : ∀ x : Int, 0 ≤ x → x < K.length → (keyAt K x).length = m := by
      intro x h0 h1
      obtain ⟨q, rfl⟩ := Int.eq_ofNat_of_zero_le h0
      obtain ⟨k, hk⟩ := get_lt (l := K) (i := q) (by omega)
      rw [keyAt_of hk]
      exact hm k (List.mem_of_getElem? hk)
    have hmem : ∀ {x}, x ∈ sortK K n → 0 ≤ x ∧ x < n := fun h => sortK_mem.1 h
    rw [sortK, insK]
    obtain ⟨s1, s2⟩ := spot_spec (K := K) (out := sortK K n) (k := keyAt K n) (Nat.le_refl _)
    have sle := spot_le K (sortK K n) (keyAt K n) (sortK K n).length
    generalize spot K (sortK K n) (keyAt K n) (sortK K n).length = p at *
    have hsplit := List.take_append_drop p (sortK K n)
    have ih2 := ih
    rw [← hsplit, List.pairwise_append] at ih2
    obtain ⟨p1, p2, p3⟩ := ih2
    have hafter : ∀ b ∈ (sortK K n).drop p, Ahead K n b := by
      intro b hb
      obtain ⟨i, hi⟩ := List.mem_iff_getElem?.1 hb
      rw [List.getElem?_drop] at hi
      have h1 := (List.getElem?_eq_some_iff.1 hi).1
      have := s1 (p + i) (by omega) h1
      rw [gD_of hi] at this
      exact this
    have hbefore : ∀ a ∈ (sortK K n).take p, Ahead K a n := by
      intro a ha
      obtain ⟨i, hi⟩ := List.mem_iff_getElem?.1 ha
      rw [List.getElem?_take] at hi
      split at hi
      · rename_i hip
        obtain ⟨q, hq⟩ : ∃ q, p = q + 1 := ⟨p - 1, by omega⟩
        obtain ⟨y, hy⟩ := get_lt (l := sortK K n) (i := q) (by omega)
        have h2 := s2 q hq
        rw [gD_of hy] at h2
        have hyb := hmem (List.mem_of_getElem? hy)
        obtain ⟨y', rfl⟩ := Int.eq_ofNat_of_zero_le hyb.1
        have hyn : Ahead K (y' : Int) n := by
          rcases ahd_total (a := keyAt K (y' : Int)) (b := keyAt K (n : Int)) (by rw [hkl _ (by omega) (by omega), hkl _ (by omega) (by omega)]) with h | h | h
          · exact h
          · have := hd y' n (by omega) (by omega) h; omega
          · rw [h] at h2; cases h2
        by_cases e : i = q
        · subst e
          rw [hy] at hi; cases hi
          exact hyn
        · have h3 : Ahead K a (y' : Int) := by
            obtain ⟨g1, g2⟩ := List.getElem?_eq_some_iff.1 hi
            obtain ⟨g3, g4⟩ := List.getElem?_eq_some_iff.1 hy
            have := List.pairwise_iff_getElem.1 ih i q g1 g3 (by omega)
            rwa [g2, g4] at this
          exact ahd_trans h3 hyn
      · cases hi
    refine List.pairwise_append.2 ⟨p1, List.pairwise_cons.2 ⟨hafter, p2⟩, fun a ha b hb => ?_⟩
    rcases List.mem_cons.1 hb with rfl | hb
    · exact hbefore a ha
    · exact p3 a ha b hb
theorem sorted_one {K : List (List Int)} {a b : List Int} (ha : a.Pairwise (Ahead K)) (hb : b.Pairwise (Ahead K)) (hm : ∀ x, x ∈ a ↔ x ∈ b) : a = b := by
  have nd : ∀ {l : List Int}, l.Pairwise (Ahead K) → l.Nodup := fun h => h.imp fun {x y} h e => by
    subst e; unfold Ahead at h; rw [ahd_irr] at h; cases h
  refine ((List.perm_ext_iff_of_nodup (nd ha) (nd hb)).2 hm).eq_of_pairwise (le := Ahead K) (fun x y _ _ h1 h2 => ?_) ha hb
  have := ahd_trans h1 h2
  rw [ahd_irr] at this
  cases this
end Go.Proofs.Ytahdihhhankhdaa.V

