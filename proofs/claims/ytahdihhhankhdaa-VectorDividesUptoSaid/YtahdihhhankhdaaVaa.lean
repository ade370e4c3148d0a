/-
  V: right lanes, both sides alike. By the session's own hand.
-/
import Derived.Test.YtahdihhhankhdaaVz
set_option linter.unusedVariables false
set_option linter.unusedSimpArgs false
set_option maxRecDepth 100000
set_option linter.all false
set_option linter.unnecessarySimpa false
set_option linter.deprecated false
namespace Go.Proofs.Ytahdihhhankhdaa.V
open Go.Proofs.YtahdihhhankhdaaVY Go.RowKit
theorem idxs_iff (l : List Int) (x : Int) : ∀ n ≤ l.length, ∀ v : Int, v ∈ idxs l x n ↔ ∃ j : Nat, v = j ∧ j < n ∧ l[j]? = some x
  | 0, _, v => by simp [idxs]
  | n + 1, hn, v => by
    obtain ⟨y, hy⟩ := get_lt (l := l) (i := n) (by omega)
    rw [idxs, List.mem_append, idxs_iff l x n (by omega), getD_of hy]
    constructor
    · rintro (⟨j, h1, h2, h3⟩ | h)
      · exact ⟨j, h1, by omega, h3⟩
      · split at h
        · rename_i e; simp at h; exact ⟨n, h, by omega, by rw [hy, e]⟩
        · simp at h
    · rintro ⟨j, h1, h2, h3⟩
      by_cases e : j = n
      · subst e; rw [hy] at h3; cases h3; right; rw [if_pos rfl]; simp [h1]
      · exact .inl ⟨j, h1, by omega, h3⟩
theorem pairsTo_iff (A B : List Int) : ∀ n ≤ A.length, ∀ p : Int × Int, p ∈ pairsTo A B n ↔ ∃ (i j : Nat) (v : Int), p = ((i : Int), (j : Int)) ∧ i < n ∧ A[i]? = some v ∧ B[j]? = some v
  | 0, _, p => by simp [pairsTo]
  | n + 1, hn, p => by
    obtain ⟨y, hy⟩ := get_lt (l := A) (i := n) (by omega)
    rw [pairsTo, List.mem_append, pairsTo_iff A B n (by omega), List.mem_map, getD_of hy]
    constructor
    · rintro (⟨i, j, v, h1, h2, h3, h4⟩ | ⟨w, hw, rfl⟩)
      · exact ⟨i, j, v, h1, by omega, h3, h4⟩
      · obtain ⟨j, rfl, _, hj⟩ := (idxs_iff B y B.length (Nat.le_refl _) w).1 hw
        exact ⟨n, j, y, rfl, by omega, hy, hj⟩
    · rintro ⟨i, j, v, h1, h2, h3, h4⟩
      by_cases e : i = n
      · subst e; rw [hy] at h3; cases h3
        exact .inr ⟨j, (idxs_iff B y B.length (Nat.le_refl _) _).2 ⟨j, rfl, (List.getElem?_eq_some_iff.1 h4).1, h4⟩, h1.symm⟩
      · exact .inl ⟨i, j, v, h1, by omega, h3, h4⟩
theorem pairs_iff {l : List Int} {a b : Ref} {p : Int × Int} : p ∈ pairs l a b ↔ (refOk l a = true ∧ refOk l b = true ∧ a.arr = b.arr) ∧ ∃ (i j : Nat) (v : Int), p = ((i : Int), (j : Int)) ∧ (places l a)[i]? = some v ∧ (places l b)[j]? = some v := by
  unfold pairs
  split
  · rename_i h
    rw [pairsTo_iff _ _ _ (Nat.le_refl _)]
    refine ⟨fun ⟨i, j, v, h1, _, h3, h4⟩ => ⟨h, i, j, v, h1, h3, h4⟩, fun ⟨_, i, j, v, h1, h3, h4⟩ => ⟨i, j, v, h1, (List.getElem?_eq_some_iff.1 h3).1, h3, h4⟩⟩
  · rename_i h
    simp [h]
theorem pairs_turn {l : List Int} {a b : Ref} {x y : Int} (h : (x, y) ∈ pairs l a b) : (y, x) ∈ pairs l b a := by
  obtain ⟨⟨h1, h2, h3⟩, i, j, v, e, h4, h5⟩ := pairs_iff.1 h
  cases e
  exact pairs_iff.2 ⟨⟨h2, h1, h3.symm⟩, j, i, v, rfl, h5, h4⟩
theorem wrong_iff {k : Kern} {lanes s t : Int} {a b : Ref} {load : Bool} : wrong k lanes s t a b load = true ↔ ∃ x y, (x, y) ∈ pairs k.ext a b ∧ apart lanes (x, y) = false ∧ wrongs s t load (x, y) = true := by
  unfold wrong inGroup
  simp only [List.any_eq_true, List.mem_filter, Bool.not_eq_true']
  constructor
  · rintro ⟨⟨x, y⟩, ⟨h1, h2⟩, h3⟩; exact ⟨x, y, h1, h2, h3⟩
  · rintro ⟨x, y, h1, h2, h3⟩; exact ⟨(x, y), ⟨h1, h2⟩, h3⟩
theorem hits_iff {l : List Int} {lanes : Int} {a b : Ref} : hits l lanes a b = true ↔ ∃ x y, (x, y) ∈ pairs l a b ∧ x < y ∧ x.tdiv lanes = y.tdiv lanes := by
  unfold hits hit
  simp only [List.any_eq_true, decide_eq_true_eq]
  constructor
  · rintro ⟨⟨x, y⟩, h1, h2, h3⟩; exact ⟨x, y, h1, h2, h3⟩
  · rintro ⟨x, y, h1, h2, h3⟩; exact ⟨(x, y), h1, h2, h3⟩
theorem apart_iff {lanes x y : Int} : apart lanes (x, y) = false ↔ x ≠ y ∧ x.tdiv lanes = y.tdiv lanes := by
  unfold apart
  simp only [decide_eq_false_iff_not, not_or, Decidable.not_not, ne_eq]
theorem bool_iff {a b : Bool} (h : a = true ↔ b = true) : a = b := by cases a <;> cases b <;> simp_all
theorem wrong_down {k : Kern} {lanes : Int} {s t : Nat} {a b : Ref} {load : Bool} (h : t < s) : wrong k lanes s t a b load = hits k.ext lanes a b := by
  refine bool_iff ?_
  rw [wrong_iff, hits_iff]
  have hw : ∀ x y, wrongs s t load (x, y) = true ↔ x < y := by
    intro x y
    unfold wrongs
    rw [if_pos (by omega), show decide ((s : Int) < t) = false from decide_eq_false (by omega)]
    simp
  constructor
  · rintro ⟨x, y, h1, h2, h3⟩; exact ⟨x, y, h1, (hw x y).1 h3, (apart_iff.1 h2).2⟩
  · rintro ⟨x, y, h1, h2, h3⟩; exact ⟨x, y, h1, apart_iff.2 ⟨by omega, h3⟩, (hw x y).2 h2⟩
theorem wrong_up {k : Kern} {lanes : Int} {s t : Nat} {a b : Ref} {load : Bool} (h : s < t) : wrong k lanes s t a b load = hits k.ext lanes b a := by
  refine bool_iff ?_
  rw [wrong_iff, hits_iff]
  have hw : ∀ x y, wrongs s t load (x, y) = true ↔ ¬ x < y := by
    intro x y
    unfold wrongs
    rw [if_pos (by omega), show decide ((s : Int) < t) = true from decide_eq_true (by omega)]
    simp
  constructor
  · rintro ⟨x, y, h1, h2, h3⟩
    have := apart_iff.1 h2
    exact ⟨y, x, pairs_turn h1, by have := (hw x y).1 h3; omega, this.2.symm⟩
  · rintro ⟨x, y, h1, h2, h3⟩; exact ⟨y, x, pairs_turn h1, apart_iff.2 ⟨by omega, h3.symm⟩, (hw y x).2 (by omega)⟩
theorem wrong_own {k : Kern} {lanes : Int} {s : Nat} {a b : Ref} : wrong k lanes s s a b true = hits k.ext lanes a b := by
  refine bool_iff ?_
  rw [wrong_iff, hits_iff]
  have hw : ∀ x y, wrongs s s true (x, y) = true ↔ x < y := by
    intro x y
    unfold wrongs
    simp
  constructor
  · rintro ⟨x, y, h1, h2, h3⟩; exact ⟨x, y, h1, (hw x y).1 h3, (apart_iff.1 h2).2⟩
  · rintro ⟨x, y, h1, h2, h3⟩; exact ⟨x, y, h1, apart_iff.2 ⟨by omega, h3⟩, (hw x y).2 h2⟩
theorem wrong_none {k : Kern} {lanes : Int} {s : Nat} {a b : Ref} : wrong k lanes s s a b false = false := by
  refine Bool.eq_false_iff.2 fun h => ?_
  obtain ⟨x, y, _, _, h⟩ := wrong_iff.1 h
  unfold wrongs at h
  simp at h
theorem right_same (k : Kern) (lanes : Int) : right k lanes = rightR k lanes := by
  refine bool_iff ?_
  rw [right_iff, rightR_iff]
  constructor
  · intro h s hs t ht
    obtain ⟨S0, hS⟩ := get_lt hs
    obtain ⟨T0, hT⟩ := get_lt (l := k.sets) (i := t) (by omega)
    have h1 := h s hs t (by omega)
    have h2 := h t (by omega) s hs
    unfold rightAt at h1 h2
    unfold rightRAt
    rw [hS, hT] at h1 h2 ⊢
    simp only [Bool.and_eq_true, Bool.not_eq_true', Bool.or_eq_true, decide_eq_true_eq] at h1 h2 ⊢
    by_cases e : s = t
    · subst e
      refine ⟨?_, .inl rfl⟩
      rw [hS] at hT; cases hT
      rw [← h1.2]
      congr 1
      funext r
      exact wrong_own.symm
    · have hlt : t < s := by omega
      refine ⟨?_, .inr ⟨?_, ?_⟩⟩
      · rw [← h1.2]; congr 1; funext r; exact (wrong_down hlt).symm
      · rw [← h1.1]; exact (wrong_down hlt).symm
      · rw [← h2.2]; congr 1; funext r; exact (wrong_up hlt).symm
  · intro h s hs t ht
    obtain ⟨S0, hS⟩ := get_lt hs
    obtain ⟨T0, hT⟩ := get_lt ht
    unfold rightAt
    rw [hS, hT]
    simp only [Bool.and_eq_true, Bool.not_eq_true']
    rcases Nat.lt_trichotomy s t with hl | rfl | hl
    · have h1 := h t ht s (by omega)
      unfold rightRAt at h1
      rw [hS, hT] at h1
      simp only [Bool.and_eq_true, Bool.not_eq_true', Bool.or_eq_true, decide_eq_true_eq] at h1
      rcases h1.2 with e | h1
      · omega
      · refine ⟨?_, ?_⟩
        · rw [← h1.1]; exact wrong_up hl
        · rw [← h1.2]; congr 1; funext r; exact wrong_up hl
    · have h1 := h s hs s (Nat.le_refl _)
      unfold rightRAt at h1
      rw [hS] at hT; cases hT
      rw [hS] at h1
      simp only [Bool.and_eq_true, Bool.not_eq_true'] at h1
      refine ⟨wrong_none, ?_⟩
      rw [← h1.1]; congr 1; funext r; exact wrong_own
    · have h1 := h s hs t (by omega)
      unfold rightRAt at h1
      rw [hS, hT] at h1
      simp only [Bool.and_eq_true, Bool.not_eq_true', Bool.or_eq_true, decide_eq_true_eq] at h1
      rcases h1.2 with e | h2
      · omega
      · refine ⟨?_, ?_⟩
        · rw [← h2.1]; exact wrong_down hl
        · rw [← h1.1]; congr 1; funext r; exact wrong_down hl
theorem right_one (k : Kern) : right k 1 = true := by
  rw [right_same, rightR_iff]
  have hno : ∀ a b, hits k.ext 1 a b = false := by
    intro a b
    refine Bool.eq_false_iff.2 fun h => ?_
    obtain ⟨x, y, _, h1, h2⟩ := hits_iff.1 h
    rw [Int.tdiv_one, Int.tdiv_one] at h2
    omega
  intro s hs t ht
  unfold rightRAt
  split
  · simp only [hno, Bool.not_false, Bool.true_and, Bool.or_true, Bool.and_true]
    simp
  · rfl
/-- fewer lanes that divide right ones -/
theorem right_div {k : Kern} {lanes n : Int} (h1 : 1 ≤ n) (h0 : 1 ≤ lanes) (hd : lanes.tmod n = 0) (h : right k lanes = true) : right k n = true := by
  rw [right_same, rightR_iff] at h ⊢
  have key : ∀ a b, hits k.ext n a b = true → hits k.ext lanes a b = true := by
    intro a b hh
    obtain ⟨x, y, hp, hxy, hg⟩ := hits_iff.1 hh
    refine hits_iff.2 ⟨x, y, hp, hxy, ?_⟩
    have hb := pairs_bd _ hp
    simp only at hb
    obtain ⟨m, hm⟩ := Int.dvd_of_tmod_eq_zero hd
    have e : ∀ z : Int, 0 ≤ z → z.tdiv lanes = (z.tdiv n).tdiv m := by
      intro z hz
      have hm0 : 0 ≤ m := by
        rcases Classical.em (m < 0) with hm' | hm'
        · have := Int.mul_le_mul_of_nonneg_left (c := n) (show m ≤ -1 by omega) (by omega)
          rw [Int.mul_neg, Int.mul_one] at this
          omega
        · omega
      rw [hm, Int.tdiv_eq_ediv_of_nonneg hz, Int.tdiv_eq_ediv_of_nonneg hz, Int.tdiv_eq_ediv_of_nonneg (Int.ediv_nonneg hz (by omega)), Int.ediv_ediv_of_nonneg (by omega)]
    rw [e x hb.1.1, e y hb.2.1, hg]
  have key2 : ∀ a b, hits k.ext lanes a b = false → hits k.ext n a b = false := by
    intro a b hh
    cases hx : hits k.ext n a b with
    | false => rfl
    | true => rw [key a b hx] at hh; cases hh
  intro s hs t ht
  have h2 := h s hs t ht
  unfold rightRAt at h2 ⊢
  split
  · rename_i S0 T0 hS hT
    rw [hS, hT] at h2
    simp only [Bool.and_eq_true, Bool.not_eq_true', Bool.or_eq_true, decide_eq_true_eq, List.any_eq_false, Bool.not_eq_true] at h2 ⊢
    refine ⟨fun r hr => key2 _ _ (h2.1 r hr), h2.2.imp id fun h3 => ⟨key2 _ _ h3.1, fun r hr => key2 _ _ (h3.2 r hr)⟩⟩
  · rfl
def most (k : Kern) : Nat → Nat
  | 0 => 0
  | n + 1 => if right k ((n : Int) + 1) then n + 1 else most k n
theorem most_right {k : Kern} {n : Nat} (h1 : 1 ≤ n) (h : right k n = true) : most k n = n := by
  obtain ⟨m, rfl⟩ : ∃ m, n = m + 1 := ⟨n - 1, by omega⟩
  rw [most, if_pos (by simpa using h)]
theorem most_less {k : Kern} {n : Nat} (h1 : 1 ≤ n) (h : right k n = false) : most k n = most k (n - 1) ∧ 2 ≤ n := by
  obtain ⟨m, rfl⟩ : ∃ m, n = m + 1 := ⟨n - 1, by omega⟩
  have h' : right k ((m : Int) + 1) = false := by simpa using h
  refine ⟨by rw [most, h', if_neg (by decide)]; rfl, ?_⟩
  rcases Nat.lt_or_ge 0 m with hm | hm
  · omega
  · have : m = 0 := by omega
    subst this
    rw [show ((0 : Nat) : Int) + 1 = 1 from rfl, right_one] at h'; cases h'
def mostOf (k : Kern) (lanes : Int) : Int := if asked k lanes then most k lanes.toNat else 0
end Go.Proofs.Ytahdihhhankhdaa.V

