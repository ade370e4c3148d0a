/-
  V: the plain law of TilePlain (chapter 20). By the session's own hand.
-/
import Derived.Test.YtahdihhhankhdaaVpo
set_option linter.unusedVariables false
set_option linter.unusedSimpArgs false
set_option maxRecDepth 100000
set_option linter.all false
set_option linter.unnecessarySimpa false
set_option linter.deprecated false
namespace Go.Proofs.Ytahdihhhankhdaa.V
open Go.Proofs.YtahdihhhankhdaaVY Go.RowKit
theorem upTo_isOrd (n : Nat) : isOrd (upTo n) n = true := isOrd_perm.2 (List.Perm.refl _)
theorem vals_upTo {e s : List Int} (h : s.length = e.length) : vals (upTo e.length) s = s := by
  unfold vals
  rw [← h]; exact upTo_map s
theorem ahd_subs : ∀ {e : List Int} {k k' : Int}, (∀ x ∈ e, 1 ≤ x) → 0 ≤ k → k < k' → k' < prod e → ahd (subsOf e k) (subsOf e k') = true
  | [], k, k', _, h0, h1, h2 => by simp only [prod] at h2; omega
  | x :: e, k, k', he, h0, h1, h2 => by
    have hx := he x (List.mem_cons_self ..)
    rw [prod] at h2
    rw [subsOf, subsOf, ahd, Bool.or_eq_true, Bool.and_eq_true, decide_eq_true_eq, decide_eq_true_eq]
    have hq : k' / x < prod e := by rw [Int.ediv_lt_iff_lt_mul (by omega), Int.mul_comm]; exact h2
    have hle := Int.ediv_le_ediv (show 0 < x by omega) (Int.le_of_lt h1)
    by_cases hc : k / x = k' / x
    · refine .inr ⟨by rw [hc], ?_⟩
      have e1 := Int.emod_add_mul_ediv k x
      have e2 := Int.emod_add_mul_ediv k' x
      rw [hc] at e1
      omega
    · exact .inl (ahd_subs (fun a ha => he a (List.mem_cons_of_mem _ ha)) (Int.ediv_nonneg h0 (by omega)) (by omega) hq)
/-- sizes that leave the order alone: ones, or as wide as the extent -/
def Flat (e z : List Int) : Prop := (∀ i < e.length, z.getD i 0 = 1) ∨ ∀ i < e.length, e.getD i 0 ≤ z.getD i 0
theorem flat_key {e z : List Int} (he : ∀ x ∈ e, 1 ≤ x) (hf : Flat e z) {k k' : Int} (h0 : 0 ≤ k) (h1 : k < k') (h2 : k' < prod e) :
    ahd (keyOf z (upTo e.length) (subsOf e k)) (keyOf z (upTo e.length) (subsOf e k')) = true := by
  have w := (subs_within he h0 (by omega)).1
  have w' := (subs_within he (by omega) h2).1
  have ha := ahd_subs he h0 h1 h2
  rcases hf with hf | hf
  · have hq : ∀ {s : List Int}, s.length = e.length → keyQ z (upTo e.length) s = s := fun {s} hs => by
      refine Eq.trans (List.map_congr_left fun d hd => ?_) (vals_upTo hs)
      have := upTo_mem.1 hd
      rw [hf _ (by omega), Int.ediv_one]
    unfold keyOf
    rw [hq w.1, hq w'.1]
    exact ahd_right ha (by simp [keyR])
  · have hr : ∀ {s : List Int}, Within e s → keyR z (upTo e.length) s = s ∧ keyQ z (upTo e.length) s = (upTo e.length).map fun _ => 0 := fun {s} hs => by
      constructor
      · refine Eq.trans (List.map_congr_left fun d hd => ?_) (vals_upTo hs.1)
        have := upTo_mem.1 hd
        have h3 := hs.2 d.toNat (by omega)
        have h4 := hf d.toNat (by omega)
        exact Int.emod_eq_of_lt h3.1 (by omega)
      · refine List.map_congr_left fun d hd => ?_
        have := upTo_mem.1 hd
        have h3 := hs.2 d.toNat (by omega)
        have h4 := hf d.toNat (by omega)
        exact Int.ediv_eq_zero_of_lt h3.1 (by omega)
    unfold keyOf
    rw [(hr w).1, (hr w').1, (hr w).2, (hr w').2]
    exact ahd_left ha
theorem both_flat {e z : List Int} (h : bothOk e (upTo e.length) z = true) (hf : Flat e z) : bothR e (upTo e.length) z = upTo (many e).toNat := by
  obtain ⟨h1, h2, h3, h4⟩ := bothOk_iff.1 h
  unfold bothR
  rw [if_pos h]
  by_cases h0 : many e = 0
  · rw [h0]; rfl
  have he : ∀ x ∈ e, 1 ≤ x := fun x hx => (extent_ok h1 h0 x hx).1
  have hp := (many_ok h1).2.2.2.2
  obtain ⟨n, hn⟩ := Int.eq_ofNat_of_zero_le h1
  rw [hn, Int.toNat_natCast]
  refine sorted_one (K := keysOf e (upTo e.length) z n) (sortK_sorted (m := 2 * (upTo e.length).length) keysOf_all ?_ n (by rw [keysOf_len]; exact Nat.le_refl _)) ?_ fun x => ?_
  · intro i j hi hj hk
    rw [keysOf_len] at hi hj
    rw [keyAt_keys hi, keyAt_keys hj] at hk
    rcases Nat.lt_trichotomy i j with h | h | h
    · have := flat_key he hf (k := i) (k' := j) (by omega) (by omega) (by omega)
      rw [hk, ahd_irr] at this; cases this
    · exact h
    · have := flat_key he hf (k := j) (k' := i) (by omega) (by omega) (by omega)
      rw [hk, ahd_irr] at this; cases this
  · unfold upTo
    rw [List.pairwise_map]
    refine List.pairwise_lt_range.imp_of_mem fun {i j} hi hj hlt => ?_
    unfold Ahead
    have hi := List.mem_range.1 hi
    have hj := List.mem_range.1 hj
    show ahd (keyAt _ (i : Int)) (keyAt _ (j : Int)) = true
    rw [keyAt_keys hi, keyAt_keys hj]
    exact flat_key he hf (by omega) (by omega) (by omega)
  · rw [sortK_mem, upTo_mem]
theorem both_ord {e l z : List Int} (h : bothOk e l z = true) : isOrd (bothR e l z) (many e).toNat = true := by
  obtain ⟨h1, h2, h3, h4⟩ := bothOk_iff.1 h
  by_cases h0 : many e = 0
  · unfold bothR
    rw [if_pos h, h0]
    exact isOrd_iff.2 ⟨by simp [sortK], by simp [sortK], rfl⟩
  have ha : Asked e l z := ⟨extent_ok h1 h0, sizes_ok h4, h3, h2⟩
  have he : ∀ x ∈ e, 1 ≤ x := fun x hx => (extent_ok h1 h0 x hx).1
  have hp := (many_ok h1).2.2.2.2
  unfold bothR
  rw [if_pos h]
  obtain ⟨n, hn⟩ := Int.eq_ofNat_of_zero_le h1
  rw [hn, Int.toNat_natCast]
  have hs := sortK_sorted (K := keysOf e l z n) (m := 2 * l.length) keysOf_all (by
    intro i j hi hj hk
    rw [keysOf_len] at hi hj
    rw [keyAt_keys hi, keyAt_keys hj] at hk
    have g1 := subs_within (k := i) he (by omega) (by omega)
    have g2 := subs_within (k := j) he (by omega) (by omega)
    have := key_inj h2 g1.1.1 g2.1.1 hk
    have e1 := g1.2
    rw [this, g2.2] at e1
    omega) n (by rw [keysOf_len]; exact Nat.le_refl _)
  refine isOrd_iff.2 ⟨fun x hx => sortK_mem.1 hx, hs.imp fun {x y} h e => ?_, sortK_len ..⟩
  subst e; unfold Ahead at h; rw [ahd_irr] at h; cases h
theorem both_empty {e l z : List Int} (h : ¬bothOk e l z = true) : bothR e l z = [] := by unfold bothR; rw [if_neg h]
theorem invTo_get {l : List Int} (hnd : l.Nodup) (hb : ∀ x ∈ l, 0 ≤ x ∧ x < l.length) : ∀ {i j : Nat} {x : Int}, i ≤ l.length → j < i → l[j]? = some x → (invTo l i)[x.toNat]? = some (j : Int)
  | 0, j, x, _, h, _ => absurd h (Nat.not_lt_zero _)
  | i + 1, j, x, hi, hj, hx => by
    obtain ⟨y, hy⟩ := get_lt (l := l) (i := i) (by omega)
    have hxb := hb x (List.mem_of_getElem? hx)
    have hyb := hb y (List.mem_of_getElem? hy)
    rw [invTo, gD_of hy]
    by_cases e : j = i
    · subst e
      rw [hx] at hy
      cases hy
      exact List.getElem?_set_self (by rw [invTo_len]; omega)
    · have hne : x ≠ y := fun h => by
        subst h
        have h3 := (List.getElem?_eq_some_iff.1 hx).1
        exact e ((List.getElem?_inj h3 hnd).1 (hx.trans hy.symm))
      rw [List.getElem?_set_ne (by omega)]
      exact invTo_get hnd hb (by omega) (by omega) hx
def ones (n : Nat) : List Int := List.replicate n 1
def wides (e : List Int) : List Int := e.map fun x => if x > 1 then x else 1
theorem ones_ok {e : List Int} (h : 0 ≤ many e) : bothOk e (upTo e.length) (ones e.length) = true ∧ Flat e (ones e.length) := by
  refine ⟨bothOk_iff.2 ⟨h, upTo_isOrd _, List.length_replicate, ?_⟩, .inl fun i hi => ?_⟩
  · unfold sizeBad
    rw [List.any_eq_false]
    intro x hx
    rw [List.eq_of_mem_replicate hx]; decide
  · unfold ones
    rw [List.getD_eq_getElem?_getD, List.getElem?_replicate, if_pos hi]; rfl
theorem wides_ok {e : List Int} (h : 0 ≤ many e) : bothOk e (upTo e.length) (wides e) = true ∧ Flat e (wides e) := by
  have hm := many_ok h
  refine ⟨bothOk_iff.2 ⟨h, upTo_isOrd _, List.length_map .., ?_⟩, .inr fun i hi => ?_⟩
  · unfold sizeBad
    rw [List.any_eq_false]
    intro x hx
    obtain ⟨y, hy, rfl⟩ := List.mem_map.1 hx
    have := hm.2.2.1 y hy
    simp only [decide_eq_true_eq]
    split <;> omega
  · obtain ⟨y, hy⟩ := get_lt hi
    have : (wides e)[i]? = some (if y > 1 then y else 1) := by unfold wides; rw [List.getElem?_map, hy]; rfl
    rw [gD_of this, gD_of hy]
    split <;> omega
theorem wide_ok {e : List Int} (h : 0 ≤ many e) : bothOk e (upTo e.length) (wide e.length) = true ∧ Flat e (wide e.length) := by
  have hm := many_ok h
  refine ⟨bothOk_iff.2 ⟨h, upTo_isOrd _, wide_len _, wide_bad _⟩, .inr fun i hi => ?_⟩
  obtain ⟨y, hy⟩ := get_lt hi
  rw [wide_getD hi, gD_of hy]
  exact (hm.2.2.1 y (List.mem_of_getElem? hy)).2
end Go.Proofs.Ytahdihhhankhdaa.V

