/-
  V: the plain law of chapter 20: tiles one after another are what the reference sorts. By the session's own hand.
-/
import Derived.Test.YtahdihhhankhdaaVpm
set_option linter.unusedVariables false
set_option linter.unusedSimpArgs false
set_option maxRecDepth 100000
set_option linter.all false
set_option linter.unnecessarySimpa false
set_option linter.deprecated false
namespace Go.Proofs.Ytahdihhhankhdaa.V
open Go.Proofs.YtahdihhhankhdaaVY Go.RowKit
/-- an extent with something in it, an order, sizes -/
structure Asked (e l z : List Int) : Prop where
  he : ∀ x ∈ e, 1 ≤ x ∧ x ≤ 400
  hz : ∀ x ∈ z, 1 ≤ x ∧ x ≤ 400
  hl : z.length = e.length
  ho : isOrd l e.length = true
theorem Asked.nd {e l z : List Int} (h : Asked e l z) : l.Nodup := (isOrd_iff.1 h.ho).2.1
theorem Asked.mem {e l z : List Int} (h : Asked e l z) : ∀ d ∈ l, 0 ≤ d ∧ d < e.length := (isOrd_iff.1 h.ho).1
theorem zeros_len (n : Nat) : (zeros n).length = n := List.length_replicate
theorem Asked.box0 {e l z : List Int} (h : Asked e l z) : InBox (zeros e.length) (cnt e z) (zeros e.length) :=
  ⟨rfl, by rw [cnt_len, zeros_len], fun i => Int.le_refl _, fun i hi => by
    rw [zeros_len] at hi
    rw [zeros_getD]
    obtain ⟨y, hy⟩ := get_lt (l := cnt e z) (i := i) (by rw [cnt_len]; exact hi)
    rw [gD_of hy]
    have := cnt_le h.he h.hz h.hl y (List.mem_of_getElem? hy)
    omega⟩
theorem box_len {f t s : List Int} (h : InBox f t s) : s.length = f.length := h.lf.symm
theorem Asked.tile0 {e l z a : List Int} (h : Asked e l z) (ha : InBox (zeros e.length) (cnt e z) a) : InBox (fill (gF a z) e.length) (fill (gT a z e) e.length) (fill (gF a z) e.length) :=
  ⟨rfl, by rw [fill_len, fill_len], fun i => Int.le_refl _, fun i hi => by
    rw [fill_len] at hi
    rw [fill_getD hi, fill_getD hi]
    exact (tile_bd h.he h.hz h.hl ha hi).2.2.2.1⟩
/-- the states of a tile -/
def tileS (e l z a : List Int) : List (List Int) := walkS (fill (gF a z) e.length) (fill (gT a z e) e.length) l (leftF (fill (gF a z) e.length) (fill (gT a z e) e.length) l (fill (gF a z) e.length)).toNat (fill (gF a z) e.length)
theorem Asked.tileL {e l z a : List Int} (h : Asked e l z) (ha : InBox (zeros e.length) (cnt e z) a) : tileL e l z a = (tileS e l z a).map fun s => numTo e s s.length := by
  have hv : void (fill (gF a z) e.length) (fill (gT a z e) e.length) = false := by
    rw [void, List.any_eq_false]
    intro i hi
    have hi := List.mem_range.1 hi
    have := (h.tile0 ha).hi i hi
    simp only [decide_eq_true_eq]
    omega
  unfold V.tileL walkL
  rw [hv]; rfl
theorem Asked.spec {e l z a : List Int} (h : Asked e l z) (ha : InBox (zeros e.length) (cnt e z) a) : (∀ x ∈ tileS e l z a, InBox (fill (gF a z) e.length) (fill (gT a z e) e.length) x ∧ x.length = (fill (gF a z) e.length).length ∧ leftF (fill (gF a z) e.length) (fill (gT a z e) e.length) l x ≤ leftF (fill (gF a z) e.length) (fill (gT a z e) e.length) l (fill (gF a z) e.length)) ∧ (tileS e l z a).Pairwise (fun x y => leftF (fill (gF a z) e.length) (fill (gT a z e) e.length) l y < leftF (fill (gF a z) e.length) (fill (gT a z e) e.length) l x) ∧
    ∀ v, 0 ≤ v → v ≤ leftF (fill (gF a z) e.length) (fill (gT a z e) e.length) l (fill (gF a z) e.length) → ∃ x ∈ tileS e l z a, leftF (fill (gF a z) e.length) (fill (gT a z e) e.length) l x = v :=
  walkS_spec h.nd _ (h.tile0 ha) (by rw [fill_len]; exact h.mem) rfl
theorem Asked.state {e l z a s : List Int} (h : Asked e l z) (ha : InBox (zeros e.length) (cnt e z) a) (hs : s ∈ tileS e l z a) :
    InBox (fill (gF a z) e.length) (fill (gT a z e) e.length) s ∧ Within e s ∧ ∀ i < e.length, s.getD i 0 / z.getD i 0 = a.getD i 0 ∧ s.getD i 0 % z.getD i 0 = s.getD i 0 - a.getD i 0 * z.getD i 0 := by
  obtain ⟨k1, k2, k3⟩ := (h.spec ha).1 s hs
  rw [fill_len] at k2
  have hb : ∀ i < e.length, gF a z i ≤ s.getD i 0 ∧ s.getD i 0 < gT a z e i := fun i hi => by
    have h1 := k1.lo i
    have h2 := k1.hi i (by omega)
    rw [fill_getD hi] at h1 h2
    exact ⟨h1, h2⟩
  refine ⟨k1, ⟨k2, fun i hi => ?_⟩, fun i hi => ?_⟩
  · have := hb i hi
    have := tile_bd h.he h.hz h.hl ha hi
    omega
  · have h1 := hb i hi
    have h2 := tile_bd h.he h.hz h.hl ha hi
    have h3 : gT a z e i ≤ gF a z i + z.getD i 0 := by unfold gT; split <;> omega
    unfold gF at h1 h3
    have hq : s.getD i 0 / z.getD i 0 = a.getD i 0 := by
      have e1 : s.getD i 0 = (s.getD i 0 - a.getD i 0 * z.getD i 0) + a.getD i 0 * z.getD i 0 := by omega
      rw [e1, Int.add_mul_ediv_right _ _ (by omega), Int.ediv_eq_zero_of_lt (by omega) (by omega), Int.zero_add]
    refine ⟨hq, ?_⟩
    have h5 := Int.emod_add_mul_ediv (s.getD i 0) (z.getD i 0)
    rw [hq, Int.mul_comm] at h5
    omega
theorem Asked.quo {e l z a s : List Int} (h : Asked e l z) (ha : InBox (zeros e.length) (cnt e z) a) (hs : s ∈ tileS e l z a) : keyQ z l s = vals l a := by
  refine List.map_congr_left fun d hd => ?_
  have hdb := h.mem d hd
  exact ((h.state ha hs).2.2 d.toNat (by omega)).1
theorem Asked.rem {e l z a s : List Int} (h : Asked e l z) (ha : InBox (zeros e.length) (cnt e z) a) (hs : s ∈ tileS e l z a) : keyR z l s = l.map fun d => s.getD d.toNat 0 - a.getD d.toNat 0 * z.getD d.toNat 0 := by
  refine List.map_congr_left fun d hd => ?_
  have hdb := h.mem d hd
  exact ((h.state ha hs).2.2 d.toNat (by omega)).2
theorem Asked.key {e l z s : List Int} (h : Asked e l z) {n : Nat} (hn : prod e = n) (hs : Within e s) : keyAt (keysOf e l z n) (numTo e s s.length) = keyOf z l s := by
  obtain ⟨h1, h2, h3⟩ := num_subs hs
  obtain ⟨k, hk⟩ := Int.eq_ofNat_of_zero_le h2
  rw [hk, keyAt_keys (by omega), ← hk, h1]
theorem Asked.tile_sorted {e l z a : List Int} (h : Asked e l z) {n : Nat} (hn : prod e = n) (ha : InBox (zeros e.length) (cnt e z) a) : (V.tileL e l z a).Pairwise (Ahead (keysOf e l z n)) := by
  rw [h.tileL ha, List.pairwise_map]
  refine (h.spec ha).2.1.imp_of_mem fun {s s'} hs hs' hlt => ?_
  obtain ⟨g1, g2, g3⟩ := h.state ha hs
  obtain ⟨g1', g2', g3'⟩ := h.state ha hs'
  unfold Ahead
  rw [h.key hn g2, h.key hn g2', keyOf, keyOf, h.quo ha hs, h.quo ha hs', h.rem ha hs, h.rem ha hs']
  refine ahd_left (ahd_shift ?_)
  exact (left_vals g1 g1' (by rw [g2.1]; exact h.mem)).1 hlt
theorem Asked.tiles_sorted {e l z a a' : List Int} (h : Asked e l z) {n : Nat} (hn : prod e = n) (ha : InBox (zeros e.length) (cnt e z) a) (ha' : InBox (zeros e.length) (cnt e z) a')
    (hlt : leftF (zeros e.length) (cnt e z) l a' < leftF (zeros e.length) (cnt e z) l a) : ∀ x ∈ V.tileL e l z a, ∀ y ∈ V.tileL e l z a', Ahead (keysOf e l z n) x y := by
  intro x hx y hy
  rw [h.tileL ha] at hx
  rw [h.tileL ha'] at hy
  obtain ⟨s, hs, rfl⟩ := List.mem_map.1 hx
  obtain ⟨s', hs', rfl⟩ := List.mem_map.1 hy
  unfold Ahead
  rw [h.key hn (h.state ha hs).2.1, h.key hn (h.state ha' hs').2.1, keyOf, keyOf, h.quo ha hs, h.quo ha' hs']
  refine ahd_right ?_ (by simp [keyR])
  exact (left_vals ha ha' (by rw [box_len ha, zeros_len]; exact h.mem)).1 hlt
theorem left_top {f t s : List Int} (hf : InBox f t f) (hs : InBox f t s) : ∀ {ds : List Int}, (∀ d ∈ ds, 0 ≤ d ∧ d < f.length) → leftF f t ds s ≤ leftF f t ds f
  | [], _ => Int.le_refl _
  | d :: ds, hb => by
    have ih := left_top hf hs (ds := ds) fun a ha => hb a (List.mem_cons_of_mem _ ha)
    have hd := hb d (List.mem_cons_self ..)
    obtain ⟨q, rfl⟩ := Int.eq_ofNat_of_zero_le hd.1
    have lo := hs.lo q
    have hi := hf.hi q (by omega)
    rw [leftF, leftF, Int.toNat_natCast]
    have := Int.mul_le_mul_of_nonneg_left ih (show 0 ≤ t.getD q 0 - f.getD q 0 by omega)
    omega
theorem Asked.both {e l z : List Int} (h : Asked e l z) {n : Nat} (hn : prod e = n) : bothT e l z = sortK (keysOf e l z n) n := by
  have hm0 : ∀ d ∈ l, 0 ≤ d ∧ d < (zeros e.length).length := by rw [zeros_len]; exact h.mem
  obtain ⟨w1, w2, w3⟩ := walkS_spec h.nd _ h.box0 hm0 rfl
  refine sorted_one ?_ (sortK_sorted (m := 2 * l.length) (keysOf_all) ?_ n (by rw [keysOf_len]; exact Nat.le_refl _)) fun x => ?_
  · unfold bothT
    rw [List.pairwise_flatMap]
    exact ⟨fun a ha => h.tile_sorted hn (w1 a ha).1, w2.imp_of_mem fun {a b} ha hb hlt => h.tiles_sorted hn (w1 a ha).1 (w1 b hb).1 hlt⟩
  · intro i j hi hj hk
    rw [keysOf_len] at hi hj
    rw [keyAt_keys hi, keyAt_keys hj] at hk
    have h1 := subs_within (k := i) (fun x hx => (h.he x hx).1) (by omega) (by omega)
    have h2 := subs_within (k := j) (fun x hx => (h.he x hx).1) (by omega) (by omega)
    have := key_inj h.ho h1.1.1 h2.1.1 hk
    have e1 := h1.2
    rw [this, h2.2] at e1
    omega
  · rw [sortK_mem]
    unfold bothT
    rw [List.mem_flatMap]
    constructor
    · rintro ⟨a, ha, hx⟩
      rw [h.tileL (w1 a ha).1] at hx
      obtain ⟨s, hs, rfl⟩ := List.mem_map.1 hx
      have := num_subs (h.state (w1 a ha).1 hs).2.1
      omega
    · rintro ⟨x0, x1⟩
      obtain ⟨g1, g2⟩ := subs_within (k := x) (fun x hx => (h.he x hx).1) x0 (by omega)
      generalize subsOf e x = s at g1 g2
      -- the tile
      have hbox : InBox (zeros e.length) (cnt e z) (fill (fun i => s.getD i 0 / z.getD i 0) e.length) := by
        refine ⟨by rw [zeros_len, fill_len], by rw [cnt_len, fill_len], fun i => ?_, fun i hi => ?_⟩
        · rw [zeros_getD]
          by_cases hi : i < e.length
          · rw [fill_getD hi]
            obtain ⟨w, hw⟩ := get_lt (l := z) (i := i) (by rw [h.hl]; exact hi)
            rw [gD_of hw]
            exact Int.ediv_nonneg (g1.2 i hi).1 (by have := h.hz w (List.mem_of_getElem? hw); omega)
          · rw [List.getD_eq_getElem?_getD, List.getElem?_eq_none (by rw [fill_len]; omega)]; decide
        · rw [fill_len] at hi
          obtain ⟨w, hw⟩ := get_lt (l := z) (i := i) (by rw [h.hl]; exact hi)
          have hwb := h.hz w (List.mem_of_getElem? hw)
          have hsb := g1.2 i hi
          rw [cnt, fill_getD hi, fill_getD hi, gC, gD_of hw]
          rw [show e.getD i 0 + w - 1 = (e.getD i 0 - 1) + 1 * w by omega, Int.add_mul_ediv_right _ _ (by omega)]
          have := Int.ediv_le_ediv (show 0 < w by omega) (show s.getD i 0 ≤ e.getD i 0 - 1 by omega)
          omega
      have hlb := left_bdp (g := fun i => (cnt e z).getD i 0 - (zeros e.length).getD i 0) hbox (by rw [fill_len]; exact h.mem) (fun d _ => Int.le_refl _)
      obtain ⟨a, ha, hal⟩ := w3 (leftF (zeros e.length) (cnt e z) l (fill (fun i => s.getD i 0 / z.getD i 0) e.length)) hlb.1 (left_top h.box0 hbox hm0)
      obtain ⟨a1, a2, a3⟩ := w1 a ha
      have hae : a = fill (fun i => s.getD i 0 / z.getD i 0) e.length :=
        vals_inj h.ho (by rw [a2, zeros_len]) (fill_len ..) ((left_vals a1 hbox (by rw [a2]; exact hm0)).2 hal)
      refine ⟨a, ha, ?_⟩
      rw [h.tileL a1, List.mem_map]
      refine ⟨s, ?_, g2⟩
      have hsb : InBox (fill (gF a z) e.length) (fill (gT a z e) e.length) s := by
        refine ⟨by rw [fill_len, g1.1], by rw [fill_len, g1.1], fun i => ?_, fun i hi => ?_⟩
        · by_cases hi : i < e.length
          · obtain ⟨w, hw⟩ := get_lt (l := z) (i := i) (by rw [h.hl]; exact hi)
            have hwb := h.hz w (List.mem_of_getElem? hw)
            rw [fill_getD hi, gF, hae, fill_getD hi, gD_of hw]
            exact Int.ediv_mul_le _ (by omega)
          · rw [List.getD_eq_getElem?_getD, List.getElem?_eq_none (by rw [fill_len]; omega), List.getD_eq_getElem?_getD, List.getElem?_eq_none (by rw [g1.1]; omega)]
            exact Int.le_refl _
        · rw [g1.1] at hi
          obtain ⟨w, hw⟩ := get_lt (l := z) (i := i) (by rw [h.hl]; exact hi)
          have hwb := h.hz w (List.mem_of_getElem? hw)
          have hs2 := g1.2 i hi
          rw [fill_getD hi, gT, gF, hae, fill_getD hi, gD_of hw]
          have := Int.lt_ediv_add_one_mul_self (s.getD i 0) (show 0 < w by omega)
          rw [Int.add_mul, Int.one_mul] at this
          split <;> omega
      obtain ⟨t1, t2, t3⟩ := h.spec a1
      have hlb2 := left_nn hsb (ds := l) (by rw [g1.1]; exact h.mem)
      obtain ⟨s', hs', hl'⟩ := t3 _ hlb2 (left_top (h.tile0 a1) hsb (by rw [fill_len]; exact h.mem))
      have := t1 s' hs'
      have hse : s' = s := vals_inj h.ho (by rw [this.2.1, fill_len]) g1.1 ((left_vals this.1 hsb (by rw [this.2.1, fill_len]; exact h.mem)).2 hl')
      rw [← hse]
      exact hs'
end Go.Proofs.Ytahdihhhankhdaa.V

