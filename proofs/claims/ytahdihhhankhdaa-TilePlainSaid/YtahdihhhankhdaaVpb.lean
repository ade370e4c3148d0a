/-
  V: Both of the program (chapter 20). By the session's own hand.
-/
import Derived.Test.YtahdihhhankhdaaVbt
set_option linter.unusedVariables false
set_option linter.unusedSimpArgs false
set_option maxRecDepth 100000
set_option linter.all false
set_option linter.unnecessarySimpa false
set_option linter.deprecated false
namespace Go.Proofs.Ytahdihhhankhdaa.V
open Go.Proofs.YtahdihhhankhdaaVY Go.RowKit
def R76 : Ct := fun ss hp r out => ∃ n : Int, ss = [.di .i64 n] ∧ hp = [] ∧ r = .db (decide (n < 1 ∨ 400 < n)) ∧ out = []
set_option maxHeartbeats 4000000 in
theorem ok76 : VSound Try.prog (76, R76) := by
  refine vsound (T := ty) (F := []) (pl := []) (nw := true) (cuts := []) mix tyOk .nil Try.func76 (by kernel_rfl) (by kernel_rfl) ?_
  rintro _ _ _ _ ⟨n, rfl, rfl, rfl, rfl⟩
  conv => whnf
  (repeat' (first | ((with_reducible refine And.intro (fun (e : (_ : Bool) = true) => ?_) (fun (e : (_ : Bool) = false) => ?_)) <;> (try simp only [reduceCtorEq, ints_len, bools_len, Bool.not_false, Bool.not_true, List.length_map, decide_eq_true_eq, decide_eq_false_iff_not, Bool.not_eq_true', Bool.not_eq_false', Bool.and_eq_true, Bool.or_eq_true, Bool.and_eq_false_iff, Bool.or_eq_false_iff, beq_iff_eq, bne_iff_ne, beq_eq_false_iff_ne, bne_eq_false_iff_eq, Int.not_lt, Int.not_le, ge_iff_le, gt_iff_lt, not_or, not_and, Bool.cond_true_right, Bool.cond_true_left, Bool.cond_false_right, Bool.cond_false_left, bif_t, bif_f] at e) <;> (conv => whnf)) | (refine And.intro ?_ ?_; ((first | (with_reducible assumption) | (intro _; with_reducible assumption) | omega | (simp only [reduceCtorEq, ints_len, bools_len, Bool.not_false, Bool.not_true, List.length_map, decide_eq_true_eq, decide_eq_false_iff_not, Bool.not_eq_true', Bool.not_eq_false', Bool.and_eq_true, Bool.or_eq_true, Bool.and_eq_false_iff, Bool.or_eq_false_iff, beq_iff_eq, bne_iff_ne, beq_eq_false_iff_ne, bne_eq_false_iff_eq, Int.not_lt, Int.not_le, ge_iff_le, gt_iff_lt, not_or, not_and, Bool.cond_true_right, Bool.cond_true_left, Bool.cond_false_right, Bool.cond_false_left, bif_t, bif_f] at *; omega) | (intro hg; (try simp only [reduceCtorEq, ints_len, bools_len, Bool.not_false, Bool.not_true, List.length_map, decide_eq_true_eq, decide_eq_false_iff_not, Bool.not_eq_true', Bool.not_eq_false', Bool.and_eq_true, Bool.or_eq_true, Bool.and_eq_false_iff, Bool.or_eq_false_iff, beq_iff_eq, bne_iff_ne, beq_eq_false_iff_ne, bne_eq_false_iff_eq, Int.not_lt, Int.not_le, ge_iff_le, gt_iff_lt, not_or, not_and, Bool.cond_true_right, Bool.cond_true_left, Bool.cond_false_right, Bool.cond_false_left, bif_t, bif_f] at hg); first | (with_reducible assumption) | omega | (simp only [reduceCtorEq, ints_len, bools_len, Bool.not_false, Bool.not_true, List.length_map, decide_eq_true_eq, decide_eq_false_iff_not, Bool.not_eq_true', Bool.not_eq_false', Bool.and_eq_true, Bool.or_eq_true, Bool.and_eq_false_iff, Bool.or_eq_false_iff, beq_iff_eq, bne_iff_ne, beq_eq_false_iff_ne, bne_eq_false_iff_eq, Int.not_lt, Int.not_le, ge_iff_le, gt_iff_lt, not_or, not_and, Bool.cond_true_right, Bool.cond_true_left, Bool.cond_false_right, Bool.cond_false_left, bif_t, bif_f] at *; omega) | (refine ⟨?_, ?_⟩ <;> omega)) | (refine ⟨?_, ?_⟩ <;> omega) | (simp [*]; done) | grind)); (conv => whnf))))
  (refine ⟨[], ?_⟩; (conv => whnf); refine ⟨[], .nil, .nil, ?_⟩; (conv => whnf))
  congr 1
  simp only [reduceCtorEq, ints_len, bools_len, Bool.not_false, Bool.not_true, List.length_map, decide_eq_true_eq, decide_eq_false_iff_not, Bool.not_eq_true', Bool.not_eq_false', Bool.and_eq_true, Bool.or_eq_true, Bool.and_eq_false_iff, Bool.or_eq_false_iff, beq_iff_eq, bne_iff_ne, beq_eq_false_iff_ne, bne_eq_false_iff_eq, Int.not_lt, Int.not_le, ge_iff_le, gt_iff_lt, not_or, not_and, Bool.cond_true_right, Bool.cond_true_left, Bool.cond_false_right, Bool.cond_false_left, bif_t, bif_f]
  grind
def fillTo (g : Nat → Int) (n i : Nat) : List Int := (List.range n).map fun j => if j < i then g j else 0
def fill (g : Nat → Int) (n : Nat) : List Int := (List.range n).map g
theorem fill_len (g : Nat → Int) (n : Nat) : (fill g n).length = n := by simp [fill]
theorem fillTo_len (g : Nat → Int) (n i : Nat) : (fillTo g n i).length = n := by simp [fillTo]
theorem fillTo_zero (g : Nat → Int) (n : Nat) : fillTo g n 0 = zeros n := by
  unfold fillTo zeros
  rw [List.eq_replicate_iff]
  simp
theorem fillTo_all (g : Nat → Int) (n : Nat) : fillTo g n n = fill g n := by
  unfold fillTo fill
  refine List.map_congr_left fun j hj => ?_
  rw [if_pos (List.mem_range.1 hj)]
theorem fill_get {g : Nat → Int} {n i : Nat} (h : i < n) : (fill g n)[i]? = some (g i) := by unfold fill; rw [List.getElem?_map, List.getElem?_range h]; rfl
theorem fill_getD {g : Nat → Int} {n i : Nat} (h : i < n) : (fill g n).getD i 0 = g i := gD_of (fill_get h)
theorem fillTo_set {g : Nat → Int} {n i : Nat} (h : i < n) : (fillTo g n i).set i (g i) = fillTo g n (i + 1) := by
  apply List.ext_getElem?
  intro j
  rw [List.getElem?_set]
  unfold fillTo
  by_cases e : i = j
  · subst e
    rw [if_pos rfl, if_pos (by simpa using h), List.getElem?_map, List.getElem?_range h]
    simp
  · rw [if_neg e, List.getElem?_map, List.getElem?_map]
    by_cases hj : j < n
    · rw [List.getElem?_range hj]
      simp only [Option.map_some]
      congr 1
      by_cases h1 : j < i
      · rw [if_pos h1, if_pos (by omega)]
      · rw [if_neg h1, if_neg (by omega)]
    · rw [List.getElem?_eq_none (by simp; omega)]; rfl
def gC (e z : List Int) (j : Nat) : Int := (e.getD j 0 + z.getD j 0 - 1) / z.getD j 0
def gF (a z : List Int) (j : Nat) : Int := a.getD j 0 * z.getD j 0
def gT (a z e : List Int) (j : Nat) : Int := if e.getD j 0 < gF a z j + z.getD j 0 then e.getD j 0 else gF a z j + z.getD j 0
def tileL (e l z a : List Int) : List Int := walkL e (fill (gF a z) e.length) (fill (gT a z e) e.length) l
def cnt (e z : List Int) : List Int := fill (gC e z) e.length
def bothT (e l z : List Int) : List Int :=
  (walkS (zeros e.length) (cnt e z) l (leftF (zeros e.length) (cnt e z) l (zeros e.length)).toNat (zeros e.length)).flatMap (tileL e l z)
def bothP (e l z : List Int) : List Int := if bothOk e l z = true then (if many e = 0 then [] else bothT e l z) else []
theorem walkS_len (f t ds : List Int) : ∀ n s, (walkS f t ds n s).length ≤ n + 1
  | 0, s => Nat.le_refl _
  | n + 1, s => by
    rw [walkS]
    split
    · have := walkS_len f t ds n (nextF f t ds s).2
      simp only [List.length_cons]
      omega
    · simp
theorem zeros_getD (n i : Nat) : (zeros n).getD i 0 = 0 := by
  unfold zeros
  rw [List.getD_eq_getElem?_getD, List.getElem?_replicate]
  split <;> rfl
theorem cnt_len (e z : List Int) : (cnt e z).length = e.length := fill_len ..
/-- the bounds of a tile -/
theorem tile_bd {e z s : List Int} (he : ∀ x ∈ e, 1 ≤ x ∧ x ≤ 400) (hz : ∀ x ∈ z, 1 ≤ x ∧ x ≤ 400) (hl : z.length = e.length) (hs : InBox (zeros e.length) (cnt e z) s) {i : Nat} (hi : i < e.length) :
    0 ≤ s.getD i 0 ∧ 0 ≤ gF s z i ∧ gF s z i < e.getD i 0 ∧ gF s z i < gT s z e i ∧ gT s z e i ≤ e.getD i 0 ∧ e.getD i 0 ≤ 400 ∧ 1 ≤ z.getD i 0 ∧ z.getD i 0 ≤ 400 ∧ s.getD i 0 ≤ 400 := by
  obtain ⟨x, hx⟩ := get_lt (l := e) (i := i) hi
  obtain ⟨w, hw⟩ := get_lt (l := z) (i := i) (by omega)
  have hxb := he x (List.mem_of_getElem? hx)
  have hwb := hz w (List.mem_of_getElem? hw)
  have h1 := hs.lo i
  have h2 := hs.hi i (by have := hs.lf; rw [zeros, List.length_replicate] at this; omega)
  rw [zeros_getD] at h1
  rw [cnt, fill_getD hi, gC, gD_of hx, gD_of hw] at h2
  have h3 : (s.getD i 0 + 1) * w ≤ x + w - 1 := by
    have h4 : (s.getD i 0 + 1) * w ≤ (x + w - 1) / w * w := Int.mul_le_mul_of_nonneg_right (by omega) (by omega)
    have h5 := Int.ediv_mul_le (x + w - 1) (show w ≠ 0 by omega)
    omega
  rw [Int.add_mul, Int.one_mul] at h3
  have h4 : 0 ≤ s.getD i 0 * w := Int.mul_nonneg h1 (by omega)
  have h5 : s.getD i 0 * 1 ≤ s.getD i 0 * w := Int.mul_le_mul_of_nonneg_left (by omega) h1
  unfold gT gF
  rw [gD_of hx, gD_of hw]
  refine ⟨h1, h4, by omega, ?_, ?_, hxb.2, hwb.1, hwb.2, by omega⟩ <;> split <;> omega
theorem tileL_len {e l z s : List Int} (he : ∀ x ∈ e, 1 ≤ x ∧ x ≤ 400) (hz : ∀ x ∈ z, 1 ≤ x ∧ x ≤ 400) (hl : z.length = e.length) (hs : InBox (zeros e.length) (cnt e z) s) (hn : l.length ≤ 3)
    (hb : ∀ d ∈ l, 0 ≤ d ∧ d < e.length) : (tileL e l z s).length ≤ 64000000 := by
  unfold tileL walkL
  split
  · simp
  · rw [List.length_map]
    have h1 := walkS_len (fill (gF s z) e.length) (fill (gT s z e) e.length) l (leftF (fill (gF s z) e.length) (fill (gT s z e) e.length) l (fill (gF s z) e.length)).toNat (fill (gF s z) e.length)
    have hbox : InBox (fill (gF s z) e.length) (fill (gT s z e) e.length) (fill (gF s z) e.length) :=
      ⟨rfl, by rw [fill_len, fill_len], fun i => Int.le_refl _, fun i hi => by
        rw [fill_len] at hi
        rw [fill_getD hi, fill_getD hi]
        exact (tile_bd he hz hl hs hi).2.2.2.1⟩
    have h2 := left_bd (ds := l) (fun x hx => ?_) (fun x hx => ?_) hbox (by rw [fill_len]; exact hb)
    · have h3 : (400 ^ l.length : Nat) ≤ 400 ^ 3 := Nat.pow_le_pow_right (by decide) hn
      omega
    · obtain ⟨j, hj, rfl⟩ := List.mem_map.1 hx
      have := tile_bd he hz hl hs (List.mem_range.1 hj)
      omega
    · obtain ⟨j, hj, rfl⟩ := List.mem_map.1 hx
      have := tile_bd he hz hl hs (List.mem_range.1 hj)
      omega
theorem cnt_le {e z : List Int} (he : ∀ x ∈ e, 1 ≤ x ∧ x ≤ 400) (hz : ∀ x ∈ z, 1 ≤ x ∧ x ≤ 400) (hl : z.length = e.length) : ∀ x ∈ cnt e z, 1 ≤ x ∧ x ≤ 400 := by
  intro y hy
  obtain ⟨i, hi, rfl⟩ := List.mem_map.1 hy
  have hi := List.mem_range.1 hi
  obtain ⟨x, hx⟩ := get_lt (l := e) (i := i) hi
  obtain ⟨w, hw⟩ := get_lt (l := z) (i := i) (by omega)
  have hxb := he x (List.mem_of_getElem? hx)
  have hwb := hz w (List.mem_of_getElem? hw)
  rw [gC, gD_of hx, gD_of hw]
  have h1 : 1 ≤ (x + w - 1) / w := by
    rw [Int.le_ediv_iff_mul_le (by omega)]; omega
  have h2 : (x + w - 1) / w ≤ 400 := by
    have : (x + w - 1) / w < 401 := by
      rw [Int.ediv_lt_iff_lt_mul (by omega)]
      have : 400 * 1 ≤ 400 * w := by omega
      omega
    omega
  exact ⟨h1, h2⟩
theorem left_bdp {f t s : List Int} {g : Nat → Int} (h : InBox f t s) : ∀ {ds : List Int}, (∀ d ∈ ds, 0 ≤ d ∧ d < s.length) → (∀ d ∈ ds, t.getD d.toNat 0 - f.getD d.toNat 0 ≤ g d.toNat) →
    0 ≤ leftF f t ds s ∧ leftF f t ds s + 1 ≤ prod (ds.map fun d => g d.toNat) := by
  intro ds
  induction ds with
  | nil => intro _ _; exact ⟨Int.le_refl _, by show (0 : Int) + 1 ≤ 1; decide⟩
  | cons d ds ih =>
    intro hb hg
    obtain ⟨i1, i2⟩ := ih (fun a ha => hb a (List.mem_cons_of_mem _ ha)) (fun a ha => hg a (List.mem_cons_of_mem _ ha))
    have hd := hb d (List.mem_cons_self ..)
    have hgd := hg d (List.mem_cons_self ..)
    obtain ⟨q, rfl⟩ := Int.eq_ofNat_of_zero_le hd.1
    have hq : q < s.length := by omega
    have lo := h.lo q
    have hi := h.hi q hq
    rw [leftF, List.map_cons, prod]
    rw [Int.toNat_natCast] at hgd ⊢
    have m1 : 0 ≤ (t.getD q 0 - f.getD q 0) * leftF f t ds s := Int.mul_nonneg (by omega) i1
    have m2 : (t.getD q 0 - f.getD q 0) * (leftF f t ds s + 1) ≤ g q * (leftF f t ds s + 1) := Int.mul_le_mul_of_nonneg_right hgd (by omega)
    have m3 : g q * (leftF f t ds s + 1) ≤ g q * prod (ds.map fun d => g d.toNat) := Int.mul_le_mul_of_nonneg_left i2 (by omega)
    rw [Int.mul_add, Int.mul_one] at m2
    refine ⟨by omega, by omega⟩
theorem prod_perm {a b : List Int} (h : a.Perm b) : prod a = prod b := by
  induction h with
  | nil => rfl
  | cons x _ ih => rw [prod, prod, ih]
  | swap x y l => rw [prod, prod, prod, prod, ← Int.mul_assoc, ← Int.mul_assoc, Int.mul_comm x y]
  | trans _ _ h1 h2 => rw [h1, h2]
theorem upTo_map (e : List Int) : (upTo e.length).map (fun d => e.getD d.toNat 0) = e := by
  apply List.ext_getElem?
  intro i
  rw [List.getElem?_map]
  by_cases hi : i < e.length
  · obtain ⟨x, hx⟩ := get_lt hi
    rw [upTo_get hi, Option.map_some, hx, Int.toNat_natCast, gD_of hx]
  · rw [List.getElem?_eq_none (by rw [upTo_len]; omega), List.getElem?_eq_none (by omega)]; rfl
theorem prod_ord {e l : List Int} (h : isOrd l e.length = true) : prod (l.map fun d => e.getD d.toNat 0) = prod e := by
  rw [prod_perm ((isOrd_perm.1 h).map _), upTo_map]
theorem gC_le {e z : List Int} (he : ∀ x ∈ e, 1 ≤ x ∧ x ≤ 400) (hz : ∀ x ∈ z, 1 ≤ x ∧ x ≤ 400) (hl : z.length = e.length) {i : Nat} (hi : i < e.length) : gC e z i - 0 ≤ e.getD i 0 := by
  obtain ⟨x, hx⟩ := get_lt (l := e) (i := i) hi
  obtain ⟨w, hw⟩ := get_lt (l := z) (i := i) (by omega)
  have hxb := he x (List.mem_of_getElem? hx)
  have hwb := hz w (List.mem_of_getElem? hw)
  rw [gC, gD_of hx, gD_of hw]
  have : (x + w - 1) / w < x + 1 := by
    rw [Int.ediv_lt_iff_lt_mul (by omega)]
    have h1 : x * 1 ≤ x * w := Int.mul_le_mul_of_nonneg_left hwb.1 (by omega)
    rw [Int.add_mul, Int.one_mul]
    omega
  omega
def R38 : Ct := fun ss hp r out => ∃ (e l z : List Int), ss = [.one (.d (.sl 1 (e.map inC))), .one (.d (.sl 1 (l.map inC))), .one (.d (.sl 1 (z.map inC)))] ∧ hp = [] ∧ e.length ≤ 1000000 ∧ l.length ≤ 1000000 ∧ z.length ≤ 1000000 ∧ r = .tup [.c (.own 0), .c (.d (.int .i64 (if bothOk e l z then 0 else 2)))] ∧ out = [.row 1 ((bothP e l z).map inC)]
set_option maxHeartbeats 4000000 in
theorem ok38 : VSound Try.prog (38, R38) := by
  refine vsound (T := ty) (F := [(64, R64), (65, R65), (72, R72), (73, R73), (75, R75 76 R76), (77, R77)]) (pl := [(9, [[], [], [], [], [], [3, 4], [3, 4, 5], [2, 3, 4, 5, 6], [2, 3, 4, 5, 6, 7], [], [], [9, 10], [9, 10, 11], [2, 3, 4, 5, 6, 7, 8, 9, 10, 11, 12], [0, 1, 2, 3, 4, 5, 6, 7, 8, 9, 10, 11, 12, 13], [0, 1, 2, 3, 4, 5, 6, 7, 8, 9, 10, 11, 12, 13, 14]], .look 0 (.look 1 (.look 2 (.look 3 (.look 4 (.look 5 (.look 6 (.look 7 (.look 8 (.look 9 (.look 10 (.look 11 (.look 12 (.look 13 (.look 14 (.act 15 [] .done .stop)))))))))))))))), (19, [[], [], [], [], [2, 3], [2, 3, 4], [], [], [6, 7], [6, 7, 8], [2, 3, 4, 5, 6, 7, 8, 9], [], [], [11, 12], [11, 12, 13], [2, 3, 4, 5, 6, 7, 8, 9, 10, 11, 12, 13, 14], [0, 1, 2, 3, 4, 5, 6, 7, 8, 9, 10, 11, 12, 13, 14, 15], [0, 1, 2, 3, 4, 5, 6, 7, 8, 9, 10, 11, 12, 13, 14, 15, 16]], .look 0 (.look 1 (.look 2 (.look 3 (.look 4 (.look 5 (.look 6 (.look 7 (.look 8 (.look 9 (.look 10 (.look 11 (.look 12 (.look 13 (.look 14 (.look 15 (.look 16 (.act 17 [] .done .stop))))))))))))))))))]) (nw := true) (cuts := []) mix tyOk (.cons (ok64) (.cons (ok65) (.cons (ok72) (.cons (ok73) (.cons (ok75 76 R76 ok76) (.cons (ok77) .nil)))))) Try.func38 (by kernel_rfl) (by kernel_rfl) ?_
  rintro _ _ _ _ ⟨ex, l, z, rfl, rfl, hel, hll, hzl, rfl, rfl⟩
  conv => whnf
  (refine ⟨[], false, false, ?_⟩; (conv => whnf); refine ⟨_, _, ⟨ex, rfl, rfl, by omega, rfl, rfl⟩, ?_⟩; (conv => whnf))
  (repeat' (first | ((with_reducible refine And.intro (fun (e : (_ : Bool) = true) => ?_) (fun (e : (_ : Bool) = false) => ?_)) <;> (try simp only [reduceCtorEq, ints_len, bools_len, Bool.not_false, Bool.not_true, List.length_map, decide_eq_true_eq, decide_eq_false_iff_not, Bool.not_eq_true', Bool.not_eq_false', Bool.and_eq_true, Bool.or_eq_true, Bool.and_eq_false_iff, Bool.or_eq_false_iff, beq_iff_eq, bne_iff_ne, beq_eq_false_iff_ne, bne_eq_false_iff_eq, Int.not_lt, Int.not_le, ge_iff_le, gt_iff_lt, not_or, not_and, Bool.cond_true_right, Bool.cond_true_left, Bool.cond_false_right, Bool.cond_false_left, bif_t, bif_f] at e) <;> (conv => whnf)) | ((with_reducible refine And.intro (fun (e : (_ : Bool) = false) => ?_) (fun (e : (_ : Bool) = true) => ?_)) <;> (try simp only [reduceCtorEq, ints_len, bools_len, Bool.not_false, Bool.not_true, List.length_map, decide_eq_true_eq, decide_eq_false_iff_not, Bool.not_eq_true', Bool.not_eq_false', Bool.and_eq_true, Bool.or_eq_true, Bool.and_eq_false_iff, Bool.or_eq_false_iff, beq_iff_eq, bne_iff_ne, beq_eq_false_iff_ne, bne_eq_false_iff_eq, Int.not_lt, Int.not_le, ge_iff_le, gt_iff_lt, not_or, not_and, Bool.cond_true_right, Bool.cond_true_left, Bool.cond_false_right, Bool.cond_false_left, bif_t, bif_f] at e) <;> (conv => whnf)) | (refine And.intro ?_ ?_; ((first | (with_reducible assumption) | (intro _; with_reducible assumption) | omega | (simp only [reduceCtorEq, ints_len, bools_len, Bool.not_false, Bool.not_true, List.length_map, decide_eq_true_eq, decide_eq_false_iff_not, Bool.not_eq_true', Bool.not_eq_false', Bool.and_eq_true, Bool.or_eq_true, Bool.and_eq_false_iff, Bool.or_eq_false_iff, beq_iff_eq, bne_iff_ne, beq_eq_false_iff_ne, bne_eq_false_iff_eq, Int.not_lt, Int.not_le, ge_iff_le, gt_iff_lt, not_or, not_and, Bool.cond_true_right, Bool.cond_true_left, Bool.cond_false_right, Bool.cond_false_left, bif_t, bif_f] at *; omega) | (intro hg; (try simp only [reduceCtorEq, ints_len, bools_len, Bool.not_false, Bool.not_true, List.length_map, decide_eq_true_eq, decide_eq_false_iff_not, Bool.not_eq_true', Bool.not_eq_false', Bool.and_eq_true, Bool.or_eq_true, Bool.and_eq_false_iff, Bool.or_eq_false_iff, beq_iff_eq, bne_iff_ne, beq_eq_false_iff_ne, bne_eq_false_iff_eq, Int.not_lt, Int.not_le, ge_iff_le, gt_iff_lt, not_or, not_and, Bool.cond_true_right, Bool.cond_true_left, Bool.cond_false_right, Bool.cond_false_left, bif_t, bif_f] at hg); first | (with_reducible assumption) | omega | (simp only [reduceCtorEq, ints_len, bools_len, Bool.not_false, Bool.not_true, List.length_map, decide_eq_true_eq, decide_eq_false_iff_not, Bool.not_eq_true', Bool.not_eq_false', Bool.and_eq_true, Bool.or_eq_true, Bool.and_eq_false_iff, Bool.or_eq_false_iff, beq_iff_eq, bne_iff_ne, beq_eq_false_iff_ne, bne_eq_false_iff_eq, Int.not_lt, Int.not_le, ge_iff_le, gt_iff_lt, not_or, not_and, Bool.cond_true_right, Bool.cond_true_left, Bool.cond_false_right, Bool.cond_false_left, bif_t, bif_f] at *; omega) | (refine ⟨?_, ?_⟩ <;> omega)) | (refine ⟨?_, ?_⟩ <;> omega) | (simp [*]; done) | grind)); (conv => whnf))))
  all_goals try ((refine ⟨[], false, false, ?_⟩; (conv => whnf); refine ⟨_, _, ⟨ex, l, rfl, rfl, hll, hel, rfl, rfl⟩, ?_⟩; (conv => whnf)); (repeat' (first | ((with_reducible refine And.intro (fun (e : (_ : Bool) = true) => ?_) (fun (e : (_ : Bool) = false) => ?_)) <;> (try simp only [reduceCtorEq, ints_len, bools_len, Bool.not_false, Bool.not_true, List.length_map, decide_eq_true_eq, decide_eq_false_iff_not, Bool.not_eq_true', Bool.not_eq_false', Bool.and_eq_true, Bool.or_eq_true, Bool.and_eq_false_iff, Bool.or_eq_false_iff, beq_iff_eq, bne_iff_ne, beq_eq_false_iff_ne, bne_eq_false_iff_eq, Int.not_lt, Int.not_le, ge_iff_le, gt_iff_lt, not_or, not_and, Bool.cond_true_right, Bool.cond_true_left, Bool.cond_false_right, Bool.cond_false_left, bif_t, bif_f] at e) <;> (conv => whnf)) | ((with_reducible refine And.intro (fun (e : (_ : Bool) = false) => ?_) (fun (e : (_ : Bool) = true) => ?_)) <;> (try simp only [reduceCtorEq, ints_len, bools_len, Bool.not_false, Bool.not_true, List.length_map, decide_eq_true_eq, decide_eq_false_iff_not, Bool.not_eq_true', Bool.not_eq_false', Bool.and_eq_true, Bool.or_eq_true, Bool.and_eq_false_iff, Bool.or_eq_false_iff, beq_iff_eq, bne_iff_ne, beq_eq_false_iff_ne, bne_eq_false_iff_eq, Int.not_lt, Int.not_le, ge_iff_le, gt_iff_lt, not_or, not_and, Bool.cond_true_right, Bool.cond_true_left, Bool.cond_false_right, Bool.cond_false_left, bif_t, bif_f] at e) <;> (conv => whnf)) | (refine And.intro ?_ ?_; ((first | (with_reducible assumption) | (intro _; with_reducible assumption) | omega | (simp only [reduceCtorEq, ints_len, bools_len, Bool.not_false, Bool.not_true, List.length_map, decide_eq_true_eq, decide_eq_false_iff_not, Bool.not_eq_true', Bool.not_eq_false', Bool.and_eq_true, Bool.or_eq_true, Bool.and_eq_false_iff, Bool.or_eq_false_iff, beq_iff_eq, bne_iff_ne, beq_eq_false_iff_ne, bne_eq_false_iff_eq, Int.not_lt, Int.not_le, ge_iff_le, gt_iff_lt, not_or, not_and, Bool.cond_true_right, Bool.cond_true_left, Bool.cond_false_right, Bool.cond_false_left, bif_t, bif_f] at *; omega) | (intro hg; (try simp only [reduceCtorEq, ints_len, bools_len, Bool.not_false, Bool.not_true, List.length_map, decide_eq_true_eq, decide_eq_false_iff_not, Bool.not_eq_true', Bool.not_eq_false', Bool.and_eq_true, Bool.or_eq_true, Bool.and_eq_false_iff, Bool.or_eq_false_iff, beq_iff_eq, bne_iff_ne, beq_eq_false_iff_ne, bne_eq_false_iff_eq, Int.not_lt, Int.not_le, ge_iff_le, gt_iff_lt, not_or, not_and, Bool.cond_true_right, Bool.cond_true_left, Bool.cond_false_right, Bool.cond_false_left, bif_t, bif_f] at hg); first | (with_reducible assumption) | omega | (simp only [reduceCtorEq, ints_len, bools_len, Bool.not_false, Bool.not_true, List.length_map, decide_eq_true_eq, decide_eq_false_iff_not, Bool.not_eq_true', Bool.not_eq_false', Bool.and_eq_true, Bool.or_eq_true, Bool.and_eq_false_iff, Bool.or_eq_false_iff, beq_iff_eq, bne_iff_ne, beq_eq_false_iff_ne, bne_eq_false_iff_eq, Int.not_lt, Int.not_le, ge_iff_le, gt_iff_lt, not_or, not_and, Bool.cond_true_right, Bool.cond_true_left, Bool.cond_false_right, Bool.cond_false_left, bif_t, bif_f] at *; omega) | (refine ⟨?_, ?_⟩ <;> omega)) | (refine ⟨?_, ?_⟩ <;> omega) | (simp [*]; done) | grind)); (conv => whnf)))))
  all_goals try (rw [map_len]; (repeat' (first | ((with_reducible refine And.intro (fun (e : (_ : Bool) = true) => ?_) (fun (e : (_ : Bool) = false) => ?_)) <;> (try simp only [reduceCtorEq, ints_len, bools_len, Bool.not_false, Bool.not_true, List.length_map, decide_eq_true_eq, decide_eq_false_iff_not, Bool.not_eq_true', Bool.not_eq_false', Bool.and_eq_true, Bool.or_eq_true, Bool.and_eq_false_iff, Bool.or_eq_false_iff, beq_iff_eq, bne_iff_ne, beq_eq_false_iff_ne, bne_eq_false_iff_eq, Int.not_lt, Int.not_le, ge_iff_le, gt_iff_lt, not_or, not_and, Bool.cond_true_right, Bool.cond_true_left, Bool.cond_false_right, Bool.cond_false_left, bif_t, bif_f] at e) <;> (conv => whnf)) | ((with_reducible refine And.intro (fun (e : (_ : Bool) = false) => ?_) (fun (e : (_ : Bool) = true) => ?_)) <;> (try simp only [reduceCtorEq, ints_len, bools_len, Bool.not_false, Bool.not_true, List.length_map, decide_eq_true_eq, decide_eq_false_iff_not, Bool.not_eq_true', Bool.not_eq_false', Bool.and_eq_true, Bool.or_eq_true, Bool.and_eq_false_iff, Bool.or_eq_false_iff, beq_iff_eq, bne_iff_ne, beq_eq_false_iff_ne, bne_eq_false_iff_eq, Int.not_lt, Int.not_le, ge_iff_le, gt_iff_lt, not_or, not_and, Bool.cond_true_right, Bool.cond_true_left, Bool.cond_false_right, Bool.cond_false_left, bif_t, bif_f] at e) <;> (conv => whnf)) | (refine And.intro ?_ ?_; ((first | (with_reducible assumption) | (intro _; with_reducible assumption) | omega | (simp only [reduceCtorEq, ints_len, bools_len, Bool.not_false, Bool.not_true, List.length_map, decide_eq_true_eq, decide_eq_false_iff_not, Bool.not_eq_true', Bool.not_eq_false', Bool.and_eq_true, Bool.or_eq_true, Bool.and_eq_false_iff, Bool.or_eq_false_iff, beq_iff_eq, bne_iff_ne, beq_eq_false_iff_ne, bne_eq_false_iff_eq, Int.not_lt, Int.not_le, ge_iff_le, gt_iff_lt, not_or, not_and, Bool.cond_true_right, Bool.cond_true_left, Bool.cond_false_right, Bool.cond_false_left, bif_t, bif_f] at *; omega) | (intro hg; (try simp only [reduceCtorEq, ints_len, bools_len, Bool.not_false, Bool.not_true, List.length_map, decide_eq_true_eq, decide_eq_false_iff_not, Bool.not_eq_true', Bool.not_eq_false', Bool.and_eq_true, Bool.or_eq_true, Bool.and_eq_false_iff, Bool.or_eq_false_iff, beq_iff_eq, bne_iff_ne, beq_eq_false_iff_ne, bne_eq_false_iff_eq, Int.not_lt, Int.not_le, ge_iff_le, gt_iff_lt, not_or, not_and, Bool.cond_true_right, Bool.cond_true_left, Bool.cond_false_right, Bool.cond_false_left, bif_t, bif_f] at hg); first | (with_reducible assumption) | omega | (simp only [reduceCtorEq, ints_len, bools_len, Bool.not_false, Bool.not_true, List.length_map, decide_eq_true_eq, decide_eq_false_iff_not, Bool.not_eq_true', Bool.not_eq_false', Bool.and_eq_true, Bool.or_eq_true, Bool.and_eq_false_iff, Bool.or_eq_false_iff, beq_iff_eq, bne_iff_ne, beq_eq_false_iff_ne, bne_eq_false_iff_eq, Int.not_lt, Int.not_le, ge_iff_le, gt_iff_lt, not_or, not_and, Bool.cond_true_right, Bool.cond_true_left, Bool.cond_false_right, Bool.cond_false_left, bif_t, bif_f] at *; omega) | (refine ⟨?_, ?_⟩ <;> omega)) | (refine ⟨?_, ?_⟩ <;> omega) | (simp [*]; done) | grind)); (conv => whnf)))))
  all_goals try (rw [map_len]; (repeat' (first | ((with_reducible refine And.intro (fun (e : (_ : Bool) = true) => ?_) (fun (e : (_ : Bool) = false) => ?_)) <;> (try simp only [reduceCtorEq, ints_len, bools_len, Bool.not_false, Bool.not_true, List.length_map, decide_eq_true_eq, decide_eq_false_iff_not, Bool.not_eq_true', Bool.not_eq_false', Bool.and_eq_true, Bool.or_eq_true, Bool.and_eq_false_iff, Bool.or_eq_false_iff, beq_iff_eq, bne_iff_ne, beq_eq_false_iff_ne, bne_eq_false_iff_eq, Int.not_lt, Int.not_le, ge_iff_le, gt_iff_lt, not_or, not_and, Bool.cond_true_right, Bool.cond_true_left, Bool.cond_false_right, Bool.cond_false_left, bif_t, bif_f] at e) <;> (conv => whnf)) | ((with_reducible refine And.intro (fun (e : (_ : Bool) = false) => ?_) (fun (e : (_ : Bool) = true) => ?_)) <;> (try simp only [reduceCtorEq, ints_len, bools_len, Bool.not_false, Bool.not_true, List.length_map, decide_eq_true_eq, decide_eq_false_iff_not, Bool.not_eq_true', Bool.not_eq_false', Bool.and_eq_true, Bool.or_eq_true, Bool.and_eq_false_iff, Bool.or_eq_false_iff, beq_iff_eq, bne_iff_ne, beq_eq_false_iff_ne, bne_eq_false_iff_eq, Int.not_lt, Int.not_le, ge_iff_le, gt_iff_lt, not_or, not_and, Bool.cond_true_right, Bool.cond_true_left, Bool.cond_false_right, Bool.cond_false_left, bif_t, bif_f] at e) <;> (conv => whnf)) | (refine And.intro ?_ ?_; ((first | (with_reducible assumption) | (intro _; with_reducible assumption) | omega | (simp only [reduceCtorEq, ints_len, bools_len, Bool.not_false, Bool.not_true, List.length_map, decide_eq_true_eq, decide_eq_false_iff_not, Bool.not_eq_true', Bool.not_eq_false', Bool.and_eq_true, Bool.or_eq_true, Bool.and_eq_false_iff, Bool.or_eq_false_iff, beq_iff_eq, bne_iff_ne, beq_eq_false_iff_ne, bne_eq_false_iff_eq, Int.not_lt, Int.not_le, ge_iff_le, gt_iff_lt, not_or, not_and, Bool.cond_true_right, Bool.cond_true_left, Bool.cond_false_right, Bool.cond_false_left, bif_t, bif_f] at *; omega) | (intro hg; (try simp only [reduceCtorEq, ints_len, bools_len, Bool.not_false, Bool.not_true, List.length_map, decide_eq_true_eq, decide_eq_false_iff_not, Bool.not_eq_true', Bool.not_eq_false', Bool.and_eq_true, Bool.or_eq_true, Bool.and_eq_false_iff, Bool.or_eq_false_iff, beq_iff_eq, bne_iff_ne, beq_eq_false_iff_ne, bne_eq_false_iff_eq, Int.not_lt, Int.not_le, ge_iff_le, gt_iff_lt, not_or, not_and, Bool.cond_true_right, Bool.cond_true_left, Bool.cond_false_right, Bool.cond_false_left, bif_t, bif_f] at hg); first | (with_reducible assumption) | omega | (simp only [reduceCtorEq, ints_len, bools_len, Bool.not_false, Bool.not_true, List.length_map, decide_eq_true_eq, decide_eq_false_iff_not, Bool.not_eq_true', Bool.not_eq_false', Bool.and_eq_true, Bool.or_eq_true, Bool.and_eq_false_iff, Bool.or_eq_false_iff, beq_iff_eq, bne_iff_ne, beq_eq_false_iff_ne, bne_eq_false_iff_eq, Int.not_lt, Int.not_le, ge_iff_le, gt_iff_lt, not_or, not_and, Bool.cond_true_right, Bool.cond_true_left, Bool.cond_false_right, Bool.cond_false_left, bif_t, bif_f] at *; omega) | (refine ⟨?_, ?_⟩ <;> omega)) | (refine ⟨?_, ?_⟩ <;> omega) | (simp [*]; done) | grind)); (conv => whnf)))))
  all_goals try ((refine ⟨[], false, false, ?_⟩; (conv => whnf); refine ⟨_, _, ⟨z, [], fun n => decide (n < 1 ∨ 400 < n), rfl, rfl, by omega, rfl, fun x _ => ⟨x, rfl, rfl, rfl, rfl⟩, rfl, rfl⟩, ?_⟩; (conv => whnf)); (repeat' (first | ((with_reducible refine And.intro (fun (e : (_ : Bool) = true) => ?_) (fun (e : (_ : Bool) = false) => ?_)) <;> (try simp only [reduceCtorEq, ints_len, bools_len, Bool.not_false, Bool.not_true, List.length_map, decide_eq_true_eq, decide_eq_false_iff_not, Bool.not_eq_true', Bool.not_eq_false', Bool.and_eq_true, Bool.or_eq_true, Bool.and_eq_false_iff, Bool.or_eq_false_iff, beq_iff_eq, bne_iff_ne, beq_eq_false_iff_ne, bne_eq_false_iff_eq, Int.not_lt, Int.not_le, ge_iff_le, gt_iff_lt, not_or, not_and, Bool.cond_true_right, Bool.cond_true_left, Bool.cond_false_right, Bool.cond_false_left, bif_t, bif_f] at e) <;> (conv => whnf)) | ((with_reducible refine And.intro (fun (e : (_ : Bool) = false) => ?_) (fun (e : (_ : Bool) = true) => ?_)) <;> (try simp only [reduceCtorEq, ints_len, bools_len, Bool.not_false, Bool.not_true, List.length_map, decide_eq_true_eq, decide_eq_false_iff_not, Bool.not_eq_true', Bool.not_eq_false', Bool.and_eq_true, Bool.or_eq_true, Bool.and_eq_false_iff, Bool.or_eq_false_iff, beq_iff_eq, bne_iff_ne, beq_eq_false_iff_ne, bne_eq_false_iff_eq, Int.not_lt, Int.not_le, ge_iff_le, gt_iff_lt, not_or, not_and, Bool.cond_true_right, Bool.cond_true_left, Bool.cond_false_right, Bool.cond_false_left, bif_t, bif_f] at e) <;> (conv => whnf)) | (refine And.intro ?_ ?_; ((first | (with_reducible assumption) | (intro _; with_reducible assumption) | omega | (simp only [reduceCtorEq, ints_len, bools_len, Bool.not_false, Bool.not_true, List.length_map, decide_eq_true_eq, decide_eq_false_iff_not, Bool.not_eq_true', Bool.not_eq_false', Bool.and_eq_true, Bool.or_eq_true, Bool.and_eq_false_iff, Bool.or_eq_false_iff, beq_iff_eq, bne_iff_ne, beq_eq_false_iff_ne, bne_eq_false_iff_eq, Int.not_lt, Int.not_le, ge_iff_le, gt_iff_lt, not_or, not_and, Bool.cond_true_right, Bool.cond_true_left, Bool.cond_false_right, Bool.cond_false_left, bif_t, bif_f] at *; omega) | (intro hg; (try simp only [reduceCtorEq, ints_len, bools_len, Bool.not_false, Bool.not_true, List.length_map, decide_eq_true_eq, decide_eq_false_iff_not, Bool.not_eq_true', Bool.not_eq_false', Bool.and_eq_true, Bool.or_eq_true, Bool.and_eq_false_iff, Bool.or_eq_false_iff, beq_iff_eq, bne_iff_ne, beq_eq_false_iff_ne, bne_eq_false_iff_eq, Int.not_lt, Int.not_le, ge_iff_le, gt_iff_lt, not_or, not_and, Bool.cond_true_right, Bool.cond_true_left, Bool.cond_false_right, Bool.cond_false_left, bif_t, bif_f] at hg); first | (with_reducible assumption) | omega | (simp only [reduceCtorEq, ints_len, bools_len, Bool.not_false, Bool.not_true, List.length_map, decide_eq_true_eq, decide_eq_false_iff_not, Bool.not_eq_true', Bool.not_eq_false', Bool.and_eq_true, Bool.or_eq_true, Bool.and_eq_false_iff, Bool.or_eq_false_iff, beq_iff_eq, bne_iff_ne, beq_eq_false_iff_ne, bne_eq_false_iff_eq, Int.not_lt, Int.not_le, ge_iff_le, gt_iff_lt, not_or, not_and, Bool.cond_true_right, Bool.cond_true_left, Bool.cond_false_right, Bool.cond_false_left, bif_t, bif_f] at *; omega) | (refine ⟨?_, ?_⟩ <;> omega)) | (refine ⟨?_, ?_⟩ <;> omega) | (simp [*]; done) | grind)); (conv => whnf)))))
  · have e1 := e
    have ho : bothOk ex l z = false := by
      unfold bothOk
      rcases e1 with ((h | h) | h) | h
      · rw [decide_eq_false (by omega)]; rfl
      · rw [h, Bool.and_false]; rfl
      · rw [decide_eq_false (p := z.length = ex.length) (by omega)]; simp
      · rw [show sizeBad z = true from h]; simp
    refine ⟨[.slot 6 true], ?_⟩
    conv => whnf
    unfold bothP
    rw [ho]
    exact ⟨[0], by simp, .cons ⟨_, rfl, rfl, rfl⟩ .nil, .cons rfl (.cons rfl .nil)⟩
  · obtain ⟨⟨⟨e1, e2⟩, e3⟩, hsb⟩ := e
    have e4 : z.length = ex.length := by omega
    obtain ⟨b1, b2, b3, b4, b5⟩ := many_ok e1
    obtain ⟨c1, c2, c3⟩ := isOrd_iff.1 e2
    have hza : ∀ x ∈ z, 1 ≤ x ∧ x ≤ 400 := by
      intro x hx
      have := List.any_eq_false.1 hsb x hx
      simp only [decide_eq_true_eq] at this
      omega
    have ho : bothOk ex l z = true := by
      unfold bothOk
      rw [decide_eq_true e1, e2, decide_eq_true e4, show sizeBad z = false from hsb]; rfl
    unfold bothP
    rw [ho, if_pos rfl]
    (refine ⟨[], false, false, ?_⟩; (conv => whnf); refine ⟨_, _, ⟨ex, rfl, rfl, by omega, rfl, rfl⟩, ?_⟩; (conv => whnf))
    ((with_reducible refine And.intro (fun (e : (_ : Bool) = true) => ?_) (fun (e : (_ : Bool) = false) => ?_)) <;> (try simp only [reduceCtorEq, ints_len, bools_len, Bool.not_false, Bool.not_true, List.length_map, decide_eq_true_eq, decide_eq_false_iff_not, Bool.not_eq_true', Bool.not_eq_false', Bool.and_eq_true, Bool.or_eq_true, Bool.and_eq_false_iff, Bool.or_eq_false_iff, beq_iff_eq, bne_iff_ne, beq_eq_false_iff_ne, bne_eq_false_iff_eq, Int.not_lt, Int.not_le, ge_iff_le, gt_iff_lt, not_or, not_and, Bool.cond_true_right, Bool.cond_true_left, Bool.cond_false_right, Bool.cond_false_left, bif_t, bif_f] at e) <;> (conv => whnf))
    · have e5 : many ex = 0 := e
      rw [if_pos e5]
      refine ⟨[.slot 6 true], ?_⟩
      conv => whnf
      exact ⟨[0], by simp, .cons ⟨_, rfl, rfl, rfl⟩ .nil, .cons rfl (.cons rfl .nil)⟩
    · have e5 : ¬many ex = 0 := e
      rw [if_neg e5]
      have hex1 : ∀ x ∈ ex, 1 ≤ x := fun x hx => by
        have h1 := b3 x hx
        have h2 : x ≠ 0 := fun h => by
          have := prodZero (by rw [h] at hx; exact hx)
          omega
        omega
      rw [map_len]
      (refine And.intro ?_ ?_; ((first | (with_reducible assumption) | (intro _; with_reducible assumption) | omega | (simp only [reduceCtorEq, ints_len, bools_len, Bool.not_false, Bool.not_true, List.length_map, decide_eq_true_eq, decide_eq_false_iff_not, Bool.not_eq_true', Bool.not_eq_false', Bool.and_eq_true, Bool.or_eq_true, Bool.and_eq_false_iff, Bool.or_eq_false_iff, beq_iff_eq, bne_iff_ne, beq_eq_false_iff_ne, bne_eq_false_iff_eq, Int.not_lt, Int.not_le, ge_iff_le, gt_iff_lt, not_or, not_and, Bool.cond_true_right, Bool.cond_true_left, Bool.cond_false_right, Bool.cond_false_left, bif_t, bif_f] at *; omega) | (intro hg; (try simp only [reduceCtorEq, ints_len, bools_len, Bool.not_false, Bool.not_true, List.length_map, decide_eq_true_eq, decide_eq_false_iff_not, Bool.not_eq_true', Bool.not_eq_false', Bool.and_eq_true, Bool.or_eq_true, Bool.and_eq_false_iff, Bool.or_eq_false_iff, beq_iff_eq, bne_iff_ne, beq_eq_false_iff_ne, bne_eq_false_iff_eq, Int.not_lt, Int.not_le, ge_iff_le, gt_iff_lt, not_or, not_and, Bool.cond_true_right, Bool.cond_true_left, Bool.cond_false_right, Bool.cond_false_left, bif_t, bif_f] at hg); first | (with_reducible assumption) | omega | (simp only [reduceCtorEq, ints_len, bools_len, Bool.not_false, Bool.not_true, List.length_map, decide_eq_true_eq, decide_eq_false_iff_not, Bool.not_eq_true', Bool.not_eq_false', Bool.and_eq_true, Bool.or_eq_true, Bool.and_eq_false_iff, Bool.or_eq_false_iff, beq_iff_eq, bne_iff_ne, beq_eq_false_iff_ne, bne_eq_false_iff_eq, Int.not_lt, Int.not_le, ge_iff_le, gt_iff_lt, not_or, not_and, Bool.cond_true_right, Bool.cond_true_left, Bool.cond_false_right, Bool.cond_false_left, bif_t, bif_f] at *; omega) | (refine ⟨?_, ?_⟩ <;> omega)) | (refine ⟨?_, ?_⟩ <;> omega) | (simp [*]; done) | grind)); (conv => whnf))
      have hz0 : List.replicate ((ex.length : Nat) : Int).toNat [D.int .i64 0] = (fillTo (gC ex z) ex.length 0).map inC := by
        rw [Int.toNat_natCast, fillTo_zero, zeros, List.map_replicate]
      rw [hz0]
      refine ⟨[], [0, 1, 2, 8, 44, 45, 46], 1, fun n1 σ => ∃ i : Nat, i ≤ ex.length ∧ n1 = ex.length - i ∧ σ = (⟨[.one (.d (.sl 1 (ex.map inC))), .one (.d (.sl 1 (l.map inC))), .one (.d (.sl 1 (z.map inC))), .junk, .junk, .junk, .junk, .junk, .one (.own 0), .junk, .junk, .junk, .junk, .junk, .junk, .junk, .junk, .junk, .junk, .junk, .junk, .junk, .junk, .junk, .junk, .junk, .junk, .junk, .junk, .junk, .junk, .junk, .junk, .junk, .junk, .junk, .junk, .junk, .junk, .junk, .junk, .junk, .junk, .junk, .one (.d (.sl 1 (ex.map inC))), .di .i64 ex.length, .di .i64 i, .junk, .junk, .junk, .junk, .junk, .junk, .junk, .junk, .junk, .junk, .junk, .junk, .junk, .junk, .junk, .junk, .junk, .junk, .junk, .junk, .junk, .junk, .junk, .junk, .junk, .junk, .junk, .junk, .junk, .junk, .junk, .junk, .junk, .junk, .junk, .junk, .junk, .junk, .junk, .junk, .junk, .junk, .junk, .junk, .junk, .junk, .junk, .junk, .junk, .junk, .junk, .junk, .junk, .junk, .junk, .junk, .junk, .junk, .junk, .junk, .junk, .junk, .junk, .junk, .junk, .junk, .junk, .junk, .junk, .junk, .junk, .junk, .junk, .junk, .junk, .junk, .junk], [.row 1 ((fillTo (gC ex z) ex.length i).map inC)]⟩ : St), ?_, ?_⟩
      · refine ⟨ex.length, ?_⟩
        conv => whnf
        refine ⟨0, by omega, by omega, ?_⟩
        try rw [map_len]
        rfl
      · rintro n1 _ ⟨i, hi, rfl, rfl⟩
        conv => whnf
        ((with_reducible refine And.intro (fun (e : (_ : Bool) = true) => ?_) (fun (e : (_ : Bool) = false) => ?_)) <;> (try simp only [reduceCtorEq, ints_len, bools_len, Bool.not_false, Bool.not_true, List.length_map, decide_eq_true_eq, decide_eq_false_iff_not, Bool.not_eq_true', Bool.not_eq_false', Bool.and_eq_true, Bool.or_eq_true, Bool.and_eq_false_iff, Bool.or_eq_false_iff, beq_iff_eq, bne_iff_ne, beq_eq_false_iff_ne, bne_eq_false_iff_eq, Int.not_lt, Int.not_le, ge_iff_le, gt_iff_lt, not_or, not_and, Bool.cond_true_right, Bool.cond_true_left, Bool.cond_false_right, Bool.cond_false_left, bif_t, bif_f] at e) <;> (conv => whnf))
        · obtain ⟨x, hx⟩ := get_lt (l := ex) (i := i) (by omega)
          obtain ⟨w, hw⟩ := get_lt (l := z) (i := i) (by omega)
          obtain ⟨y, hy⟩ := get_lt (l := fillTo (gC ex z) ex.length i) (i := i) (by rw [fillTo_len]; omega)
          have hxb := b3 x (List.mem_of_getElem? hx)
          have hwb := hza w (List.mem_of_getElem? hw)
          have hq0 : 0 ≤ (x + w - 1) / w := Int.ediv_nonneg (by omega) (by omega)
          have hq1 : (x + w - 1) / w ≤ (x + w - 1) := Int.ediv_le_self _ (by omega)
          have hq : (x + w - 1).tdiv w = (x + w - 1) / w := Int.tdiv_eq_ediv_of_nonneg (by omega)
          have hset : ((fillTo (gC ex z) ex.length i).map inC).set (i : Int).toNat [D.int .i64 ((x + w - 1) / w)] = (fillTo (gC ex z) ex.length (i + 1)).map inC := by
            rw [← fillTo_set (by omega), Int.toNat_natCast, List.map_set, gC, gD_of hx, gD_of hw]
          (refine ⟨_, And.intro ⟨by omega, enc_get hx⟩ ?_⟩; (conv => whnf))
          (refine ⟨_, And.intro ⟨by omega, enc_get hw⟩ ?_⟩; (conv => whnf))
          (repeat (refine And.intro ?_ ?_; ((first | (with_reducible assumption) | (intro _; with_reducible assumption) | omega | (simp only [reduceCtorEq, ints_len, bools_len, Bool.not_false, Bool.not_true, List.length_map, decide_eq_true_eq, decide_eq_false_iff_not, Bool.not_eq_true', Bool.not_eq_false', Bool.and_eq_true, Bool.or_eq_true, Bool.and_eq_false_iff, Bool.or_eq_false_iff, beq_iff_eq, bne_iff_ne, beq_eq_false_iff_ne, bne_eq_false_iff_eq, Int.not_lt, Int.not_le, ge_iff_le, gt_iff_lt, not_or, not_and, Bool.cond_true_right, Bool.cond_true_left, Bool.cond_false_right, Bool.cond_false_left, bif_t, bif_f] at *; omega) | (intro hg; (try simp only [reduceCtorEq, ints_len, bools_len, Bool.not_false, Bool.not_true, List.length_map, decide_eq_true_eq, decide_eq_false_iff_not, Bool.not_eq_true', Bool.not_eq_false', Bool.and_eq_true, Bool.or_eq_true, Bool.and_eq_false_iff, Bool.or_eq_false_iff, beq_iff_eq, bne_iff_ne, beq_eq_false_iff_ne, bne_eq_false_iff_eq, Int.not_lt, Int.not_le, ge_iff_le, gt_iff_lt, not_or, not_and, Bool.cond_true_right, Bool.cond_true_left, Bool.cond_false_right, Bool.cond_false_left, bif_t, bif_f] at hg); first | (with_reducible assumption) | omega | (simp only [reduceCtorEq, ints_len, bools_len, Bool.not_false, Bool.not_true, List.length_map, decide_eq_true_eq, decide_eq_false_iff_not, Bool.not_eq_true', Bool.not_eq_false', Bool.and_eq_true, Bool.or_eq_true, Bool.and_eq_false_iff, Bool.or_eq_false_iff, beq_iff_eq, bne_iff_ne, beq_eq_false_iff_ne, bne_eq_false_iff_eq, Int.not_lt, Int.not_le, ge_iff_le, gt_iff_lt, not_or, not_and, Bool.cond_true_right, Bool.cond_true_left, Bool.cond_false_right, Bool.cond_false_left, bif_t, bif_f] at *; omega) | (refine ⟨?_, ?_⟩ <;> omega)) | (refine ⟨?_, ?_⟩ <;> omega) | (simp [*]; done) | grind)); (conv => whnf)))
          (refine ⟨_, And.intro ⟨by omega, enc_get hw⟩ ?_⟩; (conv => whnf))
          (refine And.intro ?_ ?_; ((first | (with_reducible assumption) | (intro _; with_reducible assumption) | omega | (simp only [reduceCtorEq, ints_len, bools_len, Bool.not_false, Bool.not_true, List.length_map, decide_eq_true_eq, decide_eq_false_iff_not, Bool.not_eq_true', Bool.not_eq_false', Bool.and_eq_true, Bool.or_eq_true, Bool.and_eq_false_iff, Bool.or_eq_false_iff, beq_iff_eq, bne_iff_ne, beq_eq_false_iff_ne, bne_eq_false_iff_eq, Int.not_lt, Int.not_le, ge_iff_le, gt_iff_lt, not_or, not_and, Bool.cond_true_right, Bool.cond_true_left, Bool.cond_false_right, Bool.cond_false_left, bif_t, bif_f] at *; omega) | (intro hg; (try simp only [reduceCtorEq, ints_len, bools_len, Bool.not_false, Bool.not_true, List.length_map, decide_eq_true_eq, decide_eq_false_iff_not, Bool.not_eq_true', Bool.not_eq_false', Bool.and_eq_true, Bool.or_eq_true, Bool.and_eq_false_iff, Bool.or_eq_false_iff, beq_iff_eq, bne_iff_ne, beq_eq_false_iff_ne, bne_eq_false_iff_eq, Int.not_lt, Int.not_le, ge_iff_le, gt_iff_lt, not_or, not_and, Bool.cond_true_right, Bool.cond_true_left, Bool.cond_false_right, Bool.cond_false_left, bif_t, bif_f] at hg); first | (with_reducible assumption) | omega | (simp only [reduceCtorEq, ints_len, bools_len, Bool.not_false, Bool.not_true, List.length_map, decide_eq_true_eq, decide_eq_false_iff_not, Bool.not_eq_true', Bool.not_eq_false', Bool.and_eq_true, Bool.or_eq_true, Bool.and_eq_false_iff, Bool.or_eq_false_iff, beq_iff_eq, bne_iff_ne, beq_eq_false_iff_ne, bne_eq_false_iff_eq, Int.not_lt, Int.not_le, ge_iff_le, gt_iff_lt, not_or, not_and, Bool.cond_true_right, Bool.cond_true_left, Bool.cond_false_right, Bool.cond_false_left, bif_t, bif_f] at *; omega) | (refine ⟨?_, ?_⟩ <;> omega)) | (refine ⟨?_, ?_⟩ <;> omega) | (simp [*]; done) | grind)); (conv => whnf))
          rw [hq]
          (refine And.intro ?_ ?_; ((first | (with_reducible assumption) | (intro _; with_reducible assumption) | omega | (simp only [reduceCtorEq, ints_len, bools_len, Bool.not_false, Bool.not_true, List.length_map, decide_eq_true_eq, decide_eq_false_iff_not, Bool.not_eq_true', Bool.not_eq_false', Bool.and_eq_true, Bool.or_eq_true, Bool.and_eq_false_iff, Bool.or_eq_false_iff, beq_iff_eq, bne_iff_ne, beq_eq_false_iff_ne, bne_eq_false_iff_eq, Int.not_lt, Int.not_le, ge_iff_le, gt_iff_lt, not_or, not_and, Bool.cond_true_right, Bool.cond_true_left, Bool.cond_false_right, Bool.cond_false_left, bif_t, bif_f] at *; omega) | (intro hg; (try simp only [reduceCtorEq, ints_len, bools_len, Bool.not_false, Bool.not_true, List.length_map, decide_eq_true_eq, decide_eq_false_iff_not, Bool.not_eq_true', Bool.not_eq_false', Bool.and_eq_true, Bool.or_eq_true, Bool.and_eq_false_iff, Bool.or_eq_false_iff, beq_iff_eq, bne_iff_ne, beq_eq_false_iff_ne, bne_eq_false_iff_eq, Int.not_lt, Int.not_le, ge_iff_le, gt_iff_lt, not_or, not_and, Bool.cond_true_right, Bool.cond_true_left, Bool.cond_false_right, Bool.cond_false_left, bif_t, bif_f] at hg); first | (with_reducible assumption) | omega | (simp only [reduceCtorEq, ints_len, bools_len, Bool.not_false, Bool.not_true, List.length_map, decide_eq_true_eq, decide_eq_false_iff_not, Bool.not_eq_true', Bool.not_eq_false', Bool.and_eq_true, Bool.or_eq_true, Bool.and_eq_false_iff, Bool.or_eq_false_iff, beq_iff_eq, bne_iff_ne, beq_eq_false_iff_ne, bne_eq_false_iff_eq, Int.not_lt, Int.not_le, ge_iff_le, gt_iff_lt, not_or, not_and, Bool.cond_true_right, Bool.cond_true_left, Bool.cond_false_right, Bool.cond_false_left, bif_t, bif_f] at *; omega) | (refine ⟨?_, ?_⟩ <;> omega)) | (refine ⟨?_, ?_⟩ <;> omega) | (simp [*]; done) | grind)); (conv => whnf))
          refine And.intro ⟨by omega, by rw [map_len, fillTo_len]; omega⟩ ?_
          conv => whnf
          refine ⟨_, And.intro (enc_get hy) ?_⟩
          conv => whnf
          rw [hset]
          try conv => whnf
          (refine And.intro ?_ ?_; ((first | (with_reducible assumption) | (intro _; with_reducible assumption) | omega | (simp only [reduceCtorEq, ints_len, bools_len, Bool.not_false, Bool.not_true, List.length_map, decide_eq_true_eq, decide_eq_false_iff_not, Bool.not_eq_true', Bool.not_eq_false', Bool.and_eq_true, Bool.or_eq_true, Bool.and_eq_false_iff, Bool.or_eq_false_iff, beq_iff_eq, bne_iff_ne, beq_eq_false_iff_ne, bne_eq_false_iff_eq, Int.not_lt, Int.not_le, ge_iff_le, gt_iff_lt, not_or, not_and, Bool.cond_true_right, Bool.cond_true_left, Bool.cond_false_right, Bool.cond_false_left, bif_t, bif_f] at *; omega) | (intro hg; (try simp only [reduceCtorEq, ints_len, bools_len, Bool.not_false, Bool.not_true, List.length_map, decide_eq_true_eq, decide_eq_false_iff_not, Bool.not_eq_true', Bool.not_eq_false', Bool.and_eq_true, Bool.or_eq_true, Bool.and_eq_false_iff, Bool.or_eq_false_iff, beq_iff_eq, bne_iff_ne, beq_eq_false_iff_ne, bne_eq_false_iff_eq, Int.not_lt, Int.not_le, ge_iff_le, gt_iff_lt, not_or, not_and, Bool.cond_true_right, Bool.cond_true_left, Bool.cond_false_right, Bool.cond_false_left, bif_t, bif_f] at hg); first | (with_reducible assumption) | omega | (simp only [reduceCtorEq, ints_len, bools_len, Bool.not_false, Bool.not_true, List.length_map, decide_eq_true_eq, decide_eq_false_iff_not, Bool.not_eq_true', Bool.not_eq_false', Bool.and_eq_true, Bool.or_eq_true, Bool.and_eq_false_iff, Bool.or_eq_false_iff, beq_iff_eq, bne_iff_ne, beq_eq_false_iff_ne, bne_eq_false_iff_eq, Int.not_lt, Int.not_le, ge_iff_le, gt_iff_lt, not_or, not_and, Bool.cond_true_right, Bool.cond_true_left, Bool.cond_false_right, Bool.cond_false_left, bif_t, bif_f] at *; omega) | (refine ⟨?_, ?_⟩ <;> omega)) | (refine ⟨?_, ?_⟩ <;> omega) | (simp [*]; done) | grind)); (conv => whnf))
          refine ⟨ex.length - (i + 1), by omega, [], ?_⟩
          conv => whnf
          exact ⟨i + 1, by omega, rfl, rfl⟩
        · have hi' : i = ex.length := by omega
          rw [hi', fillTo_all, show fill (gC ex z) ex.length = cnt ex z from rfl, map_len]
          (refine And.intro ?_ ?_; ((first | (with_reducible assumption) | (intro _; with_reducible assumption) | omega | (simp only [reduceCtorEq, ints_len, bools_len, Bool.not_false, Bool.not_true, List.length_map, decide_eq_true_eq, decide_eq_false_iff_not, Bool.not_eq_true', Bool.not_eq_false', Bool.and_eq_true, Bool.or_eq_true, Bool.and_eq_false_iff, Bool.or_eq_false_iff, beq_iff_eq, bne_iff_ne, beq_eq_false_iff_ne, bne_eq_false_iff_eq, Int.not_lt, Int.not_le, ge_iff_le, gt_iff_lt, not_or, not_and, Bool.cond_true_right, Bool.cond_true_left, Bool.cond_false_right, Bool.cond_false_left, bif_t, bif_f] at *; omega) | (intro hg; (try simp only [reduceCtorEq, ints_len, bools_len, Bool.not_false, Bool.not_true, List.length_map, decide_eq_true_eq, decide_eq_false_iff_not, Bool.not_eq_true', Bool.not_eq_false', Bool.and_eq_true, Bool.or_eq_true, Bool.and_eq_false_iff, Bool.or_eq_false_iff, beq_iff_eq, bne_iff_ne, beq_eq_false_iff_ne, bne_eq_false_iff_eq, Int.not_lt, Int.not_le, ge_iff_le, gt_iff_lt, not_or, not_and, Bool.cond_true_right, Bool.cond_true_left, Bool.cond_false_right, Bool.cond_false_left, bif_t, bif_f] at hg); first | (with_reducible assumption) | omega | (simp only [reduceCtorEq, ints_len, bools_len, Bool.not_false, Bool.not_true, List.length_map, decide_eq_true_eq, decide_eq_false_iff_not, Bool.not_eq_true', Bool.not_eq_false', Bool.and_eq_true, Bool.or_eq_true, Bool.and_eq_false_iff, Bool.or_eq_false_iff, beq_iff_eq, bne_iff_ne, beq_eq_false_iff_ne, bne_eq_false_iff_eq, Int.not_lt, Int.not_le, ge_iff_le, gt_iff_lt, not_or, not_and, Bool.cond_true_right, Bool.cond_true_left, Bool.cond_false_right, Bool.cond_false_left, bif_t, bif_f] at *; omega) | (refine ⟨?_, ?_⟩ <;> omega)) | (refine ⟨?_, ?_⟩ <;> omega) | (simp [*]; done) | grind)); (conv => whnf))
          have hz1 : List.replicate ((ex.length : Nat) : Int).toNat [D.int .i64 0] = (zeros ex.length).map inC := by
            rw [Int.toNat_natCast, zeros, List.map_replicate]
          rw [hz1]
          have hzl0 : (zeros ex.length).length = ex.length := List.length_replicate
          (refine ⟨[], false, false, ?_⟩; (conv => whnf); refine ⟨_, _, ⟨zeros ex.length, rfl, rfl, by omega, rfl, rfl⟩, ?_⟩; (conv => whnf))
          refine ⟨ints_free _, ?_⟩
          conv => whnf
          have he4 : ∀ x ∈ ex, 1 ≤ x ∧ x ≤ 400 := fun x hx => ⟨hex1 x hx, (b3 x hx).2⟩
          have hcnt := cnt_le he4 hza e4
          have hcl : (cnt ex z).length = ex.length := cnt_len ..
          have hbox0 : InBox (zeros ex.length) (cnt ex z) (zeros ex.length) := ⟨rfl, by rw [hcl, hzl0], fun i => Int.le_refl _, fun i hi => by
            rw [zeros_getD]
            obtain ⟨y, hy⟩ := get_lt (l := cnt ex z) (i := i) (by omega)
            rw [gD_of hy]
            have := hcnt y (List.mem_of_getElem? hy)
            omega⟩
          have hlz : ∀ d ∈ l, 0 ≤ d ∧ d < (zeros ex.length).length := by rw [hzl0]; exact c1
          have hL0 := left_bdp (g := fun i => ex.getD i 0) hbox0 hlz (fun d hd => by
            obtain ⟨q, rfl⟩ := Int.eq_ofNat_of_zero_le (c1 d hd).1
            have hq := (c1 _ hd).2
            rw [Int.toNat_natCast, zeros_getD, cnt, fill_getD (by omega)]
            exact gC_le he4 hza e4 (by omega))
          rw [prod_ord e2] at hL0
          refine ⟨[.slot 13 true], [0, 1, 2, 8, 11, 12, 13], 4, fun n1 σ => ∃ (s done : List Int), InBox (zeros ex.length) (cnt ex z) s ∧ n1 = (leftF (zeros ex.length) (cnt ex z) l s).toNat ∧ bothT ex l z = done ++ (walkS (zeros ex.length) (cnt ex z) l (leftF (zeros ex.length) (cnt ex z) l s).toNat s).flatMap (tileL ex l z) ∧ (done.length : Int) ≤ 64000000 * (leftF (zeros ex.length) (cnt ex z) l (zeros ex.length) - leftF (zeros ex.length) (cnt ex z) l s) ∧ σ = (⟨[.one (.d (.sl 1 (ex.map inC))), .one (.d (.sl 1 (l.map inC))), .one (.d (.sl 1 (z.map inC))), .junk, .junk, .junk, .junk, .junk, .one (.own 0), .junk, .junk, .one (.own 1), .one (.own 2), .one (.own 3), .junk, .junk, .junk, .junk, .junk, .junk, .junk, .junk, .junk, .junk, .junk, .junk, .junk, .junk, .junk, .junk, .junk, .junk, .junk, .junk, .junk, .junk, .junk, .junk, .junk, .junk, .junk, .junk, .junk, .junk, .junk, .junk, .junk, .junk, .junk, .junk, .junk, .junk, .junk, .junk, .junk, .junk, .junk, .junk, .junk, .junk, .junk, .junk, .junk, .junk, .junk, .junk, .junk, .junk, .junk, .junk, .junk, .junk, .junk, .junk, .junk, .junk, .junk, .junk, .junk, .junk, .junk, .junk, .junk, .junk, .junk, .junk, .junk, .junk, .junk, .junk, .junk, .junk, .junk, .junk, .junk, .junk, .junk, .junk, .junk, .junk, .junk, .junk, .junk, .junk, .junk, .junk, .junk, .junk, .junk, .junk, .junk, .junk, .junk, .junk, .junk, .junk, .junk, .junk, .junk, .junk, .junk, .junk, .junk, .junk], [.row 1 ((cnt ex z).map inC), .row 1 ((zeros ex.length).map inC), .row 1 (s.map inC), .row 1 (done.map inC)]⟩ : St), ?_, ?_⟩
          · refine ⟨(leftF (zeros ex.length) (cnt ex z) l (zeros ex.length)).toNat, ?_⟩
            conv => whnf
            refine ⟨zeros ex.length, [], hbox0, rfl, rfl, ?_, rfl⟩
            rw [Int.sub_self]; decide
          · rintro n1 _ ⟨s, done, hs, rfl, hw, hdn, rfl⟩
            have hsl : s.length = ex.length := by have := hs.lf; omega
            have hsd : ∀ d ∈ l, 0 ≤ d ∧ d < s.length := by rw [hsl]; exact c1
            have htb := fun i (hi : i < ex.length) => tile_bd he4 hza e4 hs hi
            conv => whnf
            (refine ⟨[], false, false, ?_⟩; (conv => whnf); refine ⟨_, _, ⟨zeros ex.length, rfl, rfl, by omega, rfl, rfl⟩, ?_⟩; (conv => whnf))
            refine ⟨ints_free _, ?_⟩
            conv => whnf
            (refine ⟨[], false, false, ?_⟩; (conv => whnf); refine ⟨_, _, ⟨zeros ex.length, rfl, rfl, by omega, rfl, rfl⟩, ?_⟩; (conv => whnf))
            refine ⟨ints_free _, ?_⟩
            conv => whnf
            have hzf : zeros ex.length = fillTo (gF s z) ex.length 0 := (fillTo_zero ..).symm
            have hzt : zeros ex.length = fillTo (gT s z ex) ex.length 0 := (fillTo_zero ..).symm
            refine ⟨[], [0, 1, 2, 8, 11, 12, 13, 14, 15, 76, 77, 78], 6, fun n2 σ => ∃ i : Nat, i ≤ ex.length ∧ n2 = ex.length - i ∧ σ = (⟨[.one (.d (.sl 1 (ex.map inC))), .one (.d (.sl 1 (l.map inC))), .one (.d (.sl 1 (z.map inC))), .junk, .junk, .junk, .junk, .junk, .one (.own 0), .junk, .junk, .one (.own 1), .one (.own 2), .one (.own 3), .one (.own 4), .one (.own 5), .junk, .junk, .junk, .junk, .junk, .junk, .junk, .junk, .junk, .junk, .junk, .junk, .junk, .junk, .junk, .junk, .junk, .junk, .junk, .junk, .junk, .junk, .junk, .junk, .junk, .junk, .junk, .junk, .junk, .junk, .junk, .junk, .junk, .junk, .junk, .junk, .junk, .junk, .junk, .junk, .junk, .junk, .junk, .junk, .junk, .junk, .junk, .junk, .junk, .junk, .junk, .junk, .junk, .junk, .junk, .junk, .junk, .junk, .junk, .junk, .one (.own 2), .di .i64 ex.length, .di .i64 i, .junk, .junk, .junk, .junk, .junk, .junk, .junk, .junk, .junk, .junk, .junk, .junk, .junk, .junk, .junk, .junk, .junk, .junk, .junk, .junk, .junk, .junk, .junk, .junk, .junk, .junk, .junk, .junk, .junk, .junk, .junk, .junk, .junk, .junk, .junk, .junk, .junk, .junk, .junk, .junk, .junk, .junk, .junk, .junk, .junk], [.row 1 ((cnt ex z).map inC), .row 1 ((zeros ex.length).map inC), .row 1 (s.map inC), .row 1 (done.map inC), .row 1 ((fillTo (gF s z) ex.length i).map inC), .row 1 ((fillTo (gT s z ex) ex.length i).map inC)]⟩ : St), ?_, ?_⟩
            · refine ⟨ex.length, ?_⟩
              conv => whnf
              refine ⟨0, by omega, by omega, ?_⟩
              rw [← hzf, ← hzt, map_len, hsl]
              rfl
            · rintro n2 _ ⟨i, hi, rfl, rfl⟩
              conv => whnf
              ((with_reducible refine And.intro (fun (e : (_ : Bool) = true) => ?_) (fun (e : (_ : Bool) = false) => ?_)) <;> (try simp only [reduceCtorEq, ints_len, bools_len, Bool.not_false, Bool.not_true, List.length_map, decide_eq_true_eq, decide_eq_false_iff_not, Bool.not_eq_true', Bool.not_eq_false', Bool.and_eq_true, Bool.or_eq_true, Bool.and_eq_false_iff, Bool.or_eq_false_iff, beq_iff_eq, bne_iff_ne, beq_eq_false_iff_ne, bne_eq_false_iff_eq, Int.not_lt, Int.not_le, ge_iff_le, gt_iff_lt, not_or, not_and, Bool.cond_true_right, Bool.cond_true_left, Bool.cond_false_right, Bool.cond_false_left, bif_t, bif_f] at e) <;> (conv => whnf))
              · obtain ⟨x, hx⟩ := get_lt (l := ex) (i := i) (by omega)
                obtain ⟨w, hw1⟩ := get_lt (l := z) (i := i) (by omega)
                obtain ⟨y, hy⟩ := get_lt (l := s) (i := i) (by omega)
                obtain ⟨p, hp⟩ := get_lt (l := fillTo (gF s z) ex.length i) (i := i) (by rw [fillTo_len]; omega)
                obtain ⟨q, hq⟩ := get_lt (l := fillTo (gT s z ex) ex.length i) (i := i) (by rw [fillTo_len]; omega)
                obtain ⟨t1, t2, t3, t4, t5, t6, t7, t8, t9⟩ := htb i (by omega)
                have hgF : gF s z i = y * w := by rw [gF, gD_of hy, gD_of hw1]
                have hgT : gT s z ex i = if x < y * w + w then x else y * w + w := by rw [gT, hgF, gD_of hw1, gD_of hx]
                rw [gD_of hx] at t3 t5 t6
                rw [gD_of hw1] at t7 t8
                rw [gD_of hy] at t1 t9
                rw [hgF] at t2 t3 t4
                have hpn : (fillTo (gF s z) ex.length (i + 1))[i]? = some (y * w) := by
                  rw [← fillTo_set (by omega), List.getElem?_set_self (by rw [fillTo_len]; omega), hgF]
                have hset : ((fillTo (gF s z) ex.length i).map inC).set (i : Int).toNat [D.int .i64 (y * w)] = (fillTo (gF s z) ex.length (i + 1)).map inC := by
                  rw [← fillTo_set (by omega), Int.toNat_natCast, List.map_set, hgF]
                have hset2 : ((fillTo (gT s z ex) ex.length i).map inC).set (i : Int).toNat [D.int .i64 (if x < y * w + w then x else y * w + w)] = (fillTo (gT s z ex) ex.length (i + 1)).map inC := by
                  rw [← fillTo_set (by omega), Int.toNat_natCast, List.map_set, hgT]
                (refine And.intro ⟨by omega, by rw [map_len]; omega⟩ ?_; (conv => whnf); refine ⟨_, And.intro (enc_get hy) ?_⟩; (conv => whnf))
                (refine ⟨_, And.intro ⟨by omega, enc_get hw1⟩ ?_⟩; (conv => whnf))
                (refine And.intro ?_ ?_; ((first | (with_reducible assumption) | (intro _; with_reducible assumption) | omega | (simp only [reduceCtorEq, ints_len, bools_len, Bool.not_false, Bool.not_true, List.length_map, decide_eq_true_eq, decide_eq_false_iff_not, Bool.not_eq_true', Bool.not_eq_false', Bool.and_eq_true, Bool.or_eq_true, Bool.and_eq_false_iff, Bool.or_eq_false_iff, beq_iff_eq, bne_iff_ne, beq_eq_false_iff_ne, bne_eq_false_iff_eq, Int.not_lt, Int.not_le, ge_iff_le, gt_iff_lt, not_or, not_and, Bool.cond_true_right, Bool.cond_true_left, Bool.cond_false_right, Bool.cond_false_left, bif_t, bif_f] at *; omega) | (intro hg; (try simp only [reduceCtorEq, ints_len, bools_len, Bool.not_false, Bool.not_true, List.length_map, decide_eq_true_eq, decide_eq_false_iff_not, Bool.not_eq_true', Bool.not_eq_false', Bool.and_eq_true, Bool.or_eq_true, Bool.and_eq_false_iff, Bool.or_eq_false_iff, beq_iff_eq, bne_iff_ne, beq_eq_false_iff_ne, bne_eq_false_iff_eq, Int.not_lt, Int.not_le, ge_iff_le, gt_iff_lt, not_or, not_and, Bool.cond_true_right, Bool.cond_true_left, Bool.cond_false_right, Bool.cond_false_left, bif_t, bif_f] at hg); first | (with_reducible assumption) | omega | (simp only [reduceCtorEq, ints_len, bools_len, Bool.not_false, Bool.not_true, List.length_map, decide_eq_true_eq, decide_eq_false_iff_not, Bool.not_eq_true', Bool.not_eq_false', Bool.and_eq_true, Bool.or_eq_true, Bool.and_eq_false_iff, Bool.or_eq_false_iff, beq_iff_eq, bne_iff_ne, beq_eq_false_iff_ne, bne_eq_false_iff_eq, Int.not_lt, Int.not_le, ge_iff_le, gt_iff_lt, not_or, not_and, Bool.cond_true_right, Bool.cond_true_left, Bool.cond_false_right, Bool.cond_false_left, bif_t, bif_f] at *; omega) | (refine ⟨?_, ?_⟩ <;> omega)) | (refine ⟨?_, ?_⟩ <;> omega) | (simp [*]; done) | grind)); (conv => whnf))
                refine And.intro ⟨by omega, by rw [map_len, fillTo_len]; omega⟩ ?_
                show St.apply _ _ _ _ _ _ _
                unfold St.apply
                simp only [updsK, appK, putD, setK]
                unfold vcOps
                simp only [isLook, winAt]
                unfold actStep evM
                simp only [operand, nthK, strip]
                conv => whnf
                refine ⟨_, And.intro (enc_get hp) ?_⟩
                conv => whnf
                rw [hset]
                try conv => whnf
                refine And.intro ⟨by omega, by rw [map_len, fillTo_len]; omega⟩ ?_
                conv => whnf
                refine ⟨_, And.intro (enc_get hpn) ?_⟩
                conv => whnf
                (refine ⟨_, And.intro ⟨by omega, enc_get hw1⟩ ?_⟩; (conv => whnf))
                (refine And.intro ?_ ?_; ((first | (with_reducible assumption) | (intro _; with_reducible assumption) | omega | (simp only [reduceCtorEq, ints_len, bools_len, Bool.not_false, Bool.not_true, List.length_map, decide_eq_true_eq, decide_eq_false_iff_not, Bool.not_eq_true', Bool.not_eq_false', Bool.and_eq_true, Bool.or_eq_true, Bool.and_eq_false_iff, Bool.or_eq_false_iff, beq_iff_eq, bne_iff_ne, beq_eq_false_iff_ne, bne_eq_false_iff_eq, Int.not_lt, Int.not_le, ge_iff_le, gt_iff_lt, not_or, not_and, Bool.cond_true_right, Bool.cond_true_left, Bool.cond_false_right, Bool.cond_false_left, bif_t, bif_f] at *; omega) | (intro hg; (try simp only [reduceCtorEq, ints_len, bools_len, Bool.not_false, Bool.not_true, List.length_map, decide_eq_true_eq, decide_eq_false_iff_not, Bool.not_eq_true', Bool.not_eq_false', Bool.and_eq_true, Bool.or_eq_true, Bool.and_eq_false_iff, Bool.or_eq_false_iff, beq_iff_eq, bne_iff_ne, beq_eq_false_iff_ne, bne_eq_false_iff_eq, Int.not_lt, Int.not_le, ge_iff_le, gt_iff_lt, not_or, not_and, Bool.cond_true_right, Bool.cond_true_left, Bool.cond_false_right, Bool.cond_false_left, bif_t, bif_f] at hg); first | (with_reducible assumption) | omega | (simp only [reduceCtorEq, ints_len, bools_len, Bool.not_false, Bool.not_true, List.length_map, decide_eq_true_eq, decide_eq_false_iff_not, Bool.not_eq_true', Bool.not_eq_false', Bool.and_eq_true, Bool.or_eq_true, Bool.and_eq_false_iff, Bool.or_eq_false_iff, beq_iff_eq, bne_iff_ne, beq_eq_false_iff_ne, bne_eq_false_iff_eq, Int.not_lt, Int.not_le, ge_iff_le, gt_iff_lt, not_or, not_and, Bool.cond_true_right, Bool.cond_true_left, Bool.cond_false_right, Bool.cond_false_left, bif_t, bif_f] at *; omega) | (refine ⟨?_, ?_⟩ <;> omega)) | (refine ⟨?_, ?_⟩ <;> omega) | (simp [*]; done) | grind)); (conv => whnf))
                (refine ⟨_, And.intro ⟨by omega, enc_get hx⟩ ?_⟩; (conv => whnf))
                refine And.intro ⟨by omega, by rw [map_len, fillTo_len]; omega⟩ ?_
                conv => whnf
                refine ⟨_, And.intro (enc_get hq) ?_⟩
                conv => whnf
                rw [hset2]
                (refine And.intro ?_ ?_; ((first | (with_reducible assumption) | (intro _; with_reducible assumption) | omega | (simp only [reduceCtorEq, ints_len, bools_len, Bool.not_false, Bool.not_true, List.length_map, decide_eq_true_eq, decide_eq_false_iff_not, Bool.not_eq_true', Bool.not_eq_false', Bool.and_eq_true, Bool.or_eq_true, Bool.and_eq_false_iff, Bool.or_eq_false_iff, beq_iff_eq, bne_iff_ne, beq_eq_false_iff_ne, bne_eq_false_iff_eq, Int.not_lt, Int.not_le, ge_iff_le, gt_iff_lt, not_or, not_and, Bool.cond_true_right, Bool.cond_true_left, Bool.cond_false_right, Bool.cond_false_left, bif_t, bif_f] at *; omega) | (intro hg; (try simp only [reduceCtorEq, ints_len, bools_len, Bool.not_false, Bool.not_true, List.length_map, decide_eq_true_eq, decide_eq_false_iff_not, Bool.not_eq_true', Bool.not_eq_false', Bool.and_eq_true, Bool.or_eq_true, Bool.and_eq_false_iff, Bool.or_eq_false_iff, beq_iff_eq, bne_iff_ne, beq_eq_false_iff_ne, bne_eq_false_iff_eq, Int.not_lt, Int.not_le, ge_iff_le, gt_iff_lt, not_or, not_and, Bool.cond_true_right, Bool.cond_true_left, Bool.cond_false_right, Bool.cond_false_left, bif_t, bif_f] at hg); first | (with_reducible assumption) | omega | (simp only [reduceCtorEq, ints_len, bools_len, Bool.not_false, Bool.not_true, List.length_map, decide_eq_true_eq, decide_eq_false_iff_not, Bool.not_eq_true', Bool.not_eq_false', Bool.and_eq_true, Bool.or_eq_true, Bool.and_eq_false_iff, Bool.or_eq_false_iff, beq_iff_eq, bne_iff_ne, beq_eq_false_iff_ne, bne_eq_false_iff_eq, Int.not_lt, Int.not_le, ge_iff_le, gt_iff_lt, not_or, not_and, Bool.cond_true_right, Bool.cond_true_left, Bool.cond_false_right, Bool.cond_false_left, bif_t, bif_f] at *; omega) | (refine ⟨?_, ?_⟩ <;> omega)) | (refine ⟨?_, ?_⟩ <;> omega) | (simp [*]; done) | grind)); (conv => whnf))
                refine ⟨ex.length - (i + 1), by omega, [], ?_⟩
                conv => whnf
                exact ⟨i + 1, by omega, rfl, rfl⟩
              · have hi' : i = ex.length := by omega
                rw [hi', fillTo_all, fillTo_all]
                have hF : ∀ x ∈ fill (gF s z) ex.length, 0 ≤ x ∧ x ≤ 400 := by
                  intro x hx
                  obtain ⟨j, hj, rfl⟩ := List.mem_map.1 hx
                  have := htb j (List.mem_range.1 hj)
                  omega
                have hT : ∀ i < ex.length, (fill (gT s z ex) ex.length).getD i 0 ≤ ex.getD i 0 := by
                  intro i hi
                  rw [fill_getD hi]
                  exact (htb i hi).2.2.2.2.1
                (refine ⟨[], false, false, ?_⟩; (conv => whnf); refine ⟨_, _, ⟨ex, fill (gF s z) ex.length, fill (gT s z ex) ex.length, l, rfl, rfl, fill_len .., fill_len .., b2, b3, b4, hF, hT, c2, by omega, c1, rfl, rfl⟩, ?_⟩; (conv => whnf))
                rw [show walkL ex (fill (gF s z) ex.length) (fill (gT s z ex) ex.length) l = tileL ex l z s from rfl]
                refine ⟨ints_free _, ?_⟩
                conv => whnf
                have htl := tileL_len he4 hza e4 hs (by omega) c1
                obtain ⟨n1, n2, n3, n4⟩ := left_next hs c2 hsd
                refine ⟨by rw [map_len, map_len]; omega, ?_⟩
                conv => whnf
                refine ⟨[2], false, false, ?_⟩
                conv => whnf
                intro v
                conv => whnf
                refine ⟨_, _, ⟨s, zeros ex.length, cnt ex z, l, v, rfl, rfl, by omega, by omega, by omega, hsd, fun x h => ?_, fun x h => ?_, fun x h => ?_, rfl, rfl⟩, ?_⟩
                · obtain ⟨j, hj⟩ := List.mem_iff_getElem?.1 h
                  have := htb j (by have := (List.getElem?_eq_some_iff.1 hj).1; omega)
                  rw [gD_of hj] at this
                  omega
                · rw [List.eq_of_mem_replicate h]; decide
                · have := (hcnt x h).2; omega
                conv => whnf
                refine ⟨rfl, ?_⟩
                refine ⟨ints_free _, ?_⟩
                refine ⟨rfl, ?_⟩
                cases hb : (nextF (zeros ex.length) (cnt ex z) l s).1 with
                | true =>
                  conv => whnf
                  refine ⟨fun h => absurd h (by decide), fun _ => ?_⟩
                  conv => whnf
                  obtain ⟨m1, m2⟩ := n3 hb
                  refine ⟨(leftF (zeros ex.length) (cnt ex z) l (nextF (zeros ex.length) (cnt ex z) l s).2).toNat, by omega, [], ?_⟩
                  conv => whnf
                  refine ⟨(nextF (zeros ex.length) (cnt ex z) l s).2, done ++ tileL ex l z s, n1, rfl, ?_, ?_, ?_⟩
                  · rw [hw, walkS_eq hs c2 hsd, if_pos hb, List.flatMap_cons, List.append_assoc]
                  · rw [List.length_append]; omega
                  · rw [List.map_append]; rfl
                | false =>
                  conv => whnf
                  refine ⟨fun _ => ?_, fun h => absurd h (by decide)⟩
                  conv => whnf
                  refine ⟨[], ?_⟩
                  conv => whnf
                  have hout : bothT ex l z = done ++ tileL ex l z s := by
                    rw [hw, walkS_eq hs c2 hsd, if_neg (by rw [hb]; simp), List.flatMap_cons, List.flatMap_nil, List.append_nil]
                  rw [hout, if_pos rfl, List.map_append]
                  exact ⟨[3], by simp, .cons ⟨_, rfl, rfl, rfl⟩ .nil, .cons rfl (.cons rfl .nil)⟩
  · have ho : bothOk ex l z = false := by
      unfold bothOk
      rename_i e0
      rcases e0 with (h | h) | h
      · rw [decide_eq_false (by omega)]; rfl
      · rw [h, Bool.and_false]; rfl
      · rw [decide_eq_false (p := z.length = ex.length) (by omega)]; simp
    refine ⟨[.slot 6 true], ?_⟩
    conv => whnf
    unfold bothP
    rw [ho]
    exact ⟨[0], by simp, .cons ⟨_, rfl, rfl, rfl⟩ .nil, .cons rfl (.cons rfl .nil)⟩
  · rename_i e0; exact absurd e0.1 id
  · rename_i e0; exact absurd e0.1 id
  · have ho : bothOk ex l z = false := by unfold bothOk; rw [decide_eq_false (by omega)]; rfl
    refine ⟨[.slot 6 true], ?_⟩
    conv => whnf
    unfold bothP
    rw [ho]
    exact ⟨[0], by simp, .cons ⟨_, rfl, rfl, rfl⟩ .nil, .cons rfl (.cons rfl .nil)⟩
end Go.Proofs.Ytahdihhhankhdaa.V

