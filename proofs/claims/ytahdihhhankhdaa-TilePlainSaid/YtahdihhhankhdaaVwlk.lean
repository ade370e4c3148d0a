/-
  V: walks through tiles. By the session's own hand.
-/
import Derived.Test.YtahdihhhankhdaaVtil
import Derived.Test.YtahdihhhankhdaaVd
set_option linter.unusedVariables false
set_option linter.unusedSimpArgs false
set_option maxRecDepth 100000
set_option linter.all false
set_option linter.unnecessarySimpa false
set_option linter.deprecated false
namespace Go.Proofs.Ytahdihhhankhdaa.V
open Go.Proofs.YtahdihhhankhdaaVY Go.RowKit
theorem gD_of {l : List Int} {i : Nat} {x : Int} (h : l[i]? = some x) : l.getD i 0 = x := by simp [List.getD, h]
/-- the number of an iteration, by so many subscripts -/
def numTo (e s : List Int) : Nat → Int
  | 0 => 0
  | i + 1 => numTo e s i + s.getD i 0 * prod (e.take i)
theorem numTo_bd {e s : List Int} (he : ∀ i, 0 ≤ prod (e.take i) ∧ prod (e.take i) ≤ 400) (hs : ∀ x ∈ s, 0 ≤ x ∧ x ≤ 400) : ∀ i ≤ s.length, 0 ≤ numTo e s i ∧ numTo e s i ≤ i * 160000
  | 0, _ => by simp [numTo]
  | i + 1, hi => by
    have ih := numTo_bd he hs i (by omega)
    obtain ⟨x, hx⟩ := get_lt (l := s) (i := i) (by omega)
    have h1 := hs x (List.mem_of_getElem? hx)
    have h2 := he i
    rw [numTo, gD_of hx]
    have h3 : 0 ≤ x * prod (e.take i) := Int.mul_nonneg h1.1 h2.1
    have h4 : x * prod (e.take i) ≤ 400 * 400 := Int.mul_le_mul h1.2 h2.2 h2.1 (by decide)
    push_cast
    omega
theorem prodGe : ∀ {l : List Int}, (∀ n ∈ l, 1 ≤ n) → 1 ≤ prod l
  | [], _ => by decide
  | x :: l, h => by
    have h1 := h x (List.mem_cons_self ..)
    have h2 := prodGe fun n hn => h n (List.mem_cons_of_mem _ hn)
    rw [prod]
    have := Int.mul_le_mul h1 h2 (by decide) (by omega)
    omega
theorem prod_mono {l : List Int} (h : ∀ n ∈ l, 1 ≤ n) : ∀ i, 1 ≤ prod (l.take i) ∧ prod (l.take i) ≤ prod l := by
  intro i
  refine ⟨prodGe fun n hn => h n (List.mem_of_mem_take hn), ?_⟩
  have h2 : 1 ≤ prod (l.drop i) := prodGe fun n hn => h n (List.mem_of_mem_drop hn)
  have h3 : prod (l.take i ++ l.drop i) = prod (l.take i) * prod (l.drop i) := by
    generalize l.take i = a
    generalize l.drop i = b
    induction a with
    | nil => simp [prod]
    | cons x a ih => rw [List.cons_append, prod, prod, ih, Int.mul_assoc]
  rw [List.take_append_drop] at h3
  have h1 : 1 ≤ prod (l.take i) := prodGe fun n hn => h n (List.mem_of_mem_take hn)
  rw [h3]
  have := Int.mul_le_mul_of_nonneg_left h2 (show 0 ≤ prod (l.take i) by omega)
  omega
def R108 : Ct := fun ss hp r out => ∃ ex s : List Int, ss = [.one (.d (.sl 1 (ex.map inC))), .one (.d (.sl 1 (s.map inC)))] ∧ hp = [] ∧ s.length = ex.length ∧ ex.length ≤ 3 ∧ (∀ x ∈ ex, 1 ≤ x ∧ x ≤ 400) ∧ prod ex ≤ 400 ∧ (∀ x ∈ s, 0 ≤ x ∧ x ≤ 400) ∧ r = .di .i64 (numTo ex s s.length) ∧ out = []
set_option maxHeartbeats 4000000 in
theorem ok108 : VSound Try.prog (108, R108) := by
  refine vsound (T := ty) (F := []) (pl := []) (nw := true) (cuts := []) mix tyOk .nil Try.func108 (by kernel_rfl) (by kernel_rfl) ?_
  rintro _ _ _ _ ⟨ex, s, rfl, rfl, hl, h3, he, hp, hs, rfl, rfl⟩
  have hm := prod_mono fun n hn => (he n hn).1
  have hnb := numTo_bd (e := ex) (fun i => by have := hm i; omega) hs
  conv => whnf
  refine ⟨[], [0, 5, 6, 9, 10, 11], 0, fun n1 σ => ∃ i : Nat, i ≤ s.length ∧ n1 = s.length - i ∧ σ = (⟨[.one (.d (.sl 1 (ex.map inC))), .junk, .junk, .junk, .junk, .di .i64 (numTo ex s i), .di .i64 (prod (ex.take i)), .junk, .junk, .one (.d (.sl 1 (s.map inC))), .di .i64 s.length, .di .i64 i, .junk, .junk, .junk, .junk, .junk, .junk, .junk, .junk, .junk, .junk, .junk, .junk, .junk, .junk, .junk, .junk, .junk], []⟩ : St), ?_, ?_⟩
  · refine ⟨s.length, ?_⟩
    conv => whnf
    refine ⟨0, by omega, by omega, ?_⟩
    rw [map_len]; rfl
  · rintro n1 _ ⟨i, hi, rfl, rfl⟩
    conv => whnf
    ((with_reducible refine And.intro (fun (e : (_ : Bool) = true) => ?_) (fun (e : (_ : Bool) = false) => ?_)) <;> (try simp only [reduceCtorEq, ints_len, bools_len, Bool.not_false, Bool.not_true, List.length_map, decide_eq_true_eq, decide_eq_false_iff_not, Bool.not_eq_true', Bool.not_eq_false', Bool.and_eq_true, Bool.or_eq_true, Bool.and_eq_false_iff, Bool.or_eq_false_iff, beq_iff_eq, bne_iff_ne, beq_eq_false_iff_ne, bne_eq_false_iff_eq, Int.not_lt, Int.not_le, ge_iff_le, gt_iff_lt, not_or, not_and, Bool.cond_true_right, Bool.cond_true_left, Bool.cond_false_right, Bool.cond_false_left, bif_t, bif_f] at e) <;> (conv => whnf))
    · obtain ⟨x, hx⟩ := get_lt (l := s) (i := i) (by omega)
      obtain ⟨y, hy⟩ := get_lt (l := ex) (i := i) (by omega)
      have hn0 := hnb i hi
      have hn1 := hnb (i + 1) (by omega)
      have hp0 := hm i
      have hp1 := hm (i + 1)
      have hx1 := hs x (List.mem_of_getElem? hx)
      have hmul1 : 0 ≤ x * prod (ex.take i) := Int.mul_nonneg hx1.1 (by omega)
      have hmul2 : x * prod (ex.take i) ≤ 400 * 400 := Int.mul_le_mul hx1.2 (by omega) (by omega) (by decide)
      have hnt : numTo ex s (i + 1) = numTo ex s i + x * prod (ex.take i) := by rw [numTo, gD_of hx]
      rw [hnt] at hn1
      rw [prod_take hy] at hp1
      (refine ⟨_, And.intro ⟨by omega, enc_get hx⟩ ?_⟩; (conv => whnf))
      (refine And.intro ?_ ?_; ((first | (with_reducible assumption) | (intro _; with_reducible assumption) | omega | (simp only [reduceCtorEq, ints_len, bools_len, Bool.not_false, Bool.not_true, List.length_map, decide_eq_true_eq, decide_eq_false_iff_not, Bool.not_eq_true', Bool.not_eq_false', Bool.and_eq_true, Bool.or_eq_true, Bool.and_eq_false_iff, Bool.or_eq_false_iff, beq_iff_eq, bne_iff_ne, beq_eq_false_iff_ne, bne_eq_false_iff_eq, Int.not_lt, Int.not_le, ge_iff_le, gt_iff_lt, not_or, not_and, Bool.cond_true_right, Bool.cond_true_left, Bool.cond_false_right, Bool.cond_false_left, bif_t, bif_f] at *; omega) | (intro hg; (try simp only [reduceCtorEq, ints_len, bools_len, Bool.not_false, Bool.not_true, List.length_map, decide_eq_true_eq, decide_eq_false_iff_not, Bool.not_eq_true', Bool.not_eq_false', Bool.and_eq_true, Bool.or_eq_true, Bool.and_eq_false_iff, Bool.or_eq_false_iff, beq_iff_eq, bne_iff_ne, beq_eq_false_iff_ne, bne_eq_false_iff_eq, Int.not_lt, Int.not_le, ge_iff_le, gt_iff_lt, not_or, not_and, Bool.cond_true_right, Bool.cond_true_left, Bool.cond_false_right, Bool.cond_false_left, bif_t, bif_f] at hg); first | (with_reducible assumption) | omega | (simp only [reduceCtorEq, ints_len, bools_len, Bool.not_false, Bool.not_true, List.length_map, decide_eq_true_eq, decide_eq_false_iff_not, Bool.not_eq_true', Bool.not_eq_false', Bool.and_eq_true, Bool.or_eq_true, Bool.and_eq_false_iff, Bool.or_eq_false_iff, beq_iff_eq, bne_iff_ne, beq_eq_false_iff_ne, bne_eq_false_iff_eq, Int.not_lt, Int.not_le, ge_iff_le, gt_iff_lt, not_or, not_and, Bool.cond_true_right, Bool.cond_true_left, Bool.cond_false_right, Bool.cond_false_left, bif_t, bif_f] at *; omega) | (refine ⟨?_, ?_⟩ <;> omega)) | (refine ⟨?_, ?_⟩ <;> omega) | (simp [*]; done) | grind)); (conv => whnf))
      (refine And.intro ?_ ?_; ((first | (with_reducible assumption) | (intro _; with_reducible assumption) | omega | (simp only [reduceCtorEq, ints_len, bools_len, Bool.not_false, Bool.not_true, List.length_map, decide_eq_true_eq, decide_eq_false_iff_not, Bool.not_eq_true', Bool.not_eq_false', Bool.and_eq_true, Bool.or_eq_true, Bool.and_eq_false_iff, Bool.or_eq_false_iff, beq_iff_eq, bne_iff_ne, beq_eq_false_iff_ne, bne_eq_false_iff_eq, Int.not_lt, Int.not_le, ge_iff_le, gt_iff_lt, not_or, not_and, Bool.cond_true_right, Bool.cond_true_left, Bool.cond_false_right, Bool.cond_false_left, bif_t, bif_f] at *; omega) | (intro hg; (try simp only [reduceCtorEq, ints_len, bools_len, Bool.not_false, Bool.not_true, List.length_map, decide_eq_true_eq, decide_eq_false_iff_not, Bool.not_eq_true', Bool.not_eq_false', Bool.and_eq_true, Bool.or_eq_true, Bool.and_eq_false_iff, Bool.or_eq_false_iff, beq_iff_eq, bne_iff_ne, beq_eq_false_iff_ne, bne_eq_false_iff_eq, Int.not_lt, Int.not_le, ge_iff_le, gt_iff_lt, not_or, not_and, Bool.cond_true_right, Bool.cond_true_left, Bool.cond_false_right, Bool.cond_false_left, bif_t, bif_f] at hg); first | (with_reducible assumption) | omega | (simp only [reduceCtorEq, ints_len, bools_len, Bool.not_false, Bool.not_true, List.length_map, decide_eq_true_eq, decide_eq_false_iff_not, Bool.not_eq_true', Bool.not_eq_false', Bool.and_eq_true, Bool.or_eq_true, Bool.and_eq_false_iff, Bool.or_eq_false_iff, beq_iff_eq, bne_iff_ne, beq_eq_false_iff_ne, bne_eq_false_iff_eq, Int.not_lt, Int.not_le, ge_iff_le, gt_iff_lt, not_or, not_and, Bool.cond_true_right, Bool.cond_true_left, Bool.cond_false_right, Bool.cond_false_left, bif_t, bif_f] at *; omega) | (refine ⟨?_, ?_⟩ <;> omega)) | (refine ⟨?_, ?_⟩ <;> omega) | (simp [*]; done) | grind)); (conv => whnf))
      (refine ⟨_, And.intro ⟨by omega, enc_get hy⟩ ?_⟩; (conv => whnf))
      (refine And.intro ?_ ?_; ((first | (with_reducible assumption) | (intro _; with_reducible assumption) | omega | (simp only [reduceCtorEq, ints_len, bools_len, Bool.not_false, Bool.not_true, List.length_map, decide_eq_true_eq, decide_eq_false_iff_not, Bool.not_eq_true', Bool.not_eq_false', Bool.and_eq_true, Bool.or_eq_true, Bool.and_eq_false_iff, Bool.or_eq_false_iff, beq_iff_eq, bne_iff_ne, beq_eq_false_iff_ne, bne_eq_false_iff_eq, Int.not_lt, Int.not_le, ge_iff_le, gt_iff_lt, not_or, not_and, Bool.cond_true_right, Bool.cond_true_left, Bool.cond_false_right, Bool.cond_false_left, bif_t, bif_f] at *; omega) | (intro hg; (try simp only [reduceCtorEq, ints_len, bools_len, Bool.not_false, Bool.not_true, List.length_map, decide_eq_true_eq, decide_eq_false_iff_not, Bool.not_eq_true', Bool.not_eq_false', Bool.and_eq_true, Bool.or_eq_true, Bool.and_eq_false_iff, Bool.or_eq_false_iff, beq_iff_eq, bne_iff_ne, beq_eq_false_iff_ne, bne_eq_false_iff_eq, Int.not_lt, Int.not_le, ge_iff_le, gt_iff_lt, not_or, not_and, Bool.cond_true_right, Bool.cond_true_left, Bool.cond_false_right, Bool.cond_false_left, bif_t, bif_f] at hg); first | (with_reducible assumption) | omega | (simp only [reduceCtorEq, ints_len, bools_len, Bool.not_false, Bool.not_true, List.length_map, decide_eq_true_eq, decide_eq_false_iff_not, Bool.not_eq_true', Bool.not_eq_false', Bool.and_eq_true, Bool.or_eq_true, Bool.and_eq_false_iff, Bool.or_eq_false_iff, beq_iff_eq, bne_iff_ne, beq_eq_false_iff_ne, bne_eq_false_iff_eq, Int.not_lt, Int.not_le, ge_iff_le, gt_iff_lt, not_or, not_and, Bool.cond_true_right, Bool.cond_true_left, Bool.cond_false_right, Bool.cond_false_left, bif_t, bif_f] at *; omega) | (refine ⟨?_, ?_⟩ <;> omega)) | (refine ⟨?_, ?_⟩ <;> omega) | (simp [*]; done) | grind)); (conv => whnf))
      (refine And.intro ?_ ?_; ((first | (with_reducible assumption) | (intro _; with_reducible assumption) | omega | (simp only [reduceCtorEq, ints_len, bools_len, Bool.not_false, Bool.not_true, List.length_map, decide_eq_true_eq, decide_eq_false_iff_not, Bool.not_eq_true', Bool.not_eq_false', Bool.and_eq_true, Bool.or_eq_true, Bool.and_eq_false_iff, Bool.or_eq_false_iff, beq_iff_eq, bne_iff_ne, beq_eq_false_iff_ne, bne_eq_false_iff_eq, Int.not_lt, Int.not_le, ge_iff_le, gt_iff_lt, not_or, not_and, Bool.cond_true_right, Bool.cond_true_left, Bool.cond_false_right, Bool.cond_false_left, bif_t, bif_f] at *; omega) | (intro hg; (try simp only [reduceCtorEq, ints_len, bools_len, Bool.not_false, Bool.not_true, List.length_map, decide_eq_true_eq, decide_eq_false_iff_not, Bool.not_eq_true', Bool.not_eq_false', Bool.and_eq_true, Bool.or_eq_true, Bool.and_eq_false_iff, Bool.or_eq_false_iff, beq_iff_eq, bne_iff_ne, beq_eq_false_iff_ne, bne_eq_false_iff_eq, Int.not_lt, Int.not_le, ge_iff_le, gt_iff_lt, not_or, not_and, Bool.cond_true_right, Bool.cond_true_left, Bool.cond_false_right, Bool.cond_false_left, bif_t, bif_f] at hg); first | (with_reducible assumption) | omega | (simp only [reduceCtorEq, ints_len, bools_len, Bool.not_false, Bool.not_true, List.length_map, decide_eq_true_eq, decide_eq_false_iff_not, Bool.not_eq_true', Bool.not_eq_false', Bool.and_eq_true, Bool.or_eq_true, Bool.and_eq_false_iff, Bool.or_eq_false_iff, beq_iff_eq, bne_iff_ne, beq_eq_false_iff_ne, bne_eq_false_iff_eq, Int.not_lt, Int.not_le, ge_iff_le, gt_iff_lt, not_or, not_and, Bool.cond_true_right, Bool.cond_true_left, Bool.cond_false_right, Bool.cond_false_left, bif_t, bif_f] at *; omega) | (refine ⟨?_, ?_⟩ <;> omega)) | (refine ⟨?_, ?_⟩ <;> omega) | (simp [*]; done) | grind)); (conv => whnf))
      refine ⟨s.length - (i + 1), by omega, [], ?_⟩
      conv => whnf
      refine ⟨i + 1, by omega, rfl, ?_⟩
      rw [hnt, prod_take hy]; rfl
    · have hi' : i = s.length := by omega
      subst hi'
      (refine ⟨[], ?_⟩; (conv => whnf); refine ⟨[], .nil, .nil, ?_⟩; (conv => whnf))
/-- the next subscripts -/
def nextF (f t : List Int) : List Int → List Int → Bool × List Int
  | [], s => (false, s)
  | d :: ds, s => if s.getD d.toNat 0 + 1 < t.getD d.toNat 0 then (true, s.set d.toNat (s.getD d.toNat 0 + 1)) else nextF f t ds (s.set d.toNat (f.getD d.toNat 0))
theorem mem_setI {l : List Int} {i : Nat} {x y : Int} (h : y ∈ l.set i x) : y ∈ l ∨ y = x := List.mem_or_eq_of_mem_set h
def R77 : Ct := fun ss hp r out => ∃ (s f t ds : List Int) (v : Value), ss = [.one (.own 0), .one (.d (.sl 1 (f.map inC))), .one (.d (.sl 1 (t.map inC))), .one (.d (.sl 1 (ds.map inC)))] ∧ hp = [.row 1 (s.map inC), .mem v (.own 0)] ∧ f.length = s.length ∧ t.length = s.length ∧ ds.length ≤ 1000000 ∧ (∀ d ∈ ds, 0 ≤ d ∧ d < s.length) ∧ (∀ x ∈ s, 0 ≤ x ∧ x ≤ 1000) ∧ (∀ x ∈ f, 0 ≤ x ∧ x ≤ 1000) ∧ (∀ x ∈ t, x ≤ 1000) ∧ r = .db (nextF f t ds s).1 ∧ out = [.row 1 ((nextF f t ds s).2.map inC), .mem v (.own 0)]
set_option maxHeartbeats 4000000 in
theorem ok77 : VSound Try.prog (77, R77) := by
  refine vsound (T := ty) (F := []) (pl := [(5, [[], [], [0, 1], [0, 1, 2], [], [], [4, 5], [4, 5, 6], [0, 1, 2, 3, 4, 5, 6, 7]], .look 0 (.look 1 (.look 2 (.look 3 (.look 4 (.look 5 (.look 6 (.look 7 (.look 8 .done)))))))))]) (nw := true) (cuts := []) mix tyOk .nil Try.func77 (by kernel_rfl) (by kernel_rfl) ?_
  rintro _ _ _ _ ⟨s0, f, t, ds, v, rfl, rfl, hf, ht, hdl, hd, hs0, hfb, htb, rfl, rfl⟩
  conv => whnf
  refine ⟨[], [0, 1, 2, 11, 12, 13], 2, fun n1 σ => ∃ (i : Nat) (s : List Int), i ≤ ds.length ∧ n1 = ds.length - i ∧ nextF f t ds s0 = nextF f t (ds.drop i) s ∧ s.length = s0.length ∧ (∀ x ∈ s, 0 ≤ x ∧ x ≤ 1000) ∧ σ = (⟨[.one (.own 0), .one (.d (.sl 1 (f.map inC))), .one (.d (.sl 1 (t.map inC))), .junk, .junk, .junk, .junk, .junk, .junk, .junk, .junk, .one (.d (.sl 1 (ds.map inC))), .di .i64 ds.length, .di .i64 i, .junk, .junk, .junk, .junk, .junk, .junk, .junk, .junk, .junk, .junk, .junk, .junk, .junk, .junk, .junk, .junk, .junk, .junk, .junk, .junk, .junk, .junk, .junk, .junk, .junk, .junk], [.row 1 (s.map inC), .mem v (.own 0)]⟩ : St), ?_, ?_⟩
  · refine ⟨ds.length, ?_⟩
    conv => whnf
    refine ⟨0, s0, by omega, by omega, rfl, rfl, hs0, ?_⟩
    rw [map_len]; rfl
  · rintro n1 _ ⟨i, s, hi, rfl, hn, hsl, hsb, rfl⟩
    rw [hn]
    conv => whnf
    ((with_reducible refine And.intro (fun (e : (_ : Bool) = true) => ?_) (fun (e : (_ : Bool) = false) => ?_)) <;> (try simp only [reduceCtorEq, ints_len, bools_len, Bool.not_false, Bool.not_true, List.length_map, decide_eq_true_eq, decide_eq_false_iff_not, Bool.not_eq_true', Bool.not_eq_false', Bool.and_eq_true, Bool.or_eq_true, Bool.and_eq_false_iff, Bool.or_eq_false_iff, beq_iff_eq, bne_iff_ne, beq_eq_false_iff_ne, bne_eq_false_iff_eq, Int.not_lt, Int.not_le, ge_iff_le, gt_iff_lt, not_or, not_and, Bool.cond_true_right, Bool.cond_true_left, Bool.cond_false_right, Bool.cond_false_left, bif_t, bif_f] at e) <;> (conv => whnf))
    · obtain ⟨d, hdi⟩ := get_lt (l := ds) (i := i) (by omega)
      have hdb := hd d (List.mem_of_getElem? hdi)
      obtain ⟨q, rfl⟩ := Int.eq_ofNat_of_zero_le hdb.1
      have hdrop : ds.drop i = (q : Int) :: ds.drop (i + 1) := by
        obtain ⟨h1, h2⟩ := List.getElem?_eq_some_iff.1 hdi
        rw [List.drop_eq_getElem_cons h1, h2]
      obtain ⟨x, hx⟩ := get_lt (l := s) (i := q) (by omega)
      obtain ⟨y, hy⟩ := get_lt (l := t) (i := q) (by omega)
      obtain ⟨z, hz⟩ := get_lt (l := f) (i := q) (by omega)
      have hxb := hsb x (List.mem_of_getElem? hx)
      have hzb := hfb z (List.mem_of_getElem? hz)
      rw [hdrop]
      simp only [nextF, Int.toNat_natCast]
      rw [gD_of hx, gD_of hy, gD_of hz]
      (refine ⟨_, And.intro ⟨by omega, enc_get hdi⟩ ?_⟩; (conv => whnf))
      (refine And.intro ⟨by omega, by rw [map_len]; omega⟩ ?_; (conv => whnf); refine ⟨_, And.intro (enc_get hx) ?_⟩; (conv => whnf))
      (refine And.intro ?_ ?_; ((first | (with_reducible assumption) | (intro _; with_reducible assumption) | omega | (simp only [reduceCtorEq, ints_len, bools_len, Bool.not_false, Bool.not_true, List.length_map, decide_eq_true_eq, decide_eq_false_iff_not, Bool.not_eq_true', Bool.not_eq_false', Bool.and_eq_true, Bool.or_eq_true, Bool.and_eq_false_iff, Bool.or_eq_false_iff, beq_iff_eq, bne_iff_ne, beq_eq_false_iff_ne, bne_eq_false_iff_eq, Int.not_lt, Int.not_le, ge_iff_le, gt_iff_lt, not_or, not_and, Bool.cond_true_right, Bool.cond_true_left, Bool.cond_false_right, Bool.cond_false_left, bif_t, bif_f] at *; omega) | (intro hg; (try simp only [reduceCtorEq, ints_len, bools_len, Bool.not_false, Bool.not_true, List.length_map, decide_eq_true_eq, decide_eq_false_iff_not, Bool.not_eq_true', Bool.not_eq_false', Bool.and_eq_true, Bool.or_eq_true, Bool.and_eq_false_iff, Bool.or_eq_false_iff, beq_iff_eq, bne_iff_ne, beq_eq_false_iff_ne, bne_eq_false_iff_eq, Int.not_lt, Int.not_le, ge_iff_le, gt_iff_lt, not_or, not_and, Bool.cond_true_right, Bool.cond_true_left, Bool.cond_false_right, Bool.cond_false_left, bif_t, bif_f] at hg); first | (with_reducible assumption) | omega | (simp only [reduceCtorEq, ints_len, bools_len, Bool.not_false, Bool.not_true, List.length_map, decide_eq_true_eq, decide_eq_false_iff_not, Bool.not_eq_true', Bool.not_eq_false', Bool.and_eq_true, Bool.or_eq_true, Bool.and_eq_false_iff, Bool.or_eq_false_iff, beq_iff_eq, bne_iff_ne, beq_eq_false_iff_ne, bne_eq_false_iff_eq, Int.not_lt, Int.not_le, ge_iff_le, gt_iff_lt, not_or, not_and, Bool.cond_true_right, Bool.cond_true_left, Bool.cond_false_right, Bool.cond_false_left, bif_t, bif_f] at *; omega) | (refine ⟨?_, ?_⟩ <;> omega)) | (refine ⟨?_, ?_⟩ <;> omega) | (simp [*]; done) | grind)); (conv => whnf))
      refine And.intro ⟨by omega, by rw [map_len]; omega⟩ ?_
      show St.apply _ _ _ _ _ _ _
      unfold St.apply
      simp only [updsK, appK, putD, setK]
      unfold vcOps
      simp only [isLook, winAt]
      unfold actStep evM
      simp only [operand, nthK, strip]
      conv => whnf
      refine ⟨_, And.intro (enc_get hx) ?_⟩
      conv => whnf
      have hset : ((s.map inC).set (q : Int).toNat [D.int .i64 (x + 1)]) = (s.set q (x + 1)).map inC := by rw [List.map_set]; rfl
      have hsx : (s.set q (x + 1))[q]? = some (x + 1) := List.getElem?_set_self (by omega)
      rw [hset]
      have hset2 : (s.set q (x + 1)).length = s.length := List.length_set
      (refine And.intro ⟨by omega, by rw [map_len]; omega⟩ ?_; (conv => whnf); refine ⟨_, And.intro (enc_get hsx) ?_⟩; (conv => whnf))
      (refine ⟨_, And.intro ⟨by omega, enc_get hy⟩ ?_⟩; (conv => whnf))
      ((with_reducible refine And.intro (fun (e : (_ : Bool) = true) => ?_) (fun (e : (_ : Bool) = false) => ?_)) <;> (try simp only [reduceCtorEq, ints_len, bools_len, Bool.not_false, Bool.not_true, List.length_map, decide_eq_true_eq, decide_eq_false_iff_not, Bool.not_eq_true', Bool.not_eq_false', Bool.and_eq_true, Bool.or_eq_true, Bool.and_eq_false_iff, Bool.or_eq_false_iff, beq_iff_eq, bne_iff_ne, beq_eq_false_iff_ne, bne_eq_false_iff_eq, Int.not_lt, Int.not_le, ge_iff_le, gt_iff_lt, not_or, not_and, Bool.cond_true_right, Bool.cond_true_left, Bool.cond_false_right, Bool.cond_false_left, bif_t, bif_f] at e) <;> (conv => whnf))
      · rw [if_pos (by assumption)]
        refine ⟨[], ?_⟩
        conv => whnf
        exact ⟨[0, 1], by simp, .cons ⟨_, rfl, rfl, rfl⟩ (.cons ⟨_, rfl, rfl, rfl⟩ .nil), rfl⟩
      · rw [if_neg (by omega)]
        (refine ⟨_, And.intro ⟨by omega, enc_get hz⟩ ?_⟩; (conv => whnf))
        refine And.intro ⟨by omega, by rw [map_len]; omega⟩ ?_
        show St.apply _ _ _ _ _ _ _
        unfold St.apply
        simp only [updsK, appK, putD, setK]
        unfold vcOps
        simp only [isLook, winAt]
        unfold actStep evM
        simp only [operand, nthK, strip]
        conv => whnf
        refine ⟨_, And.intro (enc_get hsx) ?_⟩
        conv => whnf
        have hset3 : (((s.set q (x + 1)).map inC).set (q : Int).toNat [D.int .i64 z]) = (s.set q z).map inC := by
          rw [Int.toNat_natCast, List.map_set, List.set_set, List.map_set]
        rw [hset3]
        conv => whnf
        (refine And.intro ?_ ?_; ((first | (with_reducible assumption) | (intro _; with_reducible assumption) | omega | (simp only [reduceCtorEq, ints_len, bools_len, Bool.not_false, Bool.not_true, List.length_map, decide_eq_true_eq, decide_eq_false_iff_not, Bool.not_eq_true', Bool.not_eq_false', Bool.and_eq_true, Bool.or_eq_true, Bool.and_eq_false_iff, Bool.or_eq_false_iff, beq_iff_eq, bne_iff_ne, beq_eq_false_iff_ne, bne_eq_false_iff_eq, Int.not_lt, Int.not_le, ge_iff_le, gt_iff_lt, not_or, not_and, Bool.cond_true_right, Bool.cond_true_left, Bool.cond_false_right, Bool.cond_false_left, bif_t, bif_f] at *; omega) | (intro hg; (try simp only [reduceCtorEq, ints_len, bools_len, Bool.not_false, Bool.not_true, List.length_map, decide_eq_true_eq, decide_eq_false_iff_not, Bool.not_eq_true', Bool.not_eq_false', Bool.and_eq_true, Bool.or_eq_true, Bool.and_eq_false_iff, Bool.or_eq_false_iff, beq_iff_eq, bne_iff_ne, beq_eq_false_iff_ne, bne_eq_false_iff_eq, Int.not_lt, Int.not_le, ge_iff_le, gt_iff_lt, not_or, not_and, Bool.cond_true_right, Bool.cond_true_left, Bool.cond_false_right, Bool.cond_false_left, bif_t, bif_f] at hg); first | (with_reducible assumption) | omega | (simp only [reduceCtorEq, ints_len, bools_len, Bool.not_false, Bool.not_true, List.length_map, decide_eq_true_eq, decide_eq_false_iff_not, Bool.not_eq_true', Bool.not_eq_false', Bool.and_eq_true, Bool.or_eq_true, Bool.and_eq_false_iff, Bool.or_eq_false_iff, beq_iff_eq, bne_iff_ne, beq_eq_false_iff_ne, bne_eq_false_iff_eq, Int.not_lt, Int.not_le, ge_iff_le, gt_iff_lt, not_or, not_and, Bool.cond_true_right, Bool.cond_true_left, Bool.cond_false_right, Bool.cond_false_left, bif_t, bif_f] at *; omega) | (refine ⟨?_, ?_⟩ <;> omega)) | (refine ⟨?_, ?_⟩ <;> omega) | (simp [*]; done) | grind)); (conv => whnf))
        refine ⟨ds.length - (i + 1), by omega, [], ?_⟩
        conv => whnf
        refine ⟨i + 1, s.set q z, by omega, rfl, rfl, by rw [List.length_set]; exact hsl, ?_, rfl⟩
        intro w hw
        rcases mem_setI hw with h | h
        · exact hsb w h
        · rw [h]; exact hzb
    · have hi' : i = ds.length := by omega
      subst hi'
      rw [List.drop_length, nextF]
      refine ⟨[], ?_⟩
      conv => whnf
      exact ⟨[0, 1], by simp, .cons ⟨_, rfl, rfl, rfl⟩ (.cons ⟨_, rfl, rfl, rfl⟩ .nil), rfl⟩
/-- how many states come behind s -/
def leftF (f t : List Int) : List Int → List Int → Int
  | [], _ => 0
  | d :: ds, s => (t.getD d.toNat 0 - 1 - s.getD d.toNat 0) + (t.getD d.toNat 0 - f.getD d.toNat 0) * leftF f t ds s
structure InBox (f t s : List Int) : Prop where
  lf : f.length = s.length
  lt : t.length = s.length
  lo : ∀ i, f.getD i 0 ≤ s.getD i 0
  hi : ∀ i < s.length, s.getD i 0 < t.getD i 0
theorem getD_set {l : List Int} {i j : Nat} {x : Int} (h : i < l.length) : (l.set i x).getD j 0 = if i = j then x else l.getD j 0 := by
  rw [List.getD_eq_getElem?_getD, List.getElem?_set]
  by_cases e : i = j
  · subst e; simp [h]
  · simp [e, List.getD_eq_getElem?_getD]
theorem leftF_set {f t ds s : List Int} {q : Nat} {x : Int} (hq : q < s.length) (hd : ∀ d ∈ ds, 0 ≤ d) (hn : (q : Int) ∉ ds) :
    leftF f t ds (s.set q x) = leftF f t ds s := by
  induction ds with
  | nil => rfl
  | cons d ds ih =>
    have h0 := hd d (List.mem_cons_self ..)
    have hne : q ≠ d.toNat := fun e => hn (by rw [e, Int.toNat_of_nonneg h0]; exact List.mem_cons_self ..)
    rw [leftF, leftF, getD_set hq, if_neg hne, ih (fun a h => hd a (List.mem_cons_of_mem _ h)) (fun h => hn (List.mem_cons_of_mem _ h))]
theorem InBox.set {f t s : List Int} (h : InBox f t s) {q : Nat} {x : Int} (hq : q < s.length) (h1 : f.getD q 0 ≤ x) (h2 : x < t.getD q 0) : InBox f t (s.set q x) where
  lf := by rw [List.length_set]; exact h.lf
  lt := by rw [List.length_set]; exact h.lt
  lo := by
    intro i
    rw [getD_set hq]
    split
    · rename_i e; subst e; exact h1
    · exact h.lo i
  hi := by
    intro i hi
    rw [List.length_set] at hi
    rw [getD_set hq]
    split
    · rename_i e; subst e; exact h2
    · exact h.hi i hi
theorem next_off {f t : List Int} {q : Nat} : ∀ {ds s : List Int}, (q : Int) ∉ ds → (∀ d ∈ ds, 0 ≤ d ∧ d < s.length) →
    (nextF f t ds s).2.getD q 0 = s.getD q 0 := by
  intro ds
  induction ds with
  | nil => intro s _ _; rfl
  | cons d ds ih =>
    intro s hn hb
    have hd := hb d (List.mem_cons_self ..)
    obtain ⟨p, rfl⟩ := Int.eq_ofNat_of_zero_le hd.1
    have hp : p < s.length := by omega
    have hne : p ≠ q := fun e => hn (by rw [e]; exact List.mem_cons_self ..)
    simp only [nextF, Int.toNat_natCast]
    split
    · rw [getD_set hp, if_neg hne]
    · rw [ih (fun h => hn (List.mem_cons_of_mem _ h)) (by rw [List.length_set]; exact fun a ha => hb a (List.mem_cons_of_mem _ ha)), getD_set hp, if_neg hne]
theorem left_next {f t : List Int} : ∀ {ds s : List Int}, InBox f t s → ds.Nodup → (∀ d ∈ ds, 0 ≤ d ∧ d < s.length) →
    InBox f t (nextF f t ds s).2 ∧ 0 ≤ leftF f t ds s ∧ ((nextF f t ds s).1 = true → leftF f t ds (nextF f t ds s).2 = leftF f t ds s - 1 ∧ 1 ≤ leftF f t ds s) ∧
    ((nextF f t ds s).1 = false → leftF f t ds s = 0) := by
  intro ds
  induction ds with
  | nil => intro s h _ _; exact ⟨h, Int.le_refl _, fun e => by simp [nextF] at e, fun _ => rfl⟩
  | cons d ds ih =>
    intro s h hn hb
    have hd := hb d (List.mem_cons_self ..)
    obtain ⟨q, rfl⟩ := Int.eq_ofNat_of_zero_le hd.1
    have hq : q < s.length := by omega
    have hn' := List.nodup_cons.1 hn
    have hb' : ∀ d ∈ ds, 0 ≤ d ∧ d < s.length := fun a ha => hb a (List.mem_cons_of_mem _ ha)
    have hb0 : ∀ d ∈ ds, 0 ≤ d := fun a ha => (hb' a ha).1
    have lo := h.lo q
    have hi := h.hi q hq
    simp only [nextF, Int.toNat_natCast, leftF]
    obtain ⟨a1, a2, a3, a4⟩ := ih h hn'.2 hb'
    have hm : 0 ≤ (t.getD q 0 - f.getD q 0) * leftF f t ds s := Int.mul_nonneg (by omega) a2
    split
    · rename_i hc
      have hs := h.set hq (x := s.getD q 0 + 1) (by omega) hc
      refine ⟨hs, by omega, fun _ => ⟨?_, by omega⟩, fun e => by simp at e⟩
      rw [getD_set hq, if_pos rfl, leftF_set hq hb0 hn'.1]
      omega
    · rename_i hc
      have hs := h.set hq (x := f.getD q 0) (by omega) (by omega)
      have hb2 : ∀ d ∈ ds, 0 ≤ d ∧ d < (s.set q (f.getD q 0)).length := by rw [List.length_set]; exact hb'
      obtain ⟨b1, b2, b3, b4⟩ := ih hs hn'.2 hb2
      have hq2 : (nextF f t ds (s.set q (f.getD q 0))).2.getD q 0 = f.getD q 0 := by
        rw [next_off hn'.1 hb2, getD_set hq, if_pos rfl]
      rw [leftF_set hq hb0 hn'.1] at b3 b4
      refine ⟨b1, by omega, fun e => ?_, fun e => ?_⟩
      · obtain ⟨c1, c2⟩ := b3 e
        have h3 : (t.getD q 0 - f.getD q 0) * 1 ≤ (t.getD q 0 - f.getD q 0) * leftF f t ds s := Int.mul_le_mul_of_nonneg_left c2 (by omega)
        rw [hq2, c1, Int.mul_sub]
        omega
      · rw [b4 e, Int.mul_zero]; omega
/-- the states of a walk -/
def walkS (f t ds : List Int) : Nat → List Int → List (List Int)
  | 0, s => [s]
  | n + 1, s => s :: (if (nextF f t ds s).1 = true then walkS f t ds n (nextF f t ds s).2 else [])
theorem walkS_eq {f t ds s : List Int} (h : InBox f t s) (hn : ds.Nodup) (hb : ∀ d ∈ ds, 0 ≤ d ∧ d < s.length) :
    walkS f t ds (leftF f t ds s).toNat s = s :: (if (nextF f t ds s).1 = true then walkS f t ds (leftF f t ds (nextF f t ds s).2).toNat (nextF f t ds s).2 else []) := by
  obtain ⟨h1, h2, h3, h4⟩ := left_next h hn hb
  cases e : (nextF f t ds s).1 with
  | false =>
    rw [h4 e]
    simp [walkS]
  | true =>
    obtain ⟨a, b⟩ := h3 e
    obtain ⟨k, hk⟩ : ∃ k : Nat, leftF f t ds s = (k : Int) + 1 := ⟨(leftF f t ds s - 1).toNat, by omega⟩
    have e1 : (leftF f t ds s).toNat = k + 1 := by omega
    have e2 : (leftF f t ds (nextF f t ds s).2).toNat = k := by omega
    rw [e1, e2, walkS, e]
def void (f t : List Int) : Bool := (List.range f.length).any fun i => decide (t.getD i 0 ≤ f.getD i 0)
def walkL (ex f t ds : List Int) : List Int := if void f t = true then [] else (walkS f t ds (leftF f t ds f).toNat f).map fun s => numTo ex s s.length
theorem left_bd {f t s : List Int} (hf : ∀ x ∈ f, 0 ≤ x ∧ x ≤ 400) (ht : ∀ x ∈ t, x ≤ 400) (h : InBox f t s) : ∀ {ds : List Int}, (∀ d ∈ ds, 0 ≤ d ∧ d < s.length) → 0 ≤ leftF f t ds s ∧ leftF f t ds s + 1 ≤ ((400 ^ ds.length : Nat) : Int) := by
  intro ds
  induction ds with
  | nil => intro _; exact ⟨Int.le_refl _, by show (0 : Int) + 1 ≤ ((400 ^ 0 : Nat) : Int); decide⟩
  | cons d ds ih =>
    intro hb
    obtain ⟨i1, i2⟩ := ih (fun a ha => hb a (List.mem_cons_of_mem _ ha))
    have hd := hb d (List.mem_cons_self ..)
    obtain ⟨q, rfl⟩ := Int.eq_ofNat_of_zero_le hd.1
    have hq : q < s.length := by omega
    have lo := h.lo q
    have hi := h.hi q hq
    have l1 := h.lf
    have l2 := h.lt
    have ft : 0 ≤ f.getD q 0 := by
      obtain ⟨x, hx⟩ := get_lt (l := f) (i := q) (by omega)
      rw [gD_of hx]; exact (hf x (List.mem_of_getElem? hx)).1
    have tt : t.getD q 0 ≤ 400 := by
      obtain ⟨x, hx⟩ := get_lt (l := t) (i := q) (by omega)
      rw [gD_of hx]; exact ht x (List.mem_of_getElem? hx)
    rw [leftF, Int.toNat_natCast, List.length_cons, Nat.pow_succ, Int.natCast_mul]
    have m1 : 0 ≤ (t.getD q 0 - f.getD q 0) * leftF f t ds s := Int.mul_nonneg (by omega) i1
    have m2 : (t.getD q 0 - f.getD q 0) * leftF f t ds s ≤ 400 * leftF f t ds s := Int.mul_le_mul_of_nonneg_right (by omega) i1
    generalize ((400 ^ ds.length : Nat) : Int) = P at i2 ⊢
    refine ⟨by omega, ?_⟩
    have : ((400 : Nat) : Int) = 400 := rfl
    omega
def R73 : Ct := fun ss hp r out => ∃ ex f t ds : List Int, ss = [.one (.d (.sl 1 (ex.map inC))), .one (.d (.sl 1 (f.map inC))), .one (.d (.sl 1 (t.map inC))), .one (.d (.sl 1 (ds.map inC)))] ∧ hp = [] ∧ f.length = ex.length ∧ t.length = ex.length ∧ ex.length ≤ 3 ∧ (∀ x ∈ ex, 0 ≤ x ∧ x ≤ 400) ∧ prod ex ≤ 400 ∧ (∀ x ∈ f, 0 ≤ x ∧ x ≤ 400) ∧ (∀ i < ex.length, t.getD i 0 ≤ ex.getD i 0) ∧ ds.Nodup ∧ ds.length ≤ 3 ∧ (∀ d ∈ ds, 0 ≤ d ∧ d < ex.length) ∧ r = .one (.own 0) ∧ out = [.row 1 ((walkL ex f t ds).map inC)]
set_option maxHeartbeats 4000000 in
theorem ok73 : VSound Try.prog (73, R73) := by
  refine vsound (T := ty) (F := [(64, R64), (77, R77), (108, R108)]) (pl := [(4, [[], [], [0, 1], [0, 1, 2], [], [], [4, 5], [4, 5, 6], [0, 1, 2, 3, 4, 5, 6, 7]], .look 0 (.look 1 (.look 2 (.look 3 (.look 4 (.look 5 (.look 6 (.look 7 (.look 8 .done)))))))))]) (nw := true) (cuts := []) mix tyOk (.cons (ok64) (.cons (ok77) (.cons (ok108) .nil))) Try.func73 (by kernel_rfl) (by kernel_rfl) ?_
  rintro _ _ _ _ ⟨ex, f, t, ds, rfl, rfl, hf, ht, hl, he, hp, hfb, htb, hnd, hdl, hd, rfl, rfl⟩
  have ht4 : ∀ x ∈ t, x ≤ 400 := by
    intro x hx
    obtain ⟨i, hi⟩ := List.mem_iff_getElem?.1 hx
    obtain ⟨hi', _⟩ := List.getElem?_eq_some_iff.1 hi
    obtain ⟨y, hy⟩ := get_lt (l := ex) (i := i) (by omega)
    have := htb i (by omega)
    rw [gD_of hi, gD_of hy] at this
    have := (he y (List.mem_of_getElem? hy)).2
    omega
  conv => whnf
  refine ⟨[], [0, 1, 2, 3, 13, 14], 0, fun n1 σ => ∃ i : Nat, i ≤ f.length ∧ n1 = f.length - i ∧ (∀ j < i, f.getD j 0 < t.getD j 0) ∧ σ = (⟨[.one (.d (.sl 1 (ex.map inC))), .one (.d (.sl 1 (f.map inC))), .one (.d (.sl 1 (t.map inC))), .one (.d (.sl 1 (ds.map inC))), .junk, .junk, .junk, .junk, .junk, .junk, .junk, .junk, .junk, .di .i64 f.length, .di .i64 i, .junk, .junk, .junk, .junk, .junk, .junk, .junk, .junk, .junk, .junk, .junk, .junk, .junk, .junk, .junk, .junk, .junk, .junk, .junk, .junk, .junk, .junk, .junk, .junk, .junk, .junk, .junk], []⟩ : St), ?_, ?_⟩
  · refine ⟨f.length, ?_⟩
    conv => whnf
    refine ⟨0, by omega, by omega, fun j hj => absurd hj (Nat.not_lt_zero _), ?_⟩
    rw [map_len]; rfl
  · rintro n1 _ ⟨i, hi, rfl, hlt, rfl⟩
    conv => whnf
    ((with_reducible refine And.intro (fun (e : (_ : Bool) = true) => ?_) (fun (e : (_ : Bool) = false) => ?_)) <;> (try simp only [reduceCtorEq, ints_len, bools_len, Bool.not_false, Bool.not_true, List.length_map, decide_eq_true_eq, decide_eq_false_iff_not, Bool.not_eq_true', Bool.not_eq_false', Bool.and_eq_true, Bool.or_eq_true, Bool.and_eq_false_iff, Bool.or_eq_false_iff, beq_iff_eq, bne_iff_ne, beq_eq_false_iff_ne, bne_eq_false_iff_eq, Int.not_lt, Int.not_le, ge_iff_le, gt_iff_lt, not_or, not_and, Bool.cond_true_right, Bool.cond_true_left, Bool.cond_false_right, Bool.cond_false_left, bif_t, bif_f] at e) <;> (conv => whnf))
    · obtain ⟨x, hx⟩ := get_lt (l := f) (i := i) (by omega)
      obtain ⟨y, hy⟩ := get_lt (l := t) (i := i) (by omega)
      (refine ⟨_, And.intro ⟨by omega, enc_get hx⟩ ?_⟩; (conv => whnf))
      (refine ⟨_, And.intro ⟨by omega, enc_get hy⟩ ?_⟩; (conv => whnf))
      ((with_reducible refine And.intro (fun (e : (_ : Bool) = true) => ?_) (fun (e : (_ : Bool) = false) => ?_)) <;> (try simp only [reduceCtorEq, ints_len, bools_len, Bool.not_false, Bool.not_true, List.length_map, decide_eq_true_eq, decide_eq_false_iff_not, Bool.not_eq_true', Bool.not_eq_false', Bool.and_eq_true, Bool.or_eq_true, Bool.and_eq_false_iff, Bool.or_eq_false_iff, beq_iff_eq, bne_iff_ne, beq_eq_false_iff_ne, bne_eq_false_iff_eq, Int.not_lt, Int.not_le, ge_iff_le, gt_iff_lt, not_or, not_and, Bool.cond_true_right, Bool.cond_true_left, Bool.cond_false_right, Bool.cond_false_left, bif_t, bif_f] at e) <;> (conv => whnf))
      · have hv : void f t = true := by
          rw [void, List.any_eq_true]
          exact ⟨i, List.mem_range.2 (by omega), decide_eq_true (by rw [gD_of hx, gD_of hy]; assumption)⟩
        rw [walkL, if_pos hv]
        refine ⟨[.slot 8 true], ?_⟩
        conv => whnf
        exact ⟨[0], by simp, .cons ⟨_, rfl, rfl, rfl⟩ .nil, rfl⟩
      · (refine And.intro ?_ ?_; ((first | (with_reducible assumption) | (intro _; with_reducible assumption) | omega | (simp only [reduceCtorEq, ints_len, bools_len, Bool.not_false, Bool.not_true, List.length_map, decide_eq_true_eq, decide_eq_false_iff_not, Bool.not_eq_true', Bool.not_eq_false', Bool.and_eq_true, Bool.or_eq_true, Bool.and_eq_false_iff, Bool.or_eq_false_iff, beq_iff_eq, bne_iff_ne, beq_eq_false_iff_ne, bne_eq_false_iff_eq, Int.not_lt, Int.not_le, ge_iff_le, gt_iff_lt, not_or, not_and, Bool.cond_true_right, Bool.cond_true_left, Bool.cond_false_right, Bool.cond_false_left, bif_t, bif_f] at *; omega) | (intro hg; (try simp only [reduceCtorEq, ints_len, bools_len, Bool.not_false, Bool.not_true, List.length_map, decide_eq_true_eq, decide_eq_false_iff_not, Bool.not_eq_true', Bool.not_eq_false', Bool.and_eq_true, Bool.or_eq_true, Bool.and_eq_false_iff, Bool.or_eq_false_iff, beq_iff_eq, bne_iff_ne, beq_eq_false_iff_ne, bne_eq_false_iff_eq, Int.not_lt, Int.not_le, ge_iff_le, gt_iff_lt, not_or, not_and, Bool.cond_true_right, Bool.cond_true_left, Bool.cond_false_right, Bool.cond_false_left, bif_t, bif_f] at hg); first | (with_reducible assumption) | omega | (simp only [reduceCtorEq, ints_len, bools_len, Bool.not_false, Bool.not_true, List.length_map, decide_eq_true_eq, decide_eq_false_iff_not, Bool.not_eq_true', Bool.not_eq_false', Bool.and_eq_true, Bool.or_eq_true, Bool.and_eq_false_iff, Bool.or_eq_false_iff, beq_iff_eq, bne_iff_ne, beq_eq_false_iff_ne, bne_eq_false_iff_eq, Int.not_lt, Int.not_le, ge_iff_le, gt_iff_lt, not_or, not_and, Bool.cond_true_right, Bool.cond_true_left, Bool.cond_false_right, Bool.cond_false_left, bif_t, bif_f] at *; omega) | (refine ⟨?_, ?_⟩ <;> omega)) | (refine ⟨?_, ?_⟩ <;> omega) | (simp [*]; done) | grind)); (conv => whnf))
        refine ⟨f.length - (i + 1), by omega, [], ?_⟩
        conv => whnf
        refine ⟨i + 1, by omega, rfl, ?_, rfl⟩
        intro j hj
        by_cases e : j = i
        · subst e; rw [gD_of hx, gD_of hy]; omega
        · exact hlt j (by omega)
    · have hi' : i = f.length := by omega
      subst hi'
      have hv : void f t = false := by
        rw [void, List.any_eq_false]
        intro j hj
        have := hlt j (List.mem_range.1 hj)
        simp only [decide_eq_true_eq]
        omega
      have he1 : ∀ x ∈ ex, 1 ≤ x ∧ x ≤ 400 := by
        intro x hx
        obtain ⟨j, hj⟩ := List.mem_iff_getElem?.1 hx
        obtain ⟨hj', _⟩ := List.getElem?_eq_some_iff.1 hj
        have h1 := hlt j (by omega)
        have h2 := htb j (by omega)
        obtain ⟨y, hy⟩ := get_lt (l := f) (i := j) (by omega)
        have h3 := (hfb y (List.mem_of_getElem? hy)).1
        rw [gD_of hj] at h2
        rw [gD_of hy] at h1
        exact ⟨by omega, (he x hx).2⟩
      have hbox : InBox f t f := ⟨rfl, by omega, fun i => Int.le_refl _, fun i hi => hlt i (by omega)⟩
      rw [walkL, if_neg (by rw [hv]; simp)]
      (refine ⟨[], false, false, ?_⟩; (conv => whnf); refine ⟨_, _, ⟨f, rfl, rfl, by omega, rfl, rfl⟩, ?_⟩; (conv => whnf))
      refine ⟨[.slot 11 true], [0, 1, 2, 3, 10, 11], 2, fun n1 σ => ∃ (s : List Int) (done : List Int), InBox f t s ∧ n1 = (leftF f t ds s).toNat ∧ (walkS f t ds (leftF f t ds f).toNat f).map (fun s => numTo ex s s.length) = done ++ (walkS f t ds (leftF f t ds s).toNat s).map (fun s => numTo ex s s.length) ∧ done.length + leftF f t ds s = leftF f t ds f ∧ σ = (⟨[.one (.d (.sl 1 (ex.map inC))), .one (.d (.sl 1 (f.map inC))), .one (.d (.sl 1 (t.map inC))), .one (.d (.sl 1 (ds.map inC))), .junk, .junk, .junk, .junk, .junk, .junk, .one (.own 0), .one (.own 1), .junk, .junk, .junk, .junk, .junk, .junk, .junk, .junk, .junk, .junk, .junk, .junk, .junk, .junk, .junk, .junk, .junk, .junk, .junk, .junk, .junk, .junk, .junk, .junk, .junk, .junk, .junk, .junk, .junk, .junk], [.row 1 (s.map inC), .row 1 (done.map inC)]⟩ : St), ?_, ?_⟩
      · refine ⟨(leftF f t ds f).toNat, ?_⟩
        conv => whnf
        exact ⟨f, [], hbox, rfl, rfl, by simp, rfl⟩
      · rintro n1 _ ⟨s, done, hs, rfl, hw, hdn, rfl⟩
        have sl := hs.lf
        have hsb : ∀ x ∈ s, 0 ≤ x ∧ x ≤ 400 := by
          intro x hx
          obtain ⟨j, hj⟩ := List.mem_iff_getElem?.1 hx
          obtain ⟨hj', _⟩ := List.getElem?_eq_some_iff.1 hj
          have h1 := hs.lo j
          have h2 := hs.hi j hj'
          have h4 := htb j (by omega)
          obtain ⟨y, hy⟩ := get_lt (l := f) (i := j) (by omega)
          obtain ⟨z, hz⟩ := get_lt (l := ex) (i := j) (by omega)
          have h3 := (hfb y (List.mem_of_getElem? hy)).1
          have h5 := (he z (List.mem_of_getElem? hz)).2
          rw [gD_of hj] at h1 h2
          rw [gD_of hy] at h1
          rw [gD_of hz] at h4
          omega
        conv => whnf
        (refine ⟨[], false, false, ?_⟩; (conv => whnf); refine ⟨_, _, ⟨ex, s, rfl, rfl, by omega, hl, he1, hp, hsb, rfl, rfl⟩, ?_⟩; (conv => whnf))
        obtain ⟨n1, n2, n3, n4⟩ := left_next hs hnd (by rw [← sl, hf]; exact hd)
        have hlb := left_bd hfb ht4 hbox (ds := ds) (by rw [hf]; exact hd)
        have h400 : ((400 ^ ds.length : Nat) : Int) ≤ 64000000 := by
          have : (400 ^ ds.length : Nat) ≤ 400 ^ 3 := Nat.pow_le_pow_right (by decide) hdl
          omega
        refine ⟨by rw [map_len]; simp only [List.length_cons, List.length_nil]; omega, ?_⟩
        conv => whnf
        refine ⟨[0], false, false, ?_⟩
        conv => whnf
        intro v
        conv => whnf
        refine ⟨_, _, ⟨s, f, t, ds, v, rfl, rfl, by omega, by omega, by omega, by rw [← sl, hf]; exact hd, fun x h => ⟨(hsb x h).1, by have := (hsb x h).2; omega⟩, fun x h => ⟨(hfb x h).1, by have := (hfb x h).2; omega⟩, fun x h => by have := ht4 x h; omega, rfl, rfl⟩, ?_⟩
        conv => whnf
        refine ⟨rfl, ?_⟩
        cases hb : (nextF f t ds s).1 with
        | true =>
          conv => whnf
          refine ⟨fun h => absurd h (by decide), fun _ => ?_⟩
          conv => whnf
          obtain ⟨m1, m2⟩ := n3 hb
          refine ⟨(leftF f t ds (nextF f t ds s).2).toNat, by omega, [], ?_⟩
          conv => whnf
          refine ⟨(nextF f t ds s).2, done ++ [numTo ex s s.length], n1, rfl, ?_, ?_, ?_⟩
          · rw [hw, walkS_eq hs hnd (by rw [← sl, hf]; exact hd), if_pos hb, List.map_cons, List.append_assoc]; rfl
          · rw [List.length_append]; simp only [List.length_cons, List.length_nil]; omega
          · rw [List.map_append]; rfl
        | false =>
          conv => whnf
          refine ⟨fun _ => ?_, fun h => absurd h (by decide)⟩
          conv => whnf
          refine ⟨[], ?_⟩
          conv => whnf
          have hout : (walkS f t ds (leftF f t ds f).toNat f).map (fun s => numTo ex s s.length) = done ++ [numTo ex s s.length] := by
            rw [hw, walkS_eq hs hnd (by rw [← sl, hf]; exact hd), if_neg (by rw [hb]; simp)]; rfl
          rw [hout, List.map_append]
          exact ⟨[1], by simp, .cons ⟨_, rfl, rfl, rfl⟩ .nil, rfl⟩
end Go.Proofs.Ytahdihhhankhdaa.V

