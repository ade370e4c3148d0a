/-
  V: the reference's places are the program's. By the session's own hand.
-/
import Derived.Test.YtahdihhhankhdaaVv
set_option linter.unusedVariables false
set_option linter.unusedSimpArgs false
set_option maxRecDepth 100000
set_option linter.all false
set_option linter.unnecessarySimpa false
set_option linter.deprecated false
namespace Go.Proofs.Ytahdihhhankhdaa.V
open Go.Proofs.YtahdihhhankhdaaVY Go.RowKit
theorem seg_get {row : List Int} {s : Int} : ∀ {m q r : Nat} {v : Int}, q < m → row[r]? = some v → (seg row s m)[q * row.length + r]? = some (v + ((q : Int) + 1) * s)
  | 0, q, r, v, h, _ => by omega
  | m + 1, q, r, v, h, hr => by
    have hrl := (List.getElem?_eq_some_iff.1 hr).1
    have hl := seg_len row s m
    rw [seg]
    by_cases e : q = m
    · subst e
      rw [List.getElem?_append_right (by omega), hl, Nat.add_sub_cancel_left, List.getElem?_map, hr]
      push_cast; rfl
    · have hq : q + 1 ≤ m := by omega
      have h2 : (q + 1) * row.length ≤ m * row.length := Nat.mul_le_mul_right _ hq
      rw [Nat.succ_mul] at h2
      rw [List.getElem?_append_left (by omega)]
      exact seg_get (by omega) hr
theorem subs_snoc : ∀ (l : List Int) (n i : Int), subs (l ++ [n]) i = subs l i ++ [(rests l i l.length).tmod n]
  | [], n, i => rfl
  | e :: l, n, i => by rw [List.cons_append, subs, subs_snoc l, subs, List.length_cons, rests]; rfl
theorem rests_all : ∀ (l : List Nat) (i : Nat), rests (l.map Int.ofNat) i l.length = ((i / l.prod : Nat) : Int)
  | [], i => by simp [rests]
  | e :: l, i => by
    rw [List.length_cons, List.map_cons, rests, List.prod_cons, ← Nat.div_div_eq_div_mul]
    exact rests_all l (i / e)
theorem subs_mod : ∀ (l : List Nat) (i : Nat), subs (l.map Int.ofNat) i = subs (l.map Int.ofNat) (i % l.prod : Nat)
  | [], i => rfl
  | e :: l, i => by
    rw [List.map_cons, subs, subs, List.prod_cons]
    have h1 : (Int.ofNat i).tmod (Int.ofNat e) = (Int.ofNat (i % (e * l.prod))).tmod (Int.ofNat e) := by
      show ((i % e : Nat) : Int) = ((i % (e * l.prod) % e : Nat) : Int)
      rw [Nat.mod_mul_right_mod]
    have h2 : subs (l.map Int.ofNat) ((Int.ofNat i).tdiv (Int.ofNat e)) = subs (l.map Int.ofNat) ((Int.ofNat (i % (e * l.prod))).tdiv (Int.ofNat e)) := by
      show subs _ ((i / e : Nat) : Int) = subs _ ((i % (e * l.prod) / e : Nat) : Int)
      rw [subs_mod l (i / e), Nat.mod_mul_right_div_self]
    exact congr (congrArg List.cons h1) h2
theorem prod_nat : ∀ l : List Nat, V.prod (l.map Int.ofNat) = ((l.prod : Nat) : Int)
  | [] => rfl
  | e :: l => by rw [List.map_cons, V.prod, prod_nat l, List.prod_cons]; push_cast; rfl
theorem getD_map {l : List Nat} {k n : Nat} (h : l[k]? = some n) : (l.map Int.ofNat).getD k 0 = n := getD_of (by rw [List.getElem?_map, h]; rfl)
theorem prod_take_nat {l : List Nat} {k n : Nat} (h : l[k]? = some n) : (l.take (k + 1)).prod = (l.take k).prod * n := by
  rw [List.take_add_one, h, Option.toList_some, List.prod_append]; simp
theorem placesTo_nat {l : List Nat} (xs : List Int) (b : Int) (h1 : ∀ n ∈ l, 1 ≤ n) (hx : xs.length = l.length) : ∀ k ≤ l.length, (placesTo (l.map Int.ofNat) xs b k).length = (l.take k).prod ∧
    ∀ i < (l.take k).prod, (placesTo (l.map Int.ofNat) xs b k)[i]? = some (dot (subs ((l.take k).map Int.ofNat) i) xs b)
  | 0, _ => by
    refine ⟨rfl, fun i hi => ?_⟩
    have : i = 0 := by simp at hi; exact hi
    subst this
    simp [placesTo, subs, dot]
  | k + 1, hk => by
    obtain ⟨ih1, ih2⟩ := placesTo_nat xs b h1 hx k (by omega)
    obtain ⟨n, hn⟩ := get_lt (l := l) (i := k) (by omega)
    obtain ⟨s, hs⟩ := get_lt (l := xs) (i := k) (by omega)
    have hn1 := h1 n (List.mem_of_getElem? hn)
    have hP := prod_take_nat hn
    have hlen : (placesTo (l.map Int.ofNat) xs b (k + 1)).length = (l.take (k + 1)).prod := by
      rw [placesTo, List.length_append, seg_len, getD_map hn, ih1, hP, show ((n : Int) - 1).toNat = n - 1 by omega]
      obtain ⟨m, rfl⟩ : ∃ m, n = m + 1 := ⟨n - 1, by omega⟩
      rw [Nat.add_sub_cancel, Nat.mul_succ, Nat.mul_comm, Nat.add_comm]
    refine ⟨hlen, fun i hi => ?_⟩
    rw [hP] at hi
    generalize hPk : (l.take k).prod = P at *
    have hPos : 0 < P := Nat.pos_of_ne_zero (by rintro rfl; simp at hi)
    have hq : i / P < n := Nat.div_lt_of_lt_mul hi
    have hr : i % P < P := Nat.mod_lt _ hPos
    have hrow := ih2 (i % P) hr
    have htk : (l.take (k + 1)).map Int.ofNat = (l.take k).map Int.ofNat ++ [(n : Int)] := by rw [List.take_add_one, hn, Option.toList_some, List.map_append]; rfl
    have hlk : ((l.take k).map Int.ofNat).length = k := by rw [List.length_map, List.length_take]; omega
    have hlk2 : (l.take k).length = k := by rw [List.length_take]; omega
    have hsub : subs ((l.take (k + 1)).map Int.ofNat) i = subs ((l.take k).map Int.ofNat) (i % P : Nat) ++ [((i / P : Nat) : Int)] := by
      rw [htk, subs_snoc, List.length_map, rests_all, hPk, subs_mod, hPk]
      congr 2
      show ((i / P % n : Nat) : Int) = _
      rw [Nat.mod_eq_of_lt hq]
    have hdot : dot (subs ((l.take (k + 1)).map Int.ofNat) i) xs b = dot (subs ((l.take k).map Int.ofNat) (i % P : Nat)) xs b + ((i / P : Nat) : Int) * s := by
      rw [hsub]
      have hul := subs_len ((l.take k).map Int.ofNat) (i % P : Nat)
      rw [hlk] at hul
      generalize subs ((l.take k).map Int.ofNat) (i % P : Nat) = U at *
      have := dot_take (l := U ++ [((i / P : Nat) : Int)]) (xs := xs) (b := b) (i := k) (s := ((i / P : Nat) : Int)) (x := s) (by rw [List.getElem?_append_right (by omega), hul, Nat.sub_self]; rfl) hs
      have t1 : (U ++ [((i / P : Nat) : Int)]).take (k + 1) = U ++ [((i / P : Nat) : Int)] := List.take_of_length_le (by rw [List.length_append, hul]; simp)
      have t2 : (U ++ [((i / P : Nat) : Int)]).take k = U := by rw [List.take_append_of_le_length (by omega), List.take_of_length_le (by omega)]
      rw [t1, t2] at this
      exact this
    rw [hdot, placesTo, getD_map hn, getD_of hs, show ((n : Int) - 1).toNat = n - 1 by omega]
    have hi' : i = P * (i / P) + i % P := (Nat.div_add_mod i P).symm
    generalize hR : placesTo (l.map Int.ofNat) xs b k = row at *
    by_cases h0 : i / P = 0
    · have e : i = i % P := by rw [h0, Nat.mul_zero, Nat.zero_add] at hi'; exact hi'
      rw [List.getElem?_append_left (by omega), h0]
      rw [← e] at hrow ⊢
      simpa using hrow
    · obtain ⟨q, hq1⟩ : ∃ q, i / P = q + 1 := Nat.exists_eq_succ_of_ne_zero h0
      have hge : P ≤ i := by
        rw [hq1, Nat.mul_succ] at hi'
        have : 0 ≤ P * q := Nat.zero_le _
        omega
      rw [List.getElem?_append_right (by omega), ih1]
      have e : i - P = q * row.length + i % P := by
        rw [hq1, Nat.mul_succ, Nat.mul_comm P q] at hi'
        rw [ih1]; omega
      rw [e, seg_get (by omega) hrow, hq1]
      push_cast; rfl
def allTo (l : List Int) (x : Ref) (n : Nat) : List Int := (List.range n).map fun (i : Nat) => place l x i
theorem allTo_succ (l : List Int) (x : Ref) (n : Nat) : allTo l x (n + 1) = allTo l x n ++ [place l x n] := by
  unfold allTo; rw [List.range_succ, List.map_append]; rfl
theorem allTo_len (l : List Int) (x : Ref) (n : Nat) : (allTo l x n).length = n := by simp [allTo]
theorem many_prod {l : List Int} (h : 0 ≤ many l) : many l = prod l ∧ prod l ≤ 400 ∧ 1 ≤ l.length ∧ l.length ≤ 3 ∧ ∀ n ∈ l, 0 ≤ n ∧ n ≤ 400 := by
  unfold many at h ⊢
  by_cases h1 : l.length < 1 ∨ 3 < l.length ∨ l.any (fun n => decide (n < 0 ∨ 400 < n)) = true
  · rw [if_pos h1] at h; omega
  · rw [if_neg h1] at h ⊢
    by_cases h2 : 400 < prod l
    · rw [if_pos h2] at h; omega
    · rw [if_neg h2]
      refine ⟨rfl, by omega, by omega, by omega, fun n hn => ?_⟩
      have : ¬ l.any (fun n => decide (n < 0 ∨ 400 < n)) = true := fun hh => h1 (.inr (.inr hh))
      simp only [List.any_eq_true, not_exists, not_and, decide_eq_true_eq] at this
      have := this n hn
      omega
theorem ext_pos {l : List Int} (h : 0 < many l) : ∀ n ∈ l, 1 ≤ n := by
  obtain ⟨h1, _, _, _, h2⟩ := many_prod (Int.le_of_lt h)
  exact prod_pos (fun n hn => (h2 n hn).1) (by omega)
theorem ofNats {l : List Int} (h : ∀ n ∈ l, 0 ≤ n) : l = (l.map Int.toNat).map Int.ofNat := by
  rw [List.map_map]
  exact ((List.map_id l).symm).trans (List.map_congr_left fun n hn => (Int.toNat_of_nonneg (h n hn)).symm)
theorem all_places {l : List Int} {x : Ref} (h : refOk l x = true) : allTo l x (many l).toNat = places l x := by
  have R := refOk_rt h
  have hm : 0 ≤ many l := by unfold refOk at h; simp only [Bool.and_eq_true, decide_eq_true_eq] at h; exact h.1
  unfold places
  by_cases h0 : many l = 0
  · rw [if_pos h0, h0]; rfl
  · rw [if_neg h0]
    have hp := ext_pos (l := l) (by omega)
    obtain ⟨m1, _, _, _, m2⟩ := many_prod hm
    have hl := ofNats (l := l) fun n hn => (m2 n hn).1
    generalize l.map Int.toNat = L at hl
    subst hl
    obtain ⟨p1, p2⟩ := placesTo_nat (l := L) x.str x.base (fun n hn => by have := hp (n : Int) (List.mem_map_of_mem (f := Int.ofNat) hn); omega) (by have := R.len; simpa using this) L.length (Nat.le_refl _)
    rw [List.take_length] at p1 p2
    rw [m1, prod_nat, Int.toNat_natCast, List.length_map]
    apply List.ext_getElem?
    intro i
    by_cases hi : i < L.prod
    · rw [p2 i hi]
      unfold allTo
      rw [List.getElem?_map, List.getElem?_range hi]; rfl
    · rw [List.getElem?_eq_none (by rw [allTo_len]; omega), List.getElem?_eq_none (by omega)]
def R146 : Ct := fun ss hp r out => ∃ (l : List Int) (x : Ref), ss = [.one (.d (.sl 1 (l.map inC))), .v (.ag (x.c.map .d))] ∧ hp = [] ∧ refOk l x = true ∧ r = .one (.own 0) ∧ out = [.row 1 ((places l x).map inC)]
set_option maxHeartbeats 4000000 in
theorem ok146 : VSound Try.prog (146, R146) := by
  refine vsound (T := ty) (F := [(59, R59), (152, R152)]) (pl := []) (nw := true) (cuts := []) mix tyOk (.cons (ok59) (.cons (ok152) .nil)) Try.func146 (by kernel_rfl) (by kernel_rfl) ?_
  rintro _ _ _ _ ⟨l, x, rfl, rfl, hok, rfl, rfl⟩
  rw [← all_places hok]
  have R := refOk_rt hok
  have hm : 0 ≤ many l := by unfold refOk at hok; simp only [Bool.and_eq_true, decide_eq_true_eq] at hok; exact hok.1
  obtain ⟨m1, m2, m3, m4, m5⟩ := many_prod hm
  obtain ⟨N, hN⟩ := Int.eq_ofNat_of_zero_le hm
  rw [hN, Int.toNat_natCast]
  obtain ⟨xa, xb, xs⟩ := x
  conv => whnf
  refine ⟨[.slot 5 true], [0, 3, 5, 6], 2, fun n1 σ => ∃ i : Nat, i ≤ N ∧ n1 = N - i ∧ σ = (⟨[.one (.d (.sl 1 (l.map inC))), .junk, .junk, .one (.ptr 0 0), .junk, .one (.own 1), .di .i64 i, .junk, .junk, .junk, .junk, .junk, .junk, .junk, .junk, .junk, .junk, .junk, .junk, .junk, .junk], [.box (List.map .d (Ref.mk xa xb xs).c), .row 1 ((allTo l ⟨xa, xb, xs⟩ i).map inC)]⟩ : St), ?_, ?_⟩
  · refine ⟨N, ?_⟩
    conv => whnf
    exact ⟨0, by omega, by omega, rfl⟩
  · rintro n1 _ ⟨i, hi, rfl, rfl⟩
    conv => whnf
    (refine ⟨[], false, false, ?_⟩; (conv => whnf); refine ⟨_, _, ⟨l, rfl, rfl, by omega, rfl, rfl⟩, ?_⟩; (conv => whnf))
    rw [hN]
    ((with_reducible refine And.intro (fun (e : (_ : Bool) = true) => ?_) (fun (e : (_ : Bool) = false) => ?_)) <;> (try simp only [reduceCtorEq, ints_len, bools_len, Bool.not_false, Bool.not_true, List.length_map, decide_eq_true_eq, decide_eq_false_iff_not, Bool.not_eq_true', Bool.not_eq_false', Bool.and_eq_true, Bool.or_eq_true, Bool.and_eq_false_iff, Bool.or_eq_false_iff, beq_iff_eq, bne_iff_ne, beq_eq_false_iff_ne, bne_eq_false_iff_eq, Int.not_lt, Int.not_le, ge_iff_le, gt_iff_lt, not_or, not_and, Bool.cond_true_right, Bool.cond_true_left, Bool.cond_false_right, Bool.cond_false_left, bif_t, bif_f] at e) <;> (conv => whnf))
    · have hp := ext_pos (l := l) (by omega)
      (refine ⟨[], false, false, ?_⟩; (conv => whnf); refine ⟨_, _, ⟨l, ⟨xa, xb, xs⟩, i, rfl, rfl, R, hp, ⟨by omega, by omega⟩, rfl, rfl⟩, ?_⟩; (conv => whnf))
      refine ⟨by rw [map_len, allTo_len]; simp only [List.length_cons, List.length_nil]; omega, ?_⟩
      conv => whnf
      (refine And.intro ?_ ?_; ((first | (with_reducible assumption) | (intro _; with_reducible assumption) | omega | (simp only [reduceCtorEq, ints_len, bools_len, Bool.not_false, Bool.not_true, List.length_map, decide_eq_true_eq, decide_eq_false_iff_not, Bool.not_eq_true', Bool.not_eq_false', Bool.and_eq_true, Bool.or_eq_true, Bool.and_eq_false_iff, Bool.or_eq_false_iff, beq_iff_eq, bne_iff_ne, beq_eq_false_iff_ne, bne_eq_false_iff_eq, Int.not_lt, Int.not_le, ge_iff_le, gt_iff_lt, not_or, not_and, Bool.cond_true_right, Bool.cond_true_left, Bool.cond_false_right, Bool.cond_false_left, bif_t, bif_f] at *; omega) | (intro hg; (try simp only [reduceCtorEq, ints_len, bools_len, Bool.not_false, Bool.not_true, List.length_map, decide_eq_true_eq, decide_eq_false_iff_not, Bool.not_eq_true', Bool.not_eq_false', Bool.and_eq_true, Bool.or_eq_true, Bool.and_eq_false_iff, Bool.or_eq_false_iff, beq_iff_eq, bne_iff_ne, beq_eq_false_iff_ne, bne_eq_false_iff_eq, Int.not_lt, Int.not_le, ge_iff_le, gt_iff_lt, not_or, not_and, Bool.cond_true_right, Bool.cond_true_left, Bool.cond_false_right, Bool.cond_false_left, bif_t, bif_f] at hg); first | (with_reducible assumption) | omega | (simp only [reduceCtorEq, ints_len, bools_len, Bool.not_false, Bool.not_true, List.length_map, decide_eq_true_eq, decide_eq_false_iff_not, Bool.not_eq_true', Bool.not_eq_false', Bool.and_eq_true, Bool.or_eq_true, Bool.and_eq_false_iff, Bool.or_eq_false_iff, beq_iff_eq, bne_iff_ne, beq_eq_false_iff_ne, bne_eq_false_iff_eq, Int.not_lt, Int.not_le, ge_iff_le, gt_iff_lt, not_or, not_and, Bool.cond_true_right, Bool.cond_true_left, Bool.cond_false_right, Bool.cond_false_left, bif_t, bif_f] at *; omega) | (refine ⟨?_, ?_⟩ <;> omega)) | (refine ⟨?_, ?_⟩ <;> omega) | (simp [*]; done) | grind)); (conv => whnf))
      refine ⟨N - (i + 1), by omega, [], ?_⟩
      conv => whnf
      refine ⟨i + 1, by omega, rfl, ?_⟩
      rw [allTo_succ, List.map_append]; rfl
    · have hi' : i = N := by omega
      subst hi'
      refine ⟨[], ?_⟩
      conv => whnf
      exact ⟨[1], by simp, .cons ⟨_, rfl, rfl, rfl⟩ .nil, rfl⟩
end Go.Proofs.Ytahdihhhankhdaa.V

