/-
  V: pairs of iterations that meet. By the session's own hand.
-/
import Derived.Test.YtahdihhhankhdaaVj
set_option linter.unusedVariables false
set_option linter.unusedSimpArgs false
set_option maxRecDepth 100000
set_option linter.all false
set_option linter.unnecessarySimpa false
set_option linter.deprecated false
namespace Go.Proofs.Ytahdihhhankhdaa.V
open Go.Proofs.YtahdihhhankhdaaVY Go.RowKit
/-- where a number stands among the first ones -/
def idxs (l : List Int) (x : Int) : Nat → List Int
  | 0 => []
  | i + 1 => idxs l x i ++ if l.getD i 0 = x then [(i : Int)] else []
def pairsTo (A B : List Int) : Nat → List (Int × Int)
  | 0 => []
  | i + 1 => pairsTo A B i ++ (idxs B (A.getD i 0) B.length).map fun j => ((i : Int), j)
def pairs (l : List Int) (a b : Ref) : List (Int × Int) := if refOk l a = true ∧ refOk l b = true ∧ a.arr = b.arr then pairsTo (places l a) (places l b) (places l a).length else []
def pairsErr (l : List Int) (a b : Ref) : Int := if refOk l a = true ∧ refOk l b = true then 0 else 2
theorem idxs_len (l : List Int) (x : Int) : ∀ i, (idxs l x i).length ≤ i
  | 0 => by simp [idxs]
  | i + 1 => by have := idxs_len l x i; rw [idxs, List.length_append]; split <;> simp <;> omega
theorem idxs_mem (l : List Int) (x : Int) : ∀ i, ∀ v ∈ idxs l x i, 0 ≤ v ∧ v < i
  | 0, v, h => by simp [idxs] at h
  | i + 1, v, h => by
    rw [idxs, List.mem_append] at h
    rcases h with h | h
    · have := idxs_mem l x i v h; omega
    · split at h
      · simp at h; omega
      · simp at h
theorem prod_pos : ∀ {l : List Int}, (∀ n ∈ l, 0 ≤ n) → prod l ≠ 0 → ∀ n ∈ l, 1 ≤ n
  | [], _, _, n, h => by simp at h
  | x :: l, h0, hp, n, h => by
    have hx := h0 x (List.mem_cons_self ..)
    have h1 : x ≠ 0 := by rintro rfl; exact hp (by rw [prod, Int.zero_mul])
    have h2 : prod l ≠ 0 := by intro hh; exact hp (by rw [prod, hh, Int.mul_zero])
    rcases List.mem_cons.1 h with rfl | h
    · omega
    · exact prod_pos (fun m hm => h0 m (List.mem_cons_of_mem _ hm)) h2 n h
theorem placesTo_len {l xs : List Int} {b : Int} (h1 : ∀ n ∈ l, 1 ≤ n) : ∀ i ≤ l.length, ((placesTo l xs b i).length : Int) = prod (l.take i)
  | 0, _ => by simp [placesTo, prod]
  | i + 1, hi => by
    obtain ⟨n, hn⟩ := get_lt (l := l) (i := i) (by omega)
    have ih := placesTo_len (xs := xs) (b := b) h1 i (by omega)
    have hn1 := h1 n (List.mem_of_getElem? hn)
    rw [prod_take hn, placesTo, List.length_append, seg_len, getD_of hn, ← ih]
    obtain ⟨m, rfl⟩ : ∃ m : Nat, n = m + 1 := ⟨(n - 1).toNat, by omega⟩
    rw [show ((m : Int) + 1 - 1).toNat = m by omega]
    push_cast
    rw [Int.mul_add, Int.mul_one, Int.mul_comm (m : Int)]
    omega
theorem places_len {l : List Int} {x : Ref} (h : refOk l x = true) : (places l x).length ≤ 400 := by
  unfold places
  by_cases h0 : many l = 0
  · rw [if_pos h0]; simp
  · rw [if_neg h0]
    have hm : 0 ≤ many l := by
      unfold refOk at h
      simp only [Bool.and_eq_true, decide_eq_true_eq] at h
      exact h.1
    unfold many at hm h0
    split at hm
    · omega
    · rename_i h1
      rw [if_neg h1] at h0
      split at hm
      · omega
      · rename_i h2
        rw [if_neg h2] at h0
        have R := refOk_rt h
        have := placesTo_len (xs := x.str) (b := x.base) (prod_pos (fun n hn => (R.ext n hn).1) h0) l.length (Nat.le_refl _)
        rw [List.take_length] at this
        omega
theorem pairsTo_len (A B : List Int) : ∀ i, (pairsTo A B i).length ≤ i * B.length
  | 0 => by simp [pairsTo]
  | i + 1 => by
    have h1 := pairsTo_len A B i
    have h2 := idxs_len B (A.getD i 0) B.length
    rw [pairsTo, List.length_append, List.length_map, Nat.succ_mul]; omega
abbrev Mr := List (Int × Option (List (List D)))
/-- a map of rows tells where each number stands among the first ones -/
structure Told (B : List Int) (i : Nat) (M : Mr) : Prop where
  own : ∀ p ∈ M, p.2 = some ((idxs B p.1 i).map inC)
  all : ∀ x, idxs B x i ≠ [] → ∃ p ∈ M, p.1 = x
  nd : (M.map Prod.fst).Nodup
theorem putM_mem {k : Int} {v : Option (List (List D))} {p : Int × Option (List (List D))} : ∀ {M : Mr}, (M.map Prod.fst).Nodup → p ∈ putM M k v → p = (k, v) ∨ (p ∈ M ∧ p.1 ≠ k)
  | [], _, h => by simp [putM] at h; exact .inl h
  | (k', x') :: M, hn, h => by
    rw [List.map_cons, List.nodup_cons] at hn
    unfold putM at h
    split at h
    · rename_i e
      subst e
      rcases List.mem_cons.1 h with h | h
      · exact .inl h
      · exact .inr ⟨List.mem_cons_of_mem _ h, fun e => hn.1 (by have := List.mem_map_of_mem (f := Prod.fst) h; rw [e] at this; exact this)⟩
    · rename_i e
      rcases List.mem_cons.1 h with rfl | h
      · exact .inr ⟨List.mem_cons_self .., e⟩
      · rcases putM_mem hn.2 h with h | ⟨h1, h2⟩
        · exact .inl h
        · exact .inr ⟨List.mem_cons_of_mem _ h1, h2⟩
theorem putM_has {k : Int} {v : Option (List (List D))} : ∀ {M : Mr}, (k, v) ∈ putM M k v
  | [] => by simp [putM]
  | (k', x') :: M => by unfold putM; split <;> simp [putM_has]
theorem putM_keep {k : Int} {v : Option (List (List D))} {p : Int × Option (List (List D))} : ∀ {M : Mr}, p ∈ M → p.1 ≠ k → p ∈ putM M k v
  | [], h, _ => by simp at h
  | (k', x') :: M, h, hk => by
    unfold putM
    rcases List.mem_cons.1 h with rfl | h
    · rw [if_neg hk]; exact List.mem_cons_self ..
    · split
      · exact List.mem_cons_of_mem _ h
      · exact List.mem_cons_of_mem _ (putM_keep h hk)
theorem putM_keys {k : Int} {v : Option (List (List D))} : ∀ {M : Mr}, (M.map Prod.fst).Nodup → ((putM M k v).map Prod.fst).Nodup
  | [], _ => by simp [putM]
  | (k', x') :: M, hn => by
    rw [List.map_cons, List.nodup_cons] at hn
    unfold putM
    split
    · rename_i e; subst e; exact List.nodup_cons.2 hn
    · rename_i e
      refine List.nodup_cons.2 ⟨fun hm => ?_, putM_keys hn.2⟩
      obtain ⟨p, hp, he⟩ := List.mem_map.1 hm
      rcases putM_mem hn.2 hp with rfl | ⟨h1, _⟩
      · exact e he.symm
      · exact hn.1 (by rw [← he]; exact List.mem_map_of_mem (f := Prod.fst) h1)
theorem idxs_at {B : List Int} {i : Nat} {x : Int} (h : B[i]? = some x) : idxs B x (i + 1) = idxs B x i ++ [(i : Int)] := by
  rw [idxs, getD_of h, if_pos rfl]
theorem idxs_ne {B : List Int} {i : Nat} {x y : Int} (h : B[i]? = some x) (hy : y ≠ x) : idxs B y (i + 1) = idxs B y i := by
  rw [idxs, getD_of h, if_neg (Ne.symm hy), List.append_nil]
theorem told_put {B : List Int} {i : Nat} {x : Int} {M N : Mr} (hx : B[i]? = some x) (H : Told B i M) (hN : (N.map Prod.fst).Nodup) (h1 : ∀ p ∈ N, p.1 ≠ x → p ∈ M) (h2 : ∀ p ∈ M, p.1 ≠ x → p ∈ N) : Told B (i + 1) (putM N x (some ((idxs B x i).map inC ++ [inC (i : Int)]))) where
  own := fun p hp => by
    rcases putM_mem hN hp with rfl | ⟨h, hk⟩
    · show some _ = some _
      rw [idxs_at hx, List.map_append]; rfl
    · rw [idxs_ne hx hk]; exact H.own p (h1 p h hk)
  all := fun y hy => by
    by_cases e : y = x
    · subst e; exact ⟨_, putM_has, rfl⟩
    · rw [idxs_ne hx e] at hy
      obtain ⟨p, hp, rfl⟩ := H.all y hy
      exact ⟨p, putM_keep (h2 p hp e) e, rfl⟩
  nd := putM_keys hN
theorem set_keys {M : Mr} {q : Nat} {x : Int} {r r' : Option (List (List D))} (h : M[q]? = some (x, r)) : (M.set q (x, r')).map Prod.fst = M.map Prod.fst := by
  rw [List.map_set]
  apply List.ext_getElem?
  intro j
  by_cases e : j = q
  · subst e
    have hl := (List.getElem?_eq_some_iff.1 h).1
    rw [List.getElem?_set_self (by simpa using hl), List.getElem?_map, h]; rfl
  · rw [List.getElem?_set_ne (Ne.symm e)]
theorem set_out {M : Mr} {q : Nat} {x : Int} {r : Option (List (List D))} {p : Int × Option (List (List D))} (hp : p ∈ M.set q (x, r)) (hk : p.1 ≠ x) : p ∈ M := by
  rcases List.mem_or_eq_of_mem_set hp with h | h
  · exact h
  · subst h; exact absurd rfl hk
theorem set_in {M : Mr} {q : Nat} {x : Int} {r r' : Option (List (List D))} (h : M[q]? = some (x, r)) {p : Int × Option (List (List D))} (hp : p ∈ M) (hk : p.1 ≠ x) : p ∈ M.set q (x, r') := by
  obtain ⟨j, hj⟩ := List.getElem?_of_mem hp
  have e : j ≠ q := by rintro rfl; rw [h] at hj; cases hj; exact hk rfl
  exact List.mem_of_getElem? (i := j) (by rw [List.getElem?_set_ne (Ne.symm e)]; exact hj)
def R143 : Ct := fun ss hp r out => ∃ (l : List Int) (a b : Ref), ss = [.one (.d (.sl 1 (l.map inC))), .v (.ag (a.c.map .d)), .v (.ag (b.c.map .d))] ∧ hp = [] ∧ l.length < 4611686018427387904 ∧ a.str.length < 4611686018427387904 ∧ b.str.length < 4611686018427387904 ∧ r = .tup [.c (.own 0), .c (.d (.int .i64 (pairsErr l a b)))] ∧ out = [.row 2 ((pairs l a b).map prC)]
set_option maxHeartbeats 4000000 in
theorem ok143 : VSound Try.prog (143, R143) := by
  refine vsound (T := ty) (F := [(120, R120), (151, R151)]) (pl := []) (nw := true) (cuts := []) mix tyOk (.cons (ok120) (.cons (ok151) .nil)) Try.func143 (by kernel_rfl) (by kernel_rfl) ?_
  rintro _ _ _ _ ⟨l, ⟨aa, ab, sa⟩, ⟨ba, bb, sb⟩, rfl, rfl, hl, ha, hb, rfl, rfl⟩
  conv => whnf
  refine ⟨[], false, false, ?_⟩
  conv => whnf
  refine ⟨_, _, ⟨l, ⟨aa, ab, sa⟩, rfl, rfl, hl, ha, rfl, rfl⟩, ?_⟩
  conv => whnf
  refine ⟨fun e1 => ?_, fun e1 => ?_⟩
  · conv => whnf
    (repeat' (first | ((with_reducible refine And.intro (fun (e : (_ : Bool) = true) => ?_) (fun (e : (_ : Bool) = false) => ?_)) <;> (try simp only [reduceCtorEq, ints_len, bools_len, Bool.not_false, Bool.not_true, List.length_map, decide_eq_true_eq, decide_eq_false_iff_not, Bool.not_eq_true', Bool.not_eq_false', Bool.and_eq_true, Bool.or_eq_true, Bool.and_eq_false_iff, Bool.or_eq_false_iff, beq_iff_eq, bne_iff_ne, beq_eq_false_iff_ne, bne_eq_false_iff_eq, Int.not_lt, Int.not_le, ge_iff_le, gt_iff_lt, not_or, not_and, Bool.cond_true_right, Bool.cond_true_left, Bool.cond_false_right, Bool.cond_false_left, bif_t, bif_f] at e) <;> (conv => whnf)) | (refine And.intro ?_ ?_; ((first | (with_reducible assumption) | (intro _; with_reducible assumption) | omega | (simp only [reduceCtorEq, ints_len, bools_len, Bool.not_false, Bool.not_true, List.length_map, decide_eq_true_eq, decide_eq_false_iff_not, Bool.not_eq_true', Bool.not_eq_false', Bool.and_eq_true, Bool.or_eq_true, Bool.and_eq_false_iff, Bool.or_eq_false_iff, beq_iff_eq, bne_iff_ne, beq_eq_false_iff_ne, bne_eq_false_iff_eq, Int.not_lt, Int.not_le, ge_iff_le, gt_iff_lt, not_or, not_and, Bool.cond_true_right, Bool.cond_true_left, Bool.cond_false_right, Bool.cond_false_left, bif_t, bif_f] at *; omega) | (intro hg; (try simp only [reduceCtorEq, ints_len, bools_len, Bool.not_false, Bool.not_true, List.length_map, decide_eq_true_eq, decide_eq_false_iff_not, Bool.not_eq_true', Bool.not_eq_false', Bool.and_eq_true, Bool.or_eq_true, Bool.and_eq_false_iff, Bool.or_eq_false_iff, beq_iff_eq, bne_iff_ne, beq_eq_false_iff_ne, bne_eq_false_iff_eq, Int.not_lt, Int.not_le, ge_iff_le, gt_iff_lt, not_or, not_and, Bool.cond_true_right, Bool.cond_true_left, Bool.cond_false_right, Bool.cond_false_left, bif_t, bif_f] at hg); first | (with_reducible assumption) | omega | (simp only [reduceCtorEq, ints_len, bools_len, Bool.not_false, Bool.not_true, List.length_map, decide_eq_true_eq, decide_eq_false_iff_not, Bool.not_eq_true', Bool.not_eq_false', Bool.and_eq_true, Bool.or_eq_true, Bool.and_eq_false_iff, Bool.or_eq_false_iff, beq_iff_eq, bne_iff_ne, beq_eq_false_iff_ne, bne_eq_false_iff_eq, Int.not_lt, Int.not_le, ge_iff_le, gt_iff_lt, not_or, not_and, Bool.cond_true_right, Bool.cond_true_left, Bool.cond_false_right, Bool.cond_false_left, bif_t, bif_f] at *; omega) | (refine ⟨?_, ?_⟩ <;> omega)) | (refine ⟨?_, ?_⟩ <;> omega) | (simp [*]; done) | grind)); (conv => whnf))))
    refine ⟨[], false, false, ?_⟩
    conv => whnf
    refine ⟨_, _, ⟨l, ⟨ba, bb, sb⟩, rfl, rfl, hl, hb, rfl, rfl⟩, ?_⟩
    conv => whnf
    simp at e1
    (repeat' (first | ((with_reducible refine And.intro (fun (e : (_ : Bool) = true) => ?_) (fun (e : (_ : Bool) = false) => ?_)) <;> (try simp only [reduceCtorEq, ints_len, bools_len, Bool.not_false, Bool.not_true, List.length_map, decide_eq_true_eq, decide_eq_false_iff_not, Bool.not_eq_true', Bool.not_eq_false', Bool.and_eq_true, Bool.or_eq_true, Bool.and_eq_false_iff, Bool.or_eq_false_iff, beq_iff_eq, bne_iff_ne, beq_eq_false_iff_ne, bne_eq_false_iff_eq, Int.not_lt, Int.not_le, ge_iff_le, gt_iff_lt, not_or, not_and, Bool.cond_true_right, Bool.cond_true_left, Bool.cond_false_right, Bool.cond_false_left, bif_t, bif_f] at e) <;> (conv => whnf)) | (refine And.intro ?_ ?_; ((first | (with_reducible assumption) | (intro _; with_reducible assumption) | omega | (simp only [reduceCtorEq, ints_len, bools_len, Bool.not_false, Bool.not_true, List.length_map, decide_eq_true_eq, decide_eq_false_iff_not, Bool.not_eq_true', Bool.not_eq_false', Bool.and_eq_true, Bool.or_eq_true, Bool.and_eq_false_iff, Bool.or_eq_false_iff, beq_iff_eq, bne_iff_ne, beq_eq_false_iff_ne, bne_eq_false_iff_eq, Int.not_lt, Int.not_le, ge_iff_le, gt_iff_lt, not_or, not_and, Bool.cond_true_right, Bool.cond_true_left, Bool.cond_false_right, Bool.cond_false_left, bif_t, bif_f] at *; omega) | (intro hg; (try simp only [reduceCtorEq, ints_len, bools_len, Bool.not_false, Bool.not_true, List.length_map, decide_eq_true_eq, decide_eq_false_iff_not, Bool.not_eq_true', Bool.not_eq_false', Bool.and_eq_true, Bool.or_eq_true, Bool.and_eq_false_iff, Bool.or_eq_false_iff, beq_iff_eq, bne_iff_ne, beq_eq_false_iff_ne, bne_eq_false_iff_eq, Int.not_lt, Int.not_le, ge_iff_le, gt_iff_lt, not_or, not_and, Bool.cond_true_right, Bool.cond_true_left, Bool.cond_false_right, Bool.cond_false_left, bif_t, bif_f] at hg); first | (with_reducible assumption) | omega | (simp only [reduceCtorEq, ints_len, bools_len, Bool.not_false, Bool.not_true, List.length_map, decide_eq_true_eq, decide_eq_false_iff_not, Bool.not_eq_true', Bool.not_eq_false', Bool.and_eq_true, Bool.or_eq_true, Bool.and_eq_false_iff, Bool.or_eq_false_iff, beq_iff_eq, bne_iff_ne, beq_eq_false_iff_ne, bne_eq_false_iff_eq, Int.not_lt, Int.not_le, ge_iff_le, gt_iff_lt, not_or, not_and, Bool.cond_true_right, Bool.cond_true_left, Bool.cond_false_right, Bool.cond_false_left, bif_t, bif_f] at *; omega) | (refine ⟨?_, ?_⟩ <;> omega)) | (refine ⟨?_, ?_⟩ <;> omega) | (simp [*]; done) | grind)); (conv => whnf))))
    · have e2 := e
      refine ⟨[.slot 6 true], ?_⟩
      conv => whnf
      refine ⟨[2], by simp, .cons ⟨_, rfl, rfl, ?_⟩ .nil, .cons rfl (.cons ?_ .nil)⟩
      · unfold pairs; rw [if_neg (by rintro ⟨h1, h2, h3⟩; rcases e2 with h | h; (rw [h1] at h; cases h); (rw [h2] at h; cases h))]; rfl
      · unfold pairsErr; rw [if_neg (by rintro ⟨h1, h2⟩; rcases e2 with h | h; (rw [h1] at h; cases h); (rw [h2] at h; cases h))]; rfl
    · have e2 := e
      rename_i e0
      obtain ⟨o1, o2⟩ := e0
      refine ⟨[.slot 6 true], ?_⟩
      conv => whnf
      refine ⟨[2], by simp, .cons ⟨_, rfl, rfl, ?_⟩ .nil, .cons rfl (.cons ?_ .nil)⟩
      · unfold pairs; rw [if_neg (by rintro ⟨h1, h2, h3⟩; exact e2 h3)]; rfl
      · unfold pairsErr; rw [if_pos ⟨o1, o2⟩]; rfl
    · have e2 := e
      rename_i e0
      obtain ⟨o1, o2⟩ := e0
      have hPp : pairs l ⟨aa, ab, sa⟩ ⟨ba, bb, sb⟩ = pairsTo (places l ⟨aa, ab, sa⟩) (places l ⟨ba, bb, sb⟩) (places l ⟨aa, ab, sa⟩).length := by unfold pairs; rw [if_pos ⟨o1, o2, e2⟩]
      have hPe : pairsErr l ⟨aa, ab, sa⟩ ⟨ba, bb, sb⟩ = 0 := by unfold pairsErr; rw [if_pos ⟨o1, o2⟩]
      have hA := places_len o1
      have hB := places_len o2
      rw [hPp, hPe]
      refine ⟨[], false, false, ?_⟩
      conv => whnf
      refine ⟨_, _, ⟨l, ⟨ba, bb, sb⟩, rfl, rfl, o2, rfl, rfl⟩, ?_⟩
      conv => whnf
      generalize places l ⟨ba, bb, sb⟩ = B at *
      refine ⟨[.rows 8 1], [0, 4, 8, 34, 35, 36], 4, fun n1 σ => ∃ (i : Nat) (M : Mr), i ≤ B.length ∧ n1 = B.length - i ∧ Told B i M ∧ σ = (⟨[.one (.d (.sl 1 (l.map inC))), .junk, .junk, .junk, .one (.ptr 0 0), .junk, .junk, .junk, .one (.town 2), .junk, .junk, .junk, .junk, .junk, .junk, .junk, .junk, .junk, .junk, .junk, .junk, .junk, .junk, .junk, .junk, .junk, .junk, .junk, .junk, .junk, .junk, .junk, .junk, .junk, .one (.own 3), .di .i64 B.length, .di .i64 i, .junk, .junk, .junk, .junk, .junk, .junk, .junk, .junk, .junk, .junk, .junk, .junk, .junk, .junk, .junk, .junk, .junk, .junk, .junk, .junk, .junk, .junk, .junk, .junk, .junk, .junk, .junk, .junk, .junk, .junk, .junk, .junk, .junk, .junk, .junk, .junk, .junk, .junk, .junk], [.box (List.map .d (Ref.mk aa ab sa).c), .box (List.map .d (Ref.mk ba bb sb).c), .mapr 1 M, .row 1 (B.map inC)]⟩ : St), ?_, ?_⟩
      · refine ⟨B.length, ?_⟩
        conv => whnf
        refine ⟨0, [], by omega, by omega, ⟨by simp, by simp [idxs], by simp⟩, ?_⟩
        rw [map_len]; rfl
      · rintro n1 _ ⟨i, M, hi, rfl, HM, rfl⟩
        conv => whnf
        ((with_reducible refine And.intro (fun (e : (_ : Bool) = true) => ?_) (fun (e : (_ : Bool) = false) => ?_)) <;> (try simp only [reduceCtorEq, ints_len, bools_len, Bool.not_false, Bool.not_true, List.length_map, decide_eq_true_eq, decide_eq_false_iff_not, Bool.not_eq_true', Bool.not_eq_false', Bool.and_eq_true, Bool.or_eq_true, Bool.and_eq_false_iff, Bool.or_eq_false_iff, beq_iff_eq, bne_iff_ne, beq_eq_false_iff_ne, bne_eq_false_iff_eq, Int.not_lt, Int.not_le, ge_iff_le, gt_iff_lt, not_or, not_and, Bool.cond_true_right, Bool.cond_true_left, Bool.cond_false_right, Bool.cond_false_left, bif_t, bif_f] at e) <;> (conv => whnf))
        · obtain ⟨x, hx⟩ := get_lt (l := B) (i := i) (by omega)
          refine And.intro ⟨by omega, by rw [map_len]; omega⟩ ?_
          conv => whnf
          refine ⟨_, And.intro (enc_get hx) ?_⟩
          conv => whnf
          refine ⟨fun q r hq => ?_, fun hno => ?_⟩
          · have hr := HM.own _ (List.mem_of_getElem? hq)
            simp only at hr
            subst hr
            have hil := idxs_len B x i
            refine ⟨by simp, ?_⟩
            conv => whnf
            refine ⟨_, _, And.intro hq ?_⟩
            conv => whnf
            refine ⟨by rw [map_len]; simp only [List.length_cons, List.length_nil]; omega, ?_⟩
            conv => whnf
            (refine And.intro ?_ ?_; ((first | (with_reducible assumption) | (intro _; with_reducible assumption) | omega | (simp only [reduceCtorEq, ints_len, bools_len, Bool.not_false, Bool.not_true, List.length_map, decide_eq_true_eq, decide_eq_false_iff_not, Bool.not_eq_true', Bool.not_eq_false', Bool.and_eq_true, Bool.or_eq_true, Bool.and_eq_false_iff, Bool.or_eq_false_iff, beq_iff_eq, bne_iff_ne, beq_eq_false_iff_ne, bne_eq_false_iff_eq, Int.not_lt, Int.not_le, ge_iff_le, gt_iff_lt, not_or, not_and, Bool.cond_true_right, Bool.cond_true_left, Bool.cond_false_right, Bool.cond_false_left, bif_t, bif_f] at *; omega) | (intro hg; (try simp only [reduceCtorEq, ints_len, bools_len, Bool.not_false, Bool.not_true, List.length_map, decide_eq_true_eq, decide_eq_false_iff_not, Bool.not_eq_true', Bool.not_eq_false', Bool.and_eq_true, Bool.or_eq_true, Bool.and_eq_false_iff, Bool.or_eq_false_iff, beq_iff_eq, bne_iff_ne, beq_eq_false_iff_ne, bne_eq_false_iff_eq, Int.not_lt, Int.not_le, ge_iff_le, gt_iff_lt, not_or, not_and, Bool.cond_true_right, Bool.cond_true_left, Bool.cond_false_right, Bool.cond_false_left, bif_t, bif_f] at hg); first | (with_reducible assumption) | omega | (simp only [reduceCtorEq, ints_len, bools_len, Bool.not_false, Bool.not_true, List.length_map, decide_eq_true_eq, decide_eq_false_iff_not, Bool.not_eq_true', Bool.not_eq_false', Bool.and_eq_true, Bool.or_eq_true, Bool.and_eq_false_iff, Bool.or_eq_false_iff, beq_iff_eq, bne_iff_ne, beq_eq_false_iff_ne, bne_eq_false_iff_eq, Int.not_lt, Int.not_le, ge_iff_le, gt_iff_lt, not_or, not_and, Bool.cond_true_right, Bool.cond_true_left, Bool.cond_false_right, Bool.cond_false_left, bif_t, bif_f] at *; omega) | (refine ⟨?_, ?_⟩ <;> omega)) | (refine ⟨?_, ?_⟩ <;> omega) | (simp [*]; done) | grind)); (conv => whnf))
            refine ⟨B.length - (i + 1), by omega, [], ?_⟩
            conv => whnf
            exact ⟨i + 1, putM (M.set q (x, none)) x (some ((idxs B x i).map inC ++ [inC (i : Int)])), by omega, rfl, told_put hx HM (by rw [set_keys hq]; exact HM.nd) (fun p hp hk => set_out hp hk) (fun p hp hk => set_in hq hp hk), rfl⟩
          · have h0 : idxs B x i = [] := by
              rcases Classical.em (idxs B x i = []) with h | h
              · exact h
              · obtain ⟨p, hp, e⟩ := HM.all x h
                exact absurd e (hno p hp)
            have ht := told_put hx HM (N := M) HM.nd (fun p hp _ => hp) (fun p hp _ => hp)
            rw [h0] at ht
            conv => whnf
            refine ⟨by simp, ?_⟩
            conv => whnf
            (refine And.intro ?_ ?_; ((first | (with_reducible assumption) | (intro _; with_reducible assumption) | omega | (simp only [reduceCtorEq, ints_len, bools_len, Bool.not_false, Bool.not_true, List.length_map, decide_eq_true_eq, decide_eq_false_iff_not, Bool.not_eq_true', Bool.not_eq_false', Bool.and_eq_true, Bool.or_eq_true, Bool.and_eq_false_iff, Bool.or_eq_false_iff, beq_iff_eq, bne_iff_ne, beq_eq_false_iff_ne, bne_eq_false_iff_eq, Int.not_lt, Int.not_le, ge_iff_le, gt_iff_lt, not_or, not_and, Bool.cond_true_right, Bool.cond_true_left, Bool.cond_false_right, Bool.cond_false_left, bif_t, bif_f] at *; omega) | (intro hg; (try simp only [reduceCtorEq, ints_len, bools_len, Bool.not_false, Bool.not_true, List.length_map, decide_eq_true_eq, decide_eq_false_iff_not, Bool.not_eq_true', Bool.not_eq_false', Bool.and_eq_true, Bool.or_eq_true, Bool.and_eq_false_iff, Bool.or_eq_false_iff, beq_iff_eq, bne_iff_ne, beq_eq_false_iff_ne, bne_eq_false_iff_eq, Int.not_lt, Int.not_le, ge_iff_le, gt_iff_lt, not_or, not_and, Bool.cond_true_right, Bool.cond_true_left, Bool.cond_false_right, Bool.cond_false_left, bif_t, bif_f] at hg); first | (with_reducible assumption) | omega | (simp only [reduceCtorEq, ints_len, bools_len, Bool.not_false, Bool.not_true, List.length_map, decide_eq_true_eq, decide_eq_false_iff_not, Bool.not_eq_true', Bool.not_eq_false', Bool.and_eq_true, Bool.or_eq_true, Bool.and_eq_false_iff, Bool.or_eq_false_iff, beq_iff_eq, bne_iff_ne, beq_eq_false_iff_ne, bne_eq_false_iff_eq, Int.not_lt, Int.not_le, ge_iff_le, gt_iff_lt, not_or, not_and, Bool.cond_true_right, Bool.cond_true_left, Bool.cond_false_right, Bool.cond_false_left, bif_t, bif_f] at *; omega) | (refine ⟨?_, ?_⟩ <;> omega)) | (refine ⟨?_, ?_⟩ <;> omega) | (simp [*]; done) | grind)); (conv => whnf))
            refine ⟨B.length - (i + 1), by omega, [], ?_⟩
            conv => whnf
            exact ⟨i + 1, _, by omega, rfl, ht, rfl⟩
        · have hi' : i = B.length := by omega
          subst hi'
          refine ⟨[], false, false, ?_⟩
          conv => whnf
          refine ⟨_, _, ⟨l, ⟨aa, ab, sa⟩, rfl, rfl, o1, rfl, rfl⟩, ?_⟩
          conv => whnf
          generalize places l ⟨aa, ab, sa⟩ = A at *
          have hM : ∀ key y, (key, y) ∈ M.map (fun p => (p.1, D.sl 1 (p.2.getD []))) → y = .sl 1 ((idxs B key B.length).map inC) := by
            intro key y h
            obtain ⟨p, hp, he⟩ := List.mem_map.1 h
            cases he
            rw [HM.own p hp]; rfl
          have hM2 : ∀ key, (∀ p ∈ M.map (fun p => (p.1, D.sl 1 (p.2.getD []))), p.1 ≠ key) → idxs B key B.length = [] := by
            intro key h
            rcases Classical.em (idxs B key B.length = []) with h0 | h0
            · exact h0
            · obtain ⟨p, hp, e⟩ := HM.all key h0
              exact absurd e (h _ (List.mem_map_of_mem (f := fun p : Int × Option (List (List D)) => (p.1, D.sl 1 (p.2.getD []))) hp))
          generalize hN : M.map (fun p => (p.1, D.sl 1 (p.2.getD []))) = N at *
          refine ⟨[.unrows 8, .slot 11 true], [8, 11, 52, 53, 54], 6, fun n1 σ => ∃ (i : Nat), i ≤ A.length ∧ n1 = A.length - i ∧ σ = (⟨[.junk, .junk, .junk, .junk, .junk, .junk, .junk, .junk, .one (.town 2), .junk, .junk, .one (.own 5), .junk, .junk, .junk, .junk, .junk, .junk, .junk, .junk, .junk, .junk, .junk, .junk, .junk, .junk, .junk, .junk, .junk, .junk, .junk, .junk, .junk, .junk, .junk, .junk, .junk, .junk, .junk, .junk, .junk, .junk, .junk, .junk, .junk, .junk, .junk, .junk, .junk, .junk, .junk, .junk, .one (.own 4), .di .i64 A.length, .di .i64 i, .junk, .junk, .junk, .junk, .junk, .junk, .junk, .junk, .junk, .junk, .junk, .junk, .junk, .junk, .junk, .junk, .junk, .junk, .junk, .junk, .junk], [.box (List.map .d (Ref.mk aa ab sa).c), .box (List.map .d (Ref.mk ba bb sb).c), .mapd N, .row 1 (B.map inC), .row 1 (A.map inC), .row 2 ((pairsTo A B i).map prC)]⟩ : St), ?_, ?_⟩
          · refine ⟨A.length, ?_⟩
            conv => whnf
            refine ⟨fun p hp => by rw [HM.own p hp]; simp, ?_⟩
            conv => whnf
            refine ⟨0, by omega, by omega, ?_⟩
            rw [map_len, hN]; rfl
          · rintro n1 _ ⟨i, hi, rfl, rfl⟩
            conv => whnf
            ((with_reducible refine And.intro (fun (e : (_ : Bool) = true) => ?_) (fun (e : (_ : Bool) = false) => ?_)) <;> (try simp only [reduceCtorEq, ints_len, bools_len, Bool.not_false, Bool.not_true, List.length_map, decide_eq_true_eq, decide_eq_false_iff_not, Bool.not_eq_true', Bool.not_eq_false', Bool.and_eq_true, Bool.or_eq_true, Bool.and_eq_false_iff, Bool.or_eq_false_iff, beq_iff_eq, bne_iff_ne, beq_eq_false_iff_ne, bne_eq_false_iff_eq, Int.not_lt, Int.not_le, ge_iff_le, gt_iff_lt, not_or, not_and, Bool.cond_true_right, Bool.cond_true_left, Bool.cond_false_right, Bool.cond_false_left, bif_t, bif_f] at e) <;> (conv => whnf))
            · obtain ⟨x, hx⟩ := get_lt (l := A) (i := i) (by omega)
              refine And.intro ⟨by omega, by rw [map_len]; omega⟩ ?_
              conv => whnf
              refine ⟨_, And.intro (enc_get hx) ?_⟩
              conv => whnf
              have hJl := idxs_len B x B.length
              have hpl := pairsTo_len A B i
              have hpm : i * B.length ≤ 400 * 400 := Nat.mul_le_mul (by omega) hB
              refine ⟨fun y hy => ?_, fun hno => ?_⟩
              · have hy2 := hM _ _ hy
                subst hy2
                conv => whnf
                generalize hJ : idxs B x B.length = J at *
                refine ⟨[], [8, 11, 12, 52, 53, 54, 61, 62, 63], 6, fun n2 σ => ∃ (j : Nat), j ≤ J.length ∧ n2 = J.length - j ∧ σ = (⟨[.junk, .junk, .junk, .junk, .junk, .junk, .junk, .junk, .one (.town 2), .junk, .junk, .one (.own 5), .di .i64 i, .junk, .junk, .junk, .junk, .junk, .junk, .junk, .junk, .junk, .junk, .junk, .junk, .junk, .junk, .junk, .junk, .junk, .junk, .junk, .junk, .junk, .junk, .junk, .junk, .junk, .junk, .junk, .junk, .junk, .junk, .junk, .junk, .junk, .junk, .junk, .junk, .junk, .junk, .junk, .one (.own 4), .di .i64 A.length, .di .i64 i, .junk, .junk, .junk, .junk, .junk, .junk, .one (.d (.sl 1 (J.map inC))), .di .i64 J.length, .di .i64 j, .junk, .junk, .junk, .junk, .junk, .junk, .junk, .junk, .junk, .junk, .junk, .junk], [.box (List.map .d (Ref.mk aa ab sa).c), .box (List.map .d (Ref.mk ba bb sb).c), .mapd N, .row 1 (B.map inC), .row 1 (A.map inC), .row 2 ((pairsTo A B i ++ (J.take j).map fun v => ((i : Int), v)).map prC)]⟩ : St), ?_, ?_⟩
                · refine ⟨J.length, ?_⟩
                  conv => whnf
                  refine ⟨0, by omega, by omega, ?_⟩
                  rw [List.take_zero, List.map_nil, List.append_nil, map_len]; rfl
                · rintro n2 _ ⟨j, hj, rfl, rfl⟩
                  conv => whnf
                  ((with_reducible refine And.intro (fun (e : (_ : Bool) = true) => ?_) (fun (e : (_ : Bool) = false) => ?_)) <;> (try simp only [reduceCtorEq, ints_len, bools_len, Bool.not_false, Bool.not_true, List.length_map, decide_eq_true_eq, decide_eq_false_iff_not, Bool.not_eq_true', Bool.not_eq_false', Bool.and_eq_true, Bool.or_eq_true, Bool.and_eq_false_iff, Bool.or_eq_false_iff, beq_iff_eq, bne_iff_ne, beq_eq_false_iff_ne, bne_eq_false_iff_eq, Int.not_lt, Int.not_le, ge_iff_le, gt_iff_lt, not_or, not_and, Bool.cond_true_right, Bool.cond_true_left, Bool.cond_false_right, Bool.cond_false_left, bif_t, bif_f] at e) <;> (conv => whnf))
                  · obtain ⟨y, hy⟩ := get_lt (l := J) (i := j) (by omega)
                    have hstep : (pairsTo A B i ++ (J.take (j + 1)).map fun v => ((i : Int), v)).map prC = (pairsTo A B i ++ (J.take j).map fun v => ((i : Int), v)).map prC ++ [prC ((i : Int), y)] := by
                      rw [List.take_add_one, hy]
                      simp only [Option.toList_some, List.map_append, List.map_cons, List.map_nil, List.append_assoc]
                    refine ⟨_, And.intro ⟨?_, enc_get hy⟩ ?_⟩
                    · omega
                    conv => whnf
                    refine ⟨by rw [map_len, List.length_append, List.length_map, List.length_take]; simp only [List.length_cons, List.length_nil]; omega, ?_⟩
                    conv => whnf
                    (refine And.intro ?_ ?_; ((first | (with_reducible assumption) | (intro _; with_reducible assumption) | omega | (simp only [reduceCtorEq, ints_len, bools_len, Bool.not_false, Bool.not_true, List.length_map, decide_eq_true_eq, decide_eq_false_iff_not, Bool.not_eq_true', Bool.not_eq_false', Bool.and_eq_true, Bool.or_eq_true, Bool.and_eq_false_iff, Bool.or_eq_false_iff, beq_iff_eq, bne_iff_ne, beq_eq_false_iff_ne, bne_eq_false_iff_eq, Int.not_lt, Int.not_le, ge_iff_le, gt_iff_lt, not_or, not_and, Bool.cond_true_right, Bool.cond_true_left, Bool.cond_false_right, Bool.cond_false_left, bif_t, bif_f] at *; omega) | (intro hg; (try simp only [reduceCtorEq, ints_len, bools_len, Bool.not_false, Bool.not_true, List.length_map, decide_eq_true_eq, decide_eq_false_iff_not, Bool.not_eq_true', Bool.not_eq_false', Bool.and_eq_true, Bool.or_eq_true, Bool.and_eq_false_iff, Bool.or_eq_false_iff, beq_iff_eq, bne_iff_ne, beq_eq_false_iff_ne, bne_eq_false_iff_eq, Int.not_lt, Int.not_le, ge_iff_le, gt_iff_lt, not_or, not_and, Bool.cond_true_right, Bool.cond_true_left, Bool.cond_false_right, Bool.cond_false_left, bif_t, bif_f] at hg); first | (with_reducible assumption) | omega | (simp only [reduceCtorEq, ints_len, bools_len, Bool.not_false, Bool.not_true, List.length_map, decide_eq_true_eq, decide_eq_false_iff_not, Bool.not_eq_true', Bool.not_eq_false', Bool.and_eq_true, Bool.or_eq_true, Bool.and_eq_false_iff, Bool.or_eq_false_iff, beq_iff_eq, bne_iff_ne, beq_eq_false_iff_ne, bne_eq_false_iff_eq, Int.not_lt, Int.not_le, ge_iff_le, gt_iff_lt, not_or, not_and, Bool.cond_true_right, Bool.cond_true_left, Bool.cond_false_right, Bool.cond_false_left, bif_t, bif_f] at *; omega) | (refine ⟨?_, ?_⟩ <;> omega)) | (refine ⟨?_, ?_⟩ <;> omega) | (simp [*]; done) | grind)); (conv => whnf))
                    refine ⟨J.length - (j + 1), by omega, [], ?_⟩
                    conv => whnf
                    refine ⟨j + 1, by omega, rfl, ?_⟩
                    rw [hstep]; rfl
                  · have hj' : j = J.length := by omega
                    have hrow : pairsTo A B i ++ ((J.take j).map fun v => ((i : Int), v)) = pairsTo A B (i + 1) := by
                      rw [hj', List.take_length, pairsTo, getD_of hx, hJ]
                    (refine And.intro ?_ ?_; ((first | (with_reducible assumption) | (intro _; with_reducible assumption) | omega | (simp only [reduceCtorEq, ints_len, bools_len, Bool.not_false, Bool.not_true, List.length_map, decide_eq_true_eq, decide_eq_false_iff_not, Bool.not_eq_true', Bool.not_eq_false', Bool.and_eq_true, Bool.or_eq_true, Bool.and_eq_false_iff, Bool.or_eq_false_iff, beq_iff_eq, bne_iff_ne, beq_eq_false_iff_ne, bne_eq_false_iff_eq, Int.not_lt, Int.not_le, ge_iff_le, gt_iff_lt, not_or, not_and, Bool.cond_true_right, Bool.cond_true_left, Bool.cond_false_right, Bool.cond_false_left, bif_t, bif_f] at *; omega) | (intro hg; (try simp only [reduceCtorEq, ints_len, bools_len, Bool.not_false, Bool.not_true, List.length_map, decide_eq_true_eq, decide_eq_false_iff_not, Bool.not_eq_true', Bool.not_eq_false', Bool.and_eq_true, Bool.or_eq_true, Bool.and_eq_false_iff, Bool.or_eq_false_iff, beq_iff_eq, bne_iff_ne, beq_eq_false_iff_ne, bne_eq_false_iff_eq, Int.not_lt, Int.not_le, ge_iff_le, gt_iff_lt, not_or, not_and, Bool.cond_true_right, Bool.cond_true_left, Bool.cond_false_right, Bool.cond_false_left, bif_t, bif_f] at hg); first | (with_reducible assumption) | omega | (simp only [reduceCtorEq, ints_len, bools_len, Bool.not_false, Bool.not_true, List.length_map, decide_eq_true_eq, decide_eq_false_iff_not, Bool.not_eq_true', Bool.not_eq_false', Bool.and_eq_true, Bool.or_eq_true, Bool.and_eq_false_iff, Bool.or_eq_false_iff, beq_iff_eq, bne_iff_ne, beq_eq_false_iff_ne, bne_eq_false_iff_eq, Int.not_lt, Int.not_le, ge_iff_le, gt_iff_lt, not_or, not_and, Bool.cond_true_right, Bool.cond_true_left, Bool.cond_false_right, Bool.cond_false_left, bif_t, bif_f] at *; omega) | (refine ⟨?_, ?_⟩ <;> omega)) | (refine ⟨?_, ?_⟩ <;> omega) | (simp [*]; done) | grind)); (conv => whnf))
                    refine ⟨A.length - (i + 1), by omega, [], ?_⟩
                    conv => whnf
                    refine ⟨i + 1, by omega, rfl, ?_⟩
                    rw [hrow]; rfl
              · have hy2 := hM2 x hno
                conv => whnf
                generalize hJ : idxs B x B.length = J at *
                refine ⟨[.slot 61 false], [8, 11, 12, 52, 53, 54, 61, 62, 63], 6, fun n2 σ => ∃ (j : Nat), j ≤ J.length ∧ n2 = J.length - j ∧ σ = (⟨[.junk, .junk, .junk, .junk, .junk, .junk, .junk, .junk, .one (.town 2), .junk, .junk, .one (.own 5), .di .i64 i, .junk, .junk, .junk, .junk, .junk, .junk, .junk, .junk, .junk, .junk, .junk, .junk, .junk, .junk, .junk, .junk, .junk, .junk, .junk, .junk, .junk, .junk, .junk, .junk, .junk, .junk, .junk, .junk, .junk, .junk, .junk, .junk, .junk, .junk, .junk, .junk, .junk, .junk, .junk, .one (.own 4), .di .i64 A.length, .di .i64 i, .junk, .junk, .junk, .junk, .junk, .junk, .one (.d (.sl 1 (J.map inC))), .di .i64 J.length, .di .i64 j, .junk, .junk, .junk, .junk, .junk, .junk, .junk, .junk, .junk, .junk, .junk, .junk], [.box (List.map .d (Ref.mk aa ab sa).c), .box (List.map .d (Ref.mk ba bb sb).c), .mapd N, .row 1 (B.map inC), .row 1 (A.map inC), .row 2 ((pairsTo A B i ++ (J.take j).map fun v => ((i : Int), v)).map prC)]⟩ : St), ?_, ?_⟩
                · refine ⟨J.length, ?_⟩
                  conv => whnf
                  refine ⟨0, by omega, by omega, ?_⟩
                  subst hy2; rw [List.take_zero, List.map_nil (f := fun v : Int => ((i : Int), v)), List.append_nil]; rfl
                · rintro n2 _ ⟨j, hj, rfl, rfl⟩
                  conv => whnf
                  ((with_reducible refine And.intro (fun (e : (_ : Bool) = true) => ?_) (fun (e : (_ : Bool) = false) => ?_)) <;> (try simp only [reduceCtorEq, ints_len, bools_len, Bool.not_false, Bool.not_true, List.length_map, decide_eq_true_eq, decide_eq_false_iff_not, Bool.not_eq_true', Bool.not_eq_false', Bool.and_eq_true, Bool.or_eq_true, Bool.and_eq_false_iff, Bool.or_eq_false_iff, beq_iff_eq, bne_iff_ne, beq_eq_false_iff_ne, bne_eq_false_iff_eq, Int.not_lt, Int.not_le, ge_iff_le, gt_iff_lt, not_or, not_and, Bool.cond_true_right, Bool.cond_true_left, Bool.cond_false_right, Bool.cond_false_left, bif_t, bif_f] at e) <;> (conv => whnf))
                  · obtain ⟨y, hy⟩ := get_lt (l := J) (i := j) (by omega)
                    have hstep : (pairsTo A B i ++ (J.take (j + 1)).map fun v => ((i : Int), v)).map prC = (pairsTo A B i ++ (J.take j).map fun v => ((i : Int), v)).map prC ++ [prC ((i : Int), y)] := by
                      rw [List.take_add_one, hy]
                      simp only [Option.toList_some, List.map_append, List.map_cons, List.map_nil, List.append_assoc]
                    refine ⟨_, And.intro ⟨?_, enc_get hy⟩ ?_⟩
                    · omega
                    conv => whnf
                    refine ⟨by rw [map_len, List.length_append, List.length_map, List.length_take]; simp only [List.length_cons, List.length_nil]; omega, ?_⟩
                    conv => whnf
                    (refine And.intro ?_ ?_; ((first | (with_reducible assumption) | (intro _; with_reducible assumption) | omega | (simp only [reduceCtorEq, ints_len, bools_len, Bool.not_false, Bool.not_true, List.length_map, decide_eq_true_eq, decide_eq_false_iff_not, Bool.not_eq_true', Bool.not_eq_false', Bool.and_eq_true, Bool.or_eq_true, Bool.and_eq_false_iff, Bool.or_eq_false_iff, beq_iff_eq, bne_iff_ne, beq_eq_false_iff_ne, bne_eq_false_iff_eq, Int.not_lt, Int.not_le, ge_iff_le, gt_iff_lt, not_or, not_and, Bool.cond_true_right, Bool.cond_true_left, Bool.cond_false_right, Bool.cond_false_left, bif_t, bif_f] at *; omega) | (intro hg; (try simp only [reduceCtorEq, ints_len, bools_len, Bool.not_false, Bool.not_true, List.length_map, decide_eq_true_eq, decide_eq_false_iff_not, Bool.not_eq_true', Bool.not_eq_false', Bool.and_eq_true, Bool.or_eq_true, Bool.and_eq_false_iff, Bool.or_eq_false_iff, beq_iff_eq, bne_iff_ne, beq_eq_false_iff_ne, bne_eq_false_iff_eq, Int.not_lt, Int.not_le, ge_iff_le, gt_iff_lt, not_or, not_and, Bool.cond_true_right, Bool.cond_true_left, Bool.cond_false_right, Bool.cond_false_left, bif_t, bif_f] at hg); first | (with_reducible assumption) | omega | (simp only [reduceCtorEq, ints_len, bools_len, Bool.not_false, Bool.not_true, List.length_map, decide_eq_true_eq, decide_eq_false_iff_not, Bool.not_eq_true', Bool.not_eq_false', Bool.and_eq_true, Bool.or_eq_true, Bool.and_eq_false_iff, Bool.or_eq_false_iff, beq_iff_eq, bne_iff_ne, beq_eq_false_iff_ne, bne_eq_false_iff_eq, Int.not_lt, Int.not_le, ge_iff_le, gt_iff_lt, not_or, not_and, Bool.cond_true_right, Bool.cond_true_left, Bool.cond_false_right, Bool.cond_false_left, bif_t, bif_f] at *; omega) | (refine ⟨?_, ?_⟩ <;> omega)) | (refine ⟨?_, ?_⟩ <;> omega) | (simp [*]; done) | grind)); (conv => whnf))
                    refine ⟨J.length - (j + 1), by omega, [], ?_⟩
                    conv => whnf
                    refine ⟨j + 1, by omega, rfl, ?_⟩
                    rw [hstep]; rfl
                  · have hj' : j = J.length := by omega
                    have hrow : pairsTo A B i ++ ((J.take j).map fun v => ((i : Int), v)) = pairsTo A B (i + 1) := by
                      rw [hj', List.take_length, pairsTo, getD_of hx, hJ]
                    (refine And.intro ?_ ?_; ((first | (with_reducible assumption) | (intro _; with_reducible assumption) | omega | (simp only [reduceCtorEq, ints_len, bools_len, Bool.not_false, Bool.not_true, List.length_map, decide_eq_true_eq, decide_eq_false_iff_not, Bool.not_eq_true', Bool.not_eq_false', Bool.and_eq_true, Bool.or_eq_true, Bool.and_eq_false_iff, Bool.or_eq_false_iff, beq_iff_eq, bne_iff_ne, beq_eq_false_iff_ne, bne_eq_false_iff_eq, Int.not_lt, Int.not_le, ge_iff_le, gt_iff_lt, not_or, not_and, Bool.cond_true_right, Bool.cond_true_left, Bool.cond_false_right, Bool.cond_false_left, bif_t, bif_f] at *; omega) | (intro hg; (try simp only [reduceCtorEq, ints_len, bools_len, Bool.not_false, Bool.not_true, List.length_map, decide_eq_true_eq, decide_eq_false_iff_not, Bool.not_eq_true', Bool.not_eq_false', Bool.and_eq_true, Bool.or_eq_true, Bool.and_eq_false_iff, Bool.or_eq_false_iff, beq_iff_eq, bne_iff_ne, beq_eq_false_iff_ne, bne_eq_false_iff_eq, Int.not_lt, Int.not_le, ge_iff_le, gt_iff_lt, not_or, not_and, Bool.cond_true_right, Bool.cond_true_left, Bool.cond_false_right, Bool.cond_false_left, bif_t, bif_f] at hg); first | (with_reducible assumption) | omega | (simp only [reduceCtorEq, ints_len, bools_len, Bool.not_false, Bool.not_true, List.length_map, decide_eq_true_eq, decide_eq_false_iff_not, Bool.not_eq_true', Bool.not_eq_false', Bool.and_eq_true, Bool.or_eq_true, Bool.and_eq_false_iff, Bool.or_eq_false_iff, beq_iff_eq, bne_iff_ne, beq_eq_false_iff_ne, bne_eq_false_iff_eq, Int.not_lt, Int.not_le, ge_iff_le, gt_iff_lt, not_or, not_and, Bool.cond_true_right, Bool.cond_true_left, Bool.cond_false_right, Bool.cond_false_left, bif_t, bif_f] at *; omega) | (refine ⟨?_, ?_⟩ <;> omega)) | (refine ⟨?_, ?_⟩ <;> omega) | (simp [*]; done) | grind)); (conv => whnf))
                    refine ⟨A.length - (i + 1), by omega, [], ?_⟩
                    conv => whnf
                    refine ⟨i + 1, by omega, rfl, ?_⟩
                    rw [hrow]; rfl
            · have hi' : i = A.length := by omega
              subst hi'
              refine ⟨[], ?_⟩
              conv => whnf
              exact ⟨[5], by simp, .cons ⟨_, rfl, rfl, rfl⟩ .nil, .cons rfl (.cons rfl .nil)⟩
  · conv => whnf
    (repeat' (first | ((with_reducible refine And.intro (fun (e : (_ : Bool) = true) => ?_) (fun (e : (_ : Bool) = false) => ?_)) <;> (try simp only [reduceCtorEq, ints_len, bools_len, Bool.not_false, Bool.not_true, List.length_map, decide_eq_true_eq, decide_eq_false_iff_not, Bool.not_eq_true', Bool.not_eq_false', Bool.and_eq_true, Bool.or_eq_true, Bool.and_eq_false_iff, Bool.or_eq_false_iff, beq_iff_eq, bne_iff_ne, beq_eq_false_iff_ne, bne_eq_false_iff_eq, Int.not_lt, Int.not_le, ge_iff_le, gt_iff_lt, not_or, not_and, Bool.cond_true_right, Bool.cond_true_left, Bool.cond_false_right, Bool.cond_false_left, bif_t, bif_f] at e) <;> (conv => whnf)) | (refine And.intro ?_ ?_; ((first | (with_reducible assumption) | (intro _; with_reducible assumption) | omega | (simp only [reduceCtorEq, ints_len, bools_len, Bool.not_false, Bool.not_true, List.length_map, decide_eq_true_eq, decide_eq_false_iff_not, Bool.not_eq_true', Bool.not_eq_false', Bool.and_eq_true, Bool.or_eq_true, Bool.and_eq_false_iff, Bool.or_eq_false_iff, beq_iff_eq, bne_iff_ne, beq_eq_false_iff_ne, bne_eq_false_iff_eq, Int.not_lt, Int.not_le, ge_iff_le, gt_iff_lt, not_or, not_and, Bool.cond_true_right, Bool.cond_true_left, Bool.cond_false_right, Bool.cond_false_left, bif_t, bif_f] at *; omega) | (intro hg; (try simp only [reduceCtorEq, ints_len, bools_len, Bool.not_false, Bool.not_true, List.length_map, decide_eq_true_eq, decide_eq_false_iff_not, Bool.not_eq_true', Bool.not_eq_false', Bool.and_eq_true, Bool.or_eq_true, Bool.and_eq_false_iff, Bool.or_eq_false_iff, beq_iff_eq, bne_iff_ne, beq_eq_false_iff_ne, bne_eq_false_iff_eq, Int.not_lt, Int.not_le, ge_iff_le, gt_iff_lt, not_or, not_and, Bool.cond_true_right, Bool.cond_true_left, Bool.cond_false_right, Bool.cond_false_left, bif_t, bif_f] at hg); first | (with_reducible assumption) | omega | (simp only [reduceCtorEq, ints_len, bools_len, Bool.not_false, Bool.not_true, List.length_map, decide_eq_true_eq, decide_eq_false_iff_not, Bool.not_eq_true', Bool.not_eq_false', Bool.and_eq_true, Bool.or_eq_true, Bool.and_eq_false_iff, Bool.or_eq_false_iff, beq_iff_eq, bne_iff_ne, beq_eq_false_iff_ne, bne_eq_false_iff_eq, Int.not_lt, Int.not_le, ge_iff_le, gt_iff_lt, not_or, not_and, Bool.cond_true_right, Bool.cond_true_left, Bool.cond_false_right, Bool.cond_false_left, bif_t, bif_f] at *; omega) | (refine ⟨?_, ?_⟩ <;> omega)) | (refine ⟨?_, ?_⟩ <;> omega) | (simp [*]; done) | grind)); (conv => whnf))))
    have e2 := e
    refine ⟨[.slot 6 true], ?_⟩
    conv => whnf
    simp at e1
    refine ⟨[2], by simp, .cons ⟨_, rfl, rfl, ?_⟩ .nil, .cons rfl (.cons ?_ .nil)⟩
    · unfold pairs; rw [if_neg (by rintro ⟨h1, h2, h3⟩; rw [h1] at e1; cases e1)]; rfl
    · unfold pairsErr; rw [if_neg (by rintro ⟨h1, h2⟩; rw [h1] at e1; cases e1)]; rfl
end Go.Proofs.Ytahdihhhankhdaa.V

