/-
  V: slices.DeleteFunc. By the session's own hand.
-/
import Derived.Test.YtahdihhhankhdaaVk
set_option linter.unusedVariables false
set_option linter.unusedSimpArgs false
set_option maxRecDepth 100000
set_option linter.all false
set_option linter.unnecessarySimpa false
set_option linter.deprecated false
namespace Go.Proofs.Ytahdihhhankhdaa.V
open Go.Proofs.YtahdihhhankhdaaVY Go.RowKit
theorem loseCaps_id {h : Nat} {caps : List Cap} : ∀ {k : List Cap → Prop}, caps.all capFree = true → k caps → loseCaps h caps k := by
  induction caps with
  | nil => intro k _ hk; exact hk
  | cons c cs ih =>
    intro k h1 hk
    simp only [List.all_cons, Bool.and_eq_true] at h1
    obtain ⟨h1, h2⟩ := h1
    cases c <;> first | exact ih h2 hk | (cases h1; done)
theorem filter_take {α : Type} {p : α → Bool} {l : List α} {j : Nat} {x : α} (h : l[j]? = some x) : (l.take (j + 1)).filter p = (l.take j).filter p ++ if p x then [x] else [] := by
  rw [List.take_add_one, h, Option.toList_some, List.filter_append]
  congr 1
  simp only [List.filter_cons, List.filter_nil]
theorem idx_first {α : Type} {p : α → Bool} : ∀ {l : List α} {i : Nat}, idx p l = i → i < l.length ∧ (l.take (i + 1)).filter (fun x => !p x) = l.take i
  | [], i, h => by simp [idx] at h
  | x :: l, i, h => by
    unfold idx at h
    by_cases hx : p x = true
    · rw [if_pos hx] at h
      obtain rfl : i = 0 := by omega
      simp [hx]
    · have hx' : p x = false := by simpa using hx
      rw [if_neg (by simp [hx'])] at h
      rcases idx_nn p l with h1 | h1
      · rw [h1] at h; simp at h
      · rw [if_neg (by omega)] at h
        obtain ⟨k, rfl⟩ : ∃ k, i = k + 1 := ⟨i - 1, by omega⟩
        obtain ⟨h2, h3⟩ := idx_first (p := p) (l := l) (i := k) (by omega)
        refine ⟨by simp; omega, ?_⟩
        rw [List.take_succ_cons, List.filter_cons, hx', List.take_succ_cons, h3]; rfl
theorem idx_no {α : Type} {p : α → Bool} : ∀ {l : List α}, idx p l = -1 → l.filter (fun x => !p x) = l
  | [], _ => rfl
  | x :: l, h => by
    unfold idx at h
    by_cases hx : p x = true
    · rw [if_pos hx] at h; omega
    · have hx' : p x = false := by simpa using hx
      rw [if_neg (by simp [hx'])] at h
      rcases idx_nn p l with h1 | h1
      · rw [List.filter_cons, hx', idx_no h1]; rfl
      · rw [if_neg (by omega)] at h; omega
def R144 (Rf : Ct) : Ct := fun ss hp r out => ∃ (l : List (Int × Int)) (caps : List Cap) (p : Int × Int → Bool) (v : Value), ss = [.one (.own 0), .one (.fn 145 caps)] ∧ hp = [.row 2 (l.map prC), .mem v (.own 0)] ∧ l.length < 4611686018427387904 ∧ caps.all capFree = true ∧ (∀ x ∈ l, Rf (.v (.ag ((prC x).map .d)) :: caps.map fun c => .one c.toC) [] (.db (p x)) []) ∧ r = .one (.own 0) ∧ out = [.row 2 ((l.filter fun x => !p x).map prC), .mem v .junk]
set_option maxHeartbeats 4000000 in
theorem ok144 (Rf : Ct) (hf : VSound Try.prog (145, Rf)) : VSound Try.prog (144, R144 Rf) := by
  refine vsound (T := ty) (F := [(142, R142 145 Rf), (145, Rf)]) (pl := []) (nw := true) (cuts := [11]) mix tyOk (.cons (ok142 145 Rf hf) (.cons (hf) .nil)) Try.func144 (by kernel_rfl) (by kernel_rfl) ?_
  rintro _ _ _ _ ⟨l, caps, p, v, rfl, rfl, hl, hc, hp, rfl, rfl⟩
  conv => whnf
  refine ⟨[], false, false, ?_⟩
  conv => whnf
  refine lendCaps_id hc ?_
  conv => whnf
  refine ⟨_, _, ⟨l, caps, p, rfl, rfl, hl, hc, hp, rfl, rfl⟩, ?_⟩
  conv => whnf
  ((with_reducible refine And.intro (fun (e : (_ : Bool) = true) => ?_) (fun (e : (_ : Bool) = false) => ?_)) <;> (try simp only [reduceCtorEq, ints_len, bools_len, Bool.not_false, Bool.not_true, List.length_map, decide_eq_true_eq, decide_eq_false_iff_not, Bool.not_eq_true', Bool.not_eq_false', Bool.and_eq_true, Bool.or_eq_true, Bool.and_eq_false_iff, Bool.or_eq_false_iff, beq_iff_eq, bne_iff_ne, beq_eq_false_iff_ne, bne_eq_false_iff_eq, Int.not_lt, Int.not_le, ge_iff_le, gt_iff_lt, not_or, not_and, Bool.cond_true_right, Bool.cond_true_left, Bool.cond_false_right, Bool.cond_false_left, bif_t, bif_f] at e) <;> (conv => whnf))
  · have e1 := e
    refine ⟨[], ?_⟩
    conv => whnf
    refine ⟨[0, 1], by simp, .cons ⟨_, rfl, rfl, ?_⟩ (.cons ⟨_, rfl, rfl, trivial⟩ .nil), rfl⟩
    rw [idx_no e1]
  · have e1 := e
    obtain ⟨i0, hi0⟩ : ∃ i : Nat, idx p l = i := by
      rcases idx_nn p l with h | h
      · exact absurd h e1
      · exact ⟨_, (Int.toNat_of_nonneg h).symm⟩
    obtain ⟨hlt, hf0⟩ := idx_first hi0
    rw [hi0]
    refine ⟨[], [0, 5], 2, fun σ => ∃ (g : Nat) (Q G : List (Int × Int)), Q.length = l.length ∧ (l.filter fun x => !p x) = G ∧ G.length = g ∧ g < l.length ∧ Q.take g = G ∧ σ = (⟨[.one (.own 0), .junk, .junk, .junk, .junk, .di .i64 g, .junk, .junk, .junk, .junk, .junk, .junk, .junk, .junk, .junk, .junk, .junk, .junk, .junk, .junk, .junk, .junk, .junk, .junk, .junk, .junk, .junk, .junk, .junk, .junk, .junk, .junk, .junk, .junk, .junk, .junk, .junk, .junk, .junk, .junk, .junk, .junk], [.row 2 (Q.map prC), .mem v (.own 0)]⟩ : St), ?_, ?_⟩
    · conv => whnf
      (refine And.intro ?_ ?_; ((first | (with_reducible assumption) | (intro _; with_reducible assumption) | omega | (simp only [reduceCtorEq, ints_len, bools_len, Bool.not_false, Bool.not_true, List.length_map, decide_eq_true_eq, decide_eq_false_iff_not, Bool.not_eq_true', Bool.not_eq_false', Bool.and_eq_true, Bool.or_eq_true, Bool.and_eq_false_iff, Bool.or_eq_false_iff, beq_iff_eq, bne_iff_ne, beq_eq_false_iff_ne, bne_eq_false_iff_eq, Int.not_lt, Int.not_le, ge_iff_le, gt_iff_lt, not_or, not_and, Bool.cond_true_right, Bool.cond_true_left, Bool.cond_false_right, Bool.cond_false_left, bif_t, bif_f] at *; omega) | (intro hg; (try simp only [reduceCtorEq, ints_len, bools_len, Bool.not_false, Bool.not_true, List.length_map, decide_eq_true_eq, decide_eq_false_iff_not, Bool.not_eq_true', Bool.not_eq_false', Bool.and_eq_true, Bool.or_eq_true, Bool.and_eq_false_iff, Bool.or_eq_false_iff, beq_iff_eq, bne_iff_ne, beq_eq_false_iff_ne, bne_eq_false_iff_eq, Int.not_lt, Int.not_le, ge_iff_le, gt_iff_lt, not_or, not_and, Bool.cond_true_right, Bool.cond_true_left, Bool.cond_false_right, Bool.cond_false_left, bif_t, bif_f] at hg); first | (with_reducible assumption) | omega | (simp only [reduceCtorEq, ints_len, bools_len, Bool.not_false, Bool.not_true, List.length_map, decide_eq_true_eq, decide_eq_false_iff_not, Bool.not_eq_true', Bool.not_eq_false', Bool.and_eq_true, Bool.or_eq_true, Bool.and_eq_false_iff, Bool.or_eq_false_iff, beq_iff_eq, bne_iff_ne, beq_eq_false_iff_ne, bne_eq_false_iff_eq, Int.not_lt, Int.not_le, ge_iff_le, gt_iff_lt, not_or, not_and, Bool.cond_true_right, Bool.cond_true_left, Bool.cond_false_right, Bool.cond_false_left, bif_t, bif_f] at *; omega) | (refine ⟨?_, ?_⟩ <;> omega)) | (refine ⟨?_, ?_⟩ <;> omega) | (simp [*]; done) | grind)); (conv => whnf))
      refine ⟨[], [0, 1, 5, 6], 2, fun n1 σ => ∃ (j g : Nat) (Q G : List (Int × Int)), j ≤ l.length ∧ n1 = l.length - j ∧ Q.length = l.length ∧ ((l.take j).filter fun x => !p x) = G ∧ G.length = g ∧ g < j ∧ Q.take g = G ∧ Q.drop j = l.drop j ∧ σ = (⟨[.one (.own 0), .one (.fn 145 caps), .junk, .junk, .junk, .di .i64 g, .di .i64 j, .junk, .junk, .junk, .junk, .junk, .junk, .junk, .junk, .junk, .junk, .junk, .junk, .junk, .junk, .junk, .junk, .junk, .junk, .junk, .junk, .junk, .junk, .junk, .junk, .junk, .junk, .junk, .junk, .junk, .junk, .junk, .junk, .junk, .junk, .junk], [.row 2 (Q.map prC), .mem v (.own 0)]⟩ : St), ?_, ?_⟩
      · refine ⟨l.length - (i0 + 1), ?_⟩
        conv => whnf
        rw [under_fn hc]
        conv => whnf
        have hq : (l.take i0).length = i0 := by rw [List.length_take]; omega
        exact ⟨i0 + 1, i0, l, l.take i0, by omega, rfl, rfl, hf0, hq, by omega, rfl, rfl, rfl⟩
      · rintro n1 _ ⟨j, g, Q, G, hj, rfl, hR, hG, hg, hF, hT, hD, rfl⟩
        conv => whnf
        ((with_reducible refine And.intro (fun (e : (_ : Bool) = true) => ?_) (fun (e : (_ : Bool) = false) => ?_)) <;> (try simp only [reduceCtorEq, ints_len, bools_len, Bool.not_false, Bool.not_true, List.length_map, decide_eq_true_eq, decide_eq_false_iff_not, Bool.not_eq_true', Bool.not_eq_false', Bool.and_eq_true, Bool.or_eq_true, Bool.and_eq_false_iff, Bool.or_eq_false_iff, beq_iff_eq, bne_iff_ne, beq_eq_false_iff_ne, bne_eq_false_iff_eq, Int.not_lt, Int.not_le, ge_iff_le, gt_iff_lt, not_or, not_and, Bool.cond_true_right, Bool.cond_true_left, Bool.cond_false_right, Bool.cond_false_left, bif_t, bif_f] at e) <;> (conv => whnf))
        · obtain ⟨x, hx⟩ := get_lt (l := l) (i := j) (by omega)
          have hQj : Q[j]? = some x := by
            have : (Q.drop j)[0]? = (l.drop j)[0]? := by rw [hD]
            rw [List.getElem?_drop, List.getElem?_drop, Nat.add_zero, hx] at this
            exact this
          have hft := filter_take (p := fun x => !p x) hx
          have hD1 : Q.drop (j + 1) = l.drop (j + 1) := by rw [← List.drop_drop, hD, List.drop_drop]
          rw [hG] at hft
          refine And.intro ⟨by omega, by rw [map_len]; omega⟩ ?_
          conv => whnf
          refine ⟨_, And.intro (enc_get hQj) ?_⟩
          have hpx := hp x (List.mem_of_getElem? hx)
          obtain ⟨xa, xb⟩ := x
          conv => whnf
          refine ⟨[], false, false, ?_⟩
          conv => whnf
          refine lendCaps_id hc ?_
          conv => whnf
          refine ⟨_, _, hpx, ?_⟩
          conv => whnf
          ((with_reducible refine And.intro (fun (e : (_ : Bool) = true) => ?_) (fun (e : (_ : Bool) = false) => ?_)) <;> (try simp only [reduceCtorEq, ints_len, bools_len, Bool.not_false, Bool.not_true, List.length_map, decide_eq_true_eq, decide_eq_false_iff_not, Bool.not_eq_true', Bool.not_eq_false', Bool.and_eq_true, Bool.or_eq_true, Bool.and_eq_false_iff, Bool.or_eq_false_iff, beq_iff_eq, bne_iff_ne, beq_eq_false_iff_ne, bne_eq_false_iff_eq, Int.not_lt, Int.not_le, ge_iff_le, gt_iff_lt, not_or, not_and, Bool.cond_true_right, Bool.cond_true_left, Bool.cond_false_right, Bool.cond_false_left, bif_t, bif_f] at e) <;> (conv => whnf))
          · have hp0 := e
            rw [hp0] at hft
            obtain ⟨y, hy⟩ := get_lt (l := Q) (i := g) (by omega)
            refine And.intro ⟨by omega, by rw [map_len]; omega⟩ ?_
            show St.apply _ _ _ _ _ _ _
            unfold St.apply
            simp only [updsK, appK, putD, setK]
            unfold vcOps
            simp only [isLook, winAt]
            unfold actStep evM
            simp only [operand, nthK, strip]
            conv => whnf
            refine ⟨_, And.intro (enc_get hy) ?_⟩
            obtain ⟨ya, yb⟩ := y
            conv => whnf
            (refine And.intro ?_ ?_; ((first | (with_reducible assumption) | (intro _; with_reducible assumption) | omega | (simp only [reduceCtorEq, ints_len, bools_len, Bool.not_false, Bool.not_true, List.length_map, decide_eq_true_eq, decide_eq_false_iff_not, Bool.not_eq_true', Bool.not_eq_false', Bool.and_eq_true, Bool.or_eq_true, Bool.and_eq_false_iff, Bool.or_eq_false_iff, beq_iff_eq, bne_iff_ne, beq_eq_false_iff_ne, bne_eq_false_iff_eq, Int.not_lt, Int.not_le, ge_iff_le, gt_iff_lt, not_or, not_and, Bool.cond_true_right, Bool.cond_true_left, Bool.cond_false_right, Bool.cond_false_left, bif_t, bif_f] at *; omega) | (intro hg; (try simp only [reduceCtorEq, ints_len, bools_len, Bool.not_false, Bool.not_true, List.length_map, decide_eq_true_eq, decide_eq_false_iff_not, Bool.not_eq_true', Bool.not_eq_false', Bool.and_eq_true, Bool.or_eq_true, Bool.and_eq_false_iff, Bool.or_eq_false_iff, beq_iff_eq, bne_iff_ne, beq_eq_false_iff_ne, bne_eq_false_iff_eq, Int.not_lt, Int.not_le, ge_iff_le, gt_iff_lt, not_or, not_and, Bool.cond_true_right, Bool.cond_true_left, Bool.cond_false_right, Bool.cond_false_left, bif_t, bif_f] at hg); first | (with_reducible assumption) | omega | (simp only [reduceCtorEq, ints_len, bools_len, Bool.not_false, Bool.not_true, List.length_map, decide_eq_true_eq, decide_eq_false_iff_not, Bool.not_eq_true', Bool.not_eq_false', Bool.and_eq_true, Bool.or_eq_true, Bool.and_eq_false_iff, Bool.or_eq_false_iff, beq_iff_eq, bne_iff_ne, beq_eq_false_iff_ne, bne_eq_false_iff_eq, Int.not_lt, Int.not_le, ge_iff_le, gt_iff_lt, not_or, not_and, Bool.cond_true_right, Bool.cond_true_left, Bool.cond_false_right, Bool.cond_false_left, bif_t, bif_f] at *; omega) | (refine ⟨?_, ?_⟩ <;> omega)) | (refine ⟨?_, ?_⟩ <;> omega) | (simp [*]; done) | grind)); (conv => whnf))
            (refine And.intro ?_ ?_; ((first | (with_reducible assumption) | (intro _; with_reducible assumption) | omega | (simp only [reduceCtorEq, ints_len, bools_len, Bool.not_false, Bool.not_true, List.length_map, decide_eq_true_eq, decide_eq_false_iff_not, Bool.not_eq_true', Bool.not_eq_false', Bool.and_eq_true, Bool.or_eq_true, Bool.and_eq_false_iff, Bool.or_eq_false_iff, beq_iff_eq, bne_iff_ne, beq_eq_false_iff_ne, bne_eq_false_iff_eq, Int.not_lt, Int.not_le, ge_iff_le, gt_iff_lt, not_or, not_and, Bool.cond_true_right, Bool.cond_true_left, Bool.cond_false_right, Bool.cond_false_left, bif_t, bif_f] at *; omega) | (intro hg; (try simp only [reduceCtorEq, ints_len, bools_len, Bool.not_false, Bool.not_true, List.length_map, decide_eq_true_eq, decide_eq_false_iff_not, Bool.not_eq_true', Bool.not_eq_false', Bool.and_eq_true, Bool.or_eq_true, Bool.and_eq_false_iff, Bool.or_eq_false_iff, beq_iff_eq, bne_iff_ne, beq_eq_false_iff_ne, bne_eq_false_iff_eq, Int.not_lt, Int.not_le, ge_iff_le, gt_iff_lt, not_or, not_and, Bool.cond_true_right, Bool.cond_true_left, Bool.cond_false_right, Bool.cond_false_left, bif_t, bif_f] at hg); first | (with_reducible assumption) | omega | (simp only [reduceCtorEq, ints_len, bools_len, Bool.not_false, Bool.not_true, List.length_map, decide_eq_true_eq, decide_eq_false_iff_not, Bool.not_eq_true', Bool.not_eq_false', Bool.and_eq_true, Bool.or_eq_true, Bool.and_eq_false_iff, Bool.or_eq_false_iff, beq_iff_eq, bne_iff_ne, beq_eq_false_iff_ne, bne_eq_false_iff_eq, Int.not_lt, Int.not_le, ge_iff_le, gt_iff_lt, not_or, not_and, Bool.cond_true_right, Bool.cond_true_left, Bool.cond_false_right, Bool.cond_false_left, bif_t, bif_f] at *; omega) | (refine ⟨?_, ?_⟩ <;> omega)) | (refine ⟨?_, ?_⟩ <;> omega) | (simp [*]; done) | grind)); (conv => whnf))
            refine ⟨l.length - (j + 1), by omega, [], ?_⟩
            conv => whnf
            rw [under_fn hc]
            conv => whnf
            refine ⟨j + 1, g + 1, Q.set g (xa, xb), G ++ [(xa, xb)], by omega, rfl, by rw [List.length_set]; exact hR, hft, by simp; omega, by omega, ?_, ?_, ?_⟩
            · rw [List.take_add_one, List.take_set_of_le (Nat.le_refl _), hT, List.getElem?_set_self (by omega)]; rfl
            · rw [List.drop_set_of_lt (by omega)]; exact hD1
            · rw [List.map_set]; rfl
          · have hp0 := e
            rw [hp0] at hft
            (refine And.intro ?_ ?_; ((first | (with_reducible assumption) | (intro _; with_reducible assumption) | omega | (simp only [reduceCtorEq, ints_len, bools_len, Bool.not_false, Bool.not_true, List.length_map, decide_eq_true_eq, decide_eq_false_iff_not, Bool.not_eq_true', Bool.not_eq_false', Bool.and_eq_true, Bool.or_eq_true, Bool.and_eq_false_iff, Bool.or_eq_false_iff, beq_iff_eq, bne_iff_ne, beq_eq_false_iff_ne, bne_eq_false_iff_eq, Int.not_lt, Int.not_le, ge_iff_le, gt_iff_lt, not_or, not_and, Bool.cond_true_right, Bool.cond_true_left, Bool.cond_false_right, Bool.cond_false_left, bif_t, bif_f] at *; omega) | (intro hg; (try simp only [reduceCtorEq, ints_len, bools_len, Bool.not_false, Bool.not_true, List.length_map, decide_eq_true_eq, decide_eq_false_iff_not, Bool.not_eq_true', Bool.not_eq_false', Bool.and_eq_true, Bool.or_eq_true, Bool.and_eq_false_iff, Bool.or_eq_false_iff, beq_iff_eq, bne_iff_ne, beq_eq_false_iff_ne, bne_eq_false_iff_eq, Int.not_lt, Int.not_le, ge_iff_le, gt_iff_lt, not_or, not_and, Bool.cond_true_right, Bool.cond_true_left, Bool.cond_false_right, Bool.cond_false_left, bif_t, bif_f] at hg); first | (with_reducible assumption) | omega | (simp only [reduceCtorEq, ints_len, bools_len, Bool.not_false, Bool.not_true, List.length_map, decide_eq_true_eq, decide_eq_false_iff_not, Bool.not_eq_true', Bool.not_eq_false', Bool.and_eq_true, Bool.or_eq_true, Bool.and_eq_false_iff, Bool.or_eq_false_iff, beq_iff_eq, bne_iff_ne, beq_eq_false_iff_ne, bne_eq_false_iff_eq, Int.not_lt, Int.not_le, ge_iff_le, gt_iff_lt, not_or, not_and, Bool.cond_true_right, Bool.cond_true_left, Bool.cond_false_right, Bool.cond_false_left, bif_t, bif_f] at *; omega) | (refine ⟨?_, ?_⟩ <;> omega)) | (refine ⟨?_, ?_⟩ <;> omega) | (simp [*]; done) | grind)); (conv => whnf))
            refine ⟨l.length - (j + 1), by omega, [], ?_⟩
            conv => whnf
            rw [under_fn hc]
            conv => whnf
            refine ⟨j + 1, g, Q, G, by omega, rfl, hR, ?_, hg, by omega, hT, hD1, rfl⟩
            rw [hft]; simp
        · have hj' : j = l.length := by omega
          subst hj'
          rw [List.take_length] at hG
          exact ⟨g, Q, G, hR, hG, hg, hF, hT, rfl⟩
    · rintro _ ⟨g, Q, G, hR, hG, hg, hF, hT, rfl⟩
      rw [hG]
      conv => whnf
      have hcut : ∀ X : List (List D), ((Q.map prC).take g ++ X).take g = G.map prC := by
        intro X
        rw [List.take_left' (by rw [List.length_take, map_len]; omega), ← List.map_take, hT]
      refine ⟨⟨by omega, by rw [map_len]; omega, by omega⟩, ?_⟩
      conv => whnf
      refine ⟨⟨by omega, by omega, ?_⟩, ?_⟩
      · simp only [List.length_append, List.length_take, map_len]; omega
      conv => whnf
      refine ⟨[.trim 4], ?_⟩
      conv => whnf
      refine ⟨[0, 1], by simp, .cons ⟨_, rfl, rfl, ?_⟩ (.cons ⟨_, rfl, rfl, trivial⟩ .nil), rfl⟩
      rw [Int.toNat_natCast, Int.toNat_zero, Nat.sub_zero, List.drop_zero, List.append_assoc]
      exact hcut _
end Go.Proofs.Ytahdihhhankhdaa.V

