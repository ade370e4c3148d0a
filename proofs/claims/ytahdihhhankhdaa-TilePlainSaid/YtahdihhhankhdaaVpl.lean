/-
  V: the plain law of chapter 20: walks are sorted. By the session's own hand.
-/
import Derived.Test.YtahdihhhankhdaaVpb
set_option linter.unusedVariables false
set_option linter.unusedSimpArgs false
set_option maxRecDepth 100000
set_option linter.all false
set_option linter.unnecessarySimpa false
set_option linter.deprecated false
namespace Go.Proofs.Ytahdihhhankhdaa.V
open Go.Proofs.YtahdihhhankhdaaVY Go.RowKit
theorem ahd_trans : ∀ {a b c : List Int}, ahd a b = true → ahd b c = true → ahd a c = true
  | x :: a, y :: b, w :: c, h1, h2 => by
    rw [ahd, Bool.or_eq_true, Bool.and_eq_true, decide_eq_true_eq, decide_eq_true_eq] at h1 h2 ⊢
    rcases h1 with h1 | ⟨rfl, h1⟩
    · rcases h2 with h2 | ⟨rfl, h2⟩
      · exact .inl (ahd_trans h1 h2)
      · exact .inl h1
    · rcases h2 with h2 | ⟨rfl, h2⟩
      · exact .inl h2
      · exact .inr ⟨rfl, by omega⟩
  | x :: a, y :: b, [], h1, h2 => by simp [ahd] at h2
  | x :: a, [], c, h1, h2 => by simp [ahd] at h1
  | [], b, c, h1, h2 => by simp [ahd] at h1
theorem ahd_total : ∀ {a b : List Int}, a.length = b.length → ahd a b = true ∨ a = b ∨ ahd b a = true
  | [], [], _ => .inr (.inl rfl)
  | x :: a, y :: b, h => by
    have h1 : a.length = b.length := by simpa using h
    rw [ahd, ahd, Bool.or_eq_true, Bool.or_eq_true, Bool.and_eq_true, Bool.and_eq_true, decide_eq_true_eq, decide_eq_true_eq, decide_eq_true_eq, decide_eq_true_eq]
    rcases ahd_total h1 with h | rfl | h
    · exact .inl (.inl h)
    · rcases Int.lt_trichotomy x y with h | rfl | h
      · exact .inl (.inr ⟨rfl, h⟩)
      · exact .inr (.inl rfl)
      · exact .inr (.inr (.inr ⟨rfl, h⟩))
    · exact .inr (.inr (.inl h))
theorem ahd_right {b b' : List Int} (h : ahd b b' = true) : ∀ {a a' : List Int}, a.length = a'.length → ahd (a ++ b) (a' ++ b') = true
  | [], [], _ => h
  | x :: a, y :: a', hl => by
    rw [List.cons_append, List.cons_append, ahd, ahd_right h (by simpa using hl)]; rfl
theorem ahd_left {q : List Int} : ∀ {a a' : List Int}, ahd a a' = true → ahd (a ++ q) (a' ++ q) = true
  | x :: a, y :: a', h => by
    rw [ahd, Bool.or_eq_true, Bool.and_eq_true, decide_eq_true_eq, decide_eq_true_eq] at h
    rw [List.cons_append, List.cons_append, ahd, Bool.or_eq_true, Bool.and_eq_true, decide_eq_true_eq, decide_eq_true_eq]
    rcases h with h | ⟨rfl, h⟩
    · exact .inl (ahd_left h)
    · exact .inr ⟨rfl, h⟩
  | [], _, h => by simp [ahd] at h
  | _ :: _, [], h => by simp [ahd] at h
theorem ahd_shift {g g' h : Int → Int} : ∀ {l : List Int}, ahd (l.map g) (l.map g') = true → ahd (l.map fun d => g d - h d) (l.map fun d => g' d - h d) = true
  | [], h1 => by simp [ahd] at h1
  | d :: l, h1 => by
    rw [List.map_cons, List.map_cons, ahd, Bool.or_eq_true, Bool.and_eq_true, decide_eq_true_eq, decide_eq_true_eq] at h1 ⊢
    rcases h1 with h1 | ⟨h1, h2⟩
    · exact .inl (ahd_shift h1)
    · refine .inr ⟨List.map_congr_left fun a ha => ?_, by omega⟩
      have := List.map_inj_left.1 h1 a ha
      omega
def vals (ds s : List Int) : List Int := ds.map fun d => s.getD d.toNat 0
theorem left_nn {f t s : List Int} (h : InBox f t s) : ∀ {ds : List Int}, (∀ d ∈ ds, 0 ≤ d ∧ d < s.length) → 0 ≤ leftF f t ds s
  | [], _ => Int.le_refl _
  | d :: ds, hb => by
    have i1 := left_nn h (ds := ds) fun a ha => hb a (List.mem_cons_of_mem _ ha)
    have hd := hb d (List.mem_cons_self ..)
    obtain ⟨q, rfl⟩ := Int.eq_ofNat_of_zero_le hd.1
    have lo := h.lo q
    have hi := h.hi q (by omega)
    rw [leftF, Int.toNat_natCast]
    have := Int.mul_nonneg (show 0 ≤ t.getD q 0 - f.getD q 0 by omega) i1
    omega
theorem left_vals {f t a b : List Int} (ha : InBox f t a) (hb : InBox f t b) : ∀ {ds : List Int}, (∀ d ∈ ds, 0 ≤ d ∧ d < a.length) →
    (leftF f t ds b < leftF f t ds a → ahd (vals ds a) (vals ds b) = true) ∧ (leftF f t ds a = leftF f t ds b → vals ds a = vals ds b)
  | [], _ => ⟨fun h => absurd h (Int.lt_irrefl _), fun _ => rfl⟩
  | d :: ds, hd0 => by
    have hab : a.length = b.length := by have := ha.lf; have := hb.lf; omega
    have hd := hd0 d (List.mem_cons_self ..)
    have hds : ∀ d ∈ ds, 0 ≤ d ∧ d < a.length := fun x hx => hd0 x (List.mem_cons_of_mem _ hx)
    obtain ⟨i1, i2⟩ := left_vals ha hb hds
    obtain ⟨i3, i4⟩ := left_vals hb ha (ds := ds) (by rw [← hab]; exact hds)
    obtain ⟨q, rfl⟩ := Int.eq_ofNat_of_zero_le hd.1
    have a1 := ha.lo q
    have a2 := ha.hi q (by omega)
    have b1 := hb.lo q
    have b2 := hb.hi q (by omega)
    have hna := left_nn ha hds
    have hnb := left_nn hb (ds := ds) (by rw [← hab]; exact hds)
    simp only [leftF, vals, List.map_cons, Int.toNat_natCast] at *
    rw [ahd, Bool.or_eq_true, Bool.and_eq_true, decide_eq_true_eq, decide_eq_true_eq]
    generalize leftF f t ds a = A at *
    generalize leftF f t ds b = B at *
    generalize hm : t.getD q 0 - f.getD q 0 = m at *
    rcases Int.lt_trichotomy A B with h | h | h
    · have : m * (A + 1) ≤ m * B := Int.mul_le_mul_of_nonneg_left (by omega) (by omega)
      rw [Int.mul_add, Int.mul_one] at this
      exact ⟨fun h1 => by omega, fun h1 => by omega⟩
    · subst h
      have hv := i2 rfl
      refine ⟨fun h1 => .inr ⟨hv, by omega⟩, fun h1 => ?_⟩
      rw [hv, show a.getD q 0 = b.getD q 0 by omega]
    · have : m * (B + 1) ≤ m * A := Int.mul_le_mul_of_nonneg_left (by omega) (by omega)
      rw [Int.mul_add, Int.mul_one] at this
      exact ⟨fun h1 => .inl (i1 h), fun h1 => by omega⟩
/-- what a walk meets -/
theorem walkS_spec {f t ds : List Int} (hn : ds.Nodup) : ∀ (n : Nat) {s : List Int}, InBox f t s → (∀ d ∈ ds, 0 ≤ d ∧ d < s.length) → (leftF f t ds s).toNat = n →
    (∀ x ∈ walkS f t ds n s, InBox f t x ∧ x.length = s.length ∧ leftF f t ds x ≤ leftF f t ds s) ∧ (walkS f t ds n s).Pairwise (fun a b => leftF f t ds b < leftF f t ds a) ∧
    ∀ v, 0 ≤ v → v ≤ leftF f t ds s → ∃ x ∈ walkS f t ds n s, leftF f t ds x = v
  | 0, s, h, hb, hl => by
    have := left_nn h hb
    refine ⟨fun x hx => ?_, List.pairwise_singleton .., fun v h0 h1 => ⟨s, List.mem_singleton.2 rfl, by omega⟩⟩
    rw [List.mem_singleton.1 hx]
    exact ⟨h, rfl, Int.le_refl _⟩
  | n + 1, s, h, hb, hl => by
    obtain ⟨h1, h2, h3, h4⟩ := left_next h hn hb
    cases e : (nextF f t ds s).1 with
    | false => have := h4 e; omega
    | true =>
      obtain ⟨m1, m2⟩ := h3 e
      have hlen : (nextF f t ds s).2.length = s.length := by have := h1.lf; have := h.lf; omega
      obtain ⟨g1, g2, g3⟩ := walkS_spec hn n h1 (by rw [hlen]; exact hb) (by omega)
      rw [walkS, if_pos e]
      refine ⟨fun x hx => ?_, List.pairwise_cons.2 ⟨fun x hx => ?_, g2⟩, fun v v0 v1 => ?_⟩
      · rcases List.mem_cons.1 hx with rfl | hx
        · exact ⟨h, rfl, Int.le_refl _⟩
        · obtain ⟨k1, k2, k3⟩ := g1 x hx
          exact ⟨k1, by omega, by omega⟩
      · have := (g1 x hx).2.2; omega
      · by_cases hv : v = leftF f t ds s
        · exact ⟨s, List.mem_cons_self .., hv.symm⟩
        · obtain ⟨x, hx, hx2⟩ := g3 v v0 (by omega)
          exact ⟨x, List.mem_cons_of_mem _ hx, hx2⟩
end Go.Proofs.Ytahdihhhankhdaa.V

