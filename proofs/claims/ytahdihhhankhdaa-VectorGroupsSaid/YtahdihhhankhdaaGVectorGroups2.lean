/-
  V: contracts of functions, texts of the session's own hand, in one file.
-/
import Derived.Test.YtahdihhhankhdaaGVectorGroups1
import Derived.Test.YtahdihhhankhdaaRows
import Derived.Below
import Derived.RowKit
set_option linter.unusedVariables false
set_option linter.unusedSimpArgs false
set_option maxRecDepth 100000
set_option linter.all false
set_option linter.unnecessarySimpa false
set_option linter.deprecated false
-- Vgr
namespace Go.Proofs.Ytahdihhhankhdaa.V
open Go.Proofs.YtahdihhhankhdaaVY Go.RowKit
/-- the groups of so many iterations: those that are full, and the last one -/
def grpN (k : Int) : Nat → List (List Int) × List Int
  | 0 => ([], [])
  | i + 1 => if (i : Int).tmod k = 0 then (if i = 0 then ([], [0]) else ((grpN k i).1 ++ [(grpN k i).2], [(i : Int)])) else ((grpN k i).1, (grpN k i).2 ++ [(i : Int)])
def groups (k : Int) (n : Nat) : List (List Int) := if n = 0 then [] else (grpN k n).1 ++ [(grpN k n).2]
abbrev rowC (l : List Int) : List D := [.sl 1 (l.map inC)]
theorem grpN_len (k : Int) : ∀ i, (grpN k i).1.length ≤ i ∧ (grpN k i).2.length ≤ i ∧ (1 ≤ i → (grpN k i).1.length + 1 ≤ i)
  | 0 => by simp [grpN]
  | i + 1 => by
    have ih := grpN_len k i
    rw [grpN]
    split
    · split
      · rename_i h; subst h; simp
      · simp only [List.length_append, List.length_cons, List.length_nil]; omega
    · simp only [List.length_append, List.length_cons, List.length_nil]
      rename_i h
      cases i with
      | zero => exact absurd (by simp) h
      | succ i => omega
def grpOk (l : List Int) (k : Int) : Bool := decide (0 ≤ many l) && decide (1 ≤ k ∧ k ≤ 64)
def grpOf (l : List Int) (k : Int) : List (List Int) := if grpOk l k = true then groups k (many l).toNat else []
def grpErr (l : List Int) (k : Int) : Int := if grpOk l k = true then 0 else 2
def R23 : Ct := fun ss hp r out => ∃ (l : List Int) (k : Int), ss = [.one (.d (.sl 1 (l.map inC))), .di .i64 k] ∧ hp = [] ∧ l.length < 4611686018427387904 ∧ r = .tup [.c (.own 0), .c (.d (.int .i64 (grpErr l k)))] ∧ out = [.row 1 ((grpOf l k).map rowC)]
set_option maxHeartbeats 4000000 in
theorem ok23 : VSound Try.prog (23, R23) := by
  refine vsound (T := ty) (F := [(65, R65)]) (pl := []) (nw := true) (cuts := []) mix tyOk (.cons (ok65) .nil) Try.func23 (by kernel_rfl) (by kernel_rfl) ?_
  rintro _ _ _ _ ⟨l, k, rfl, rfl, hl, rfl, rfl⟩
  conv => whnf
  (refine ⟨[], false, false, ?_⟩; (conv => whnf); refine ⟨_, _, ⟨l, rfl, rfl, hl, rfl, rfl⟩, ?_⟩; (conv => whnf))
  generalize hM : many l = M
  (repeat' (first | ((with_reducible refine And.intro (fun (e : (_ : Bool) = true) => ?_) (fun (e : (_ : Bool) = false) => ?_)) <;> (try simp only [reduceCtorEq, ints_len, bools_len, bif_t, bif_f, zv0, zv1, zv2, zv3, zv4, zv5, zv6, zv7, zv8, zv9, zv10, zv11, zv12, zv13, zv14, zv15, zv16, zv17, zv18, zv19, zv20, zv21, zv22, zv23, zv24] at e) <;> (conv => whnf)) | ((with_reducible refine And.intro (fun (e : (_ : Bool) = false) => ?_) (fun (e : (_ : Bool) = true) => ?_)) <;> (try simp only [reduceCtorEq, ints_len, bools_len, bif_t, bif_f, zv0, zv1, zv2, zv3, zv4, zv5, zv6, zv7, zv8, zv9, zv10, zv11, zv12, zv13, zv14, zv15, zv16, zv17, zv18, zv19, zv20, zv21, zv22, zv23, zv24] at e) <;> (conv => whnf)) | (refine And.intro ?_ ?_; ((first | (with_reducible assumption) | (intro _; with_reducible assumption) | omega | (simp only [reduceCtorEq, ints_len, bools_len, bif_t, bif_f, zv0, zv1, zv2, zv3, zv4, zv5, zv6, zv7, zv8, zv9, zv10, zv11, zv12, zv13, zv14, zv15, zv16, zv17, zv18, zv19, zv20, zv21, zv22, zv23, zv24] at *; omega) | (intro hg; (try simp only [reduceCtorEq, ints_len, bools_len, bif_t, bif_f, zv0, zv1, zv2, zv3, zv4, zv5, zv6, zv7, zv8, zv9, zv10, zv11, zv12, zv13, zv14, zv15, zv16, zv17, zv18, zv19, zv20, zv21, zv22, zv23, zv24] at hg); first | (with_reducible assumption) | omega | (simp only [reduceCtorEq, ints_len, bools_len, bif_t, bif_f, zv0, zv1, zv2, zv3, zv4, zv5, zv6, zv7, zv8, zv9, zv10, zv11, zv12, zv13, zv14, zv15, zv16, zv17, zv18, zv19, zv20, zv21, zv22, zv23, zv24] at *; omega) | (refine ⟨?_, ?_⟩ <;> omega)) | (refine ⟨?_, ?_⟩ <;> omega) | (simp [*]; done) | grind)); (conv => whnf))))
  · have e1 := e
    have ho : grpOk l k = false := Bool.eq_false_iff.2 fun h => by
      unfold grpOk at h
      simp only [Bool.and_eq_true, decide_eq_true_eq, hM] at h
      omega
    rw [grpErr, grpOf, ho]
    refine ⟨[.slot 4 true], ?_⟩
    conv => whnf
    exact ⟨[0], by simp, .cons ⟨_, rfl, rfl, rfl⟩ .nil, .cons rfl (.cons rfl .nil)⟩
  · have ho : grpOk l k = true := by
      unfold grpOk
      simp only [Bool.and_eq_true, decide_eq_true_eq, hM]
      omega
    rw [grpErr, grpOf, if_pos ho, if_pos ho, hM]
    obtain ⟨n, rfl⟩ := Int.eq_ofNat_of_zero_le (a := M) (by omega)
    have hn4 : n ≤ 400 := by
      have := many_prod (l := l) (by omega)
      omega
    clear hM ho
    refine ⟨[.slot 7 true, .slot 4 true], [1, 7, 21, 22], 2, fun n1 σ => (n1 = n ∧ σ = (⟨[.junk, .di .i64 k, .junk, .junk, .junk, .junk, .junk, .one (.own 0), .junk, .junk, .junk, .junk, .junk, .junk, .junk, .junk, .junk, .junk, .junk, .junk, .junk, .di .i64 n, .di .i64 0, .junk, .junk, .junk, .junk, .junk, .junk, .junk, .junk, .junk, .junk, .junk, .junk, .junk, .junk, .junk, .junk, .junk, .junk, .junk, .junk, .junk, .junk, .junk, .junk, .junk], [.row 1 [], .row 1 []]⟩ : St)) ∨ ∃ i : Nat, i < n ∧ n1 = n - (i + 1) ∧ σ = (⟨[.junk, .di .i64 k, .junk, .junk, .junk, .junk, .junk, .one (.own 0), .junk, .junk, .junk, .junk, .junk, .junk, .junk, .junk, .junk, .junk, .junk, .junk, .junk, .di .i64 n, .di .i64 (i + 1 : Nat), .junk, .junk, .junk, .junk, .junk, .junk, .junk, .junk, .junk, .junk, .junk, .junk, .junk, .junk, .junk, .junk, .junk, .junk, .junk, .junk, .junk, .junk, .junk, .junk, .junk], [.rowt 1 ((grpN k (i + 1)).1.map rowC) [.own 1], .row 1 ((grpN k (i + 1)).2.map inC)]⟩ : St), ?_, ?_⟩
    · refine ⟨n, ?_⟩
      conv => whnf
      exact .inl ⟨rfl, rfl⟩
    · rintro n1 _ (⟨rfl, rfl⟩ | ⟨i, hi, rfl, rfl⟩)
      · conv => whnf
        ((with_reducible refine And.intro (fun (e : (_ : Bool) = true) => ?_) (fun (e : (_ : Bool) = false) => ?_)) <;> (try simp only [reduceCtorEq, ints_len, bools_len, bif_t, bif_f, zv0, zv1, zv2, zv3, zv4, zv5, zv6, zv7, zv8, zv9, zv10, zv11, zv12, zv13, zv14, zv15, zv16, zv17, zv18, zv19, zv20, zv21, zv22, zv23, zv24] at e) <;> (conv => whnf))
        · conv => whnf
          (repeat (refine And.intro ?_ ?_; ((first | (with_reducible assumption) | (intro _; with_reducible assumption) | omega | (simp only [reduceCtorEq, ints_len, bools_len, bif_t, bif_f, zv0, zv1, zv2, zv3, zv4, zv5, zv6, zv7, zv8, zv9, zv10, zv11, zv12, zv13, zv14, zv15, zv16, zv17, zv18, zv19, zv20, zv21, zv22, zv23, zv24] at *; omega) | (intro hg; (try simp only [reduceCtorEq, ints_len, bools_len, bif_t, bif_f, zv0, zv1, zv2, zv3, zv4, zv5, zv6, zv7, zv8, zv9, zv10, zv11, zv12, zv13, zv14, zv15, zv16, zv17, zv18, zv19, zv20, zv21, zv22, zv23, zv24] at hg); first | (with_reducible assumption) | omega | (simp only [reduceCtorEq, ints_len, bools_len, bif_t, bif_f, zv0, zv1, zv2, zv3, zv4, zv5, zv6, zv7, zv8, zv9, zv10, zv11, zv12, zv13, zv14, zv15, zv16, zv17, zv18, zv19, zv20, zv21, zv22, zv23, zv24] at *; omega) | (refine ⟨?_, ?_⟩ <;> omega)) | (refine ⟨?_, ?_⟩ <;> omega) | (simp [*]; done) | grind)); (conv => whnf)))
          ((with_reducible refine And.intro (fun (e : (_ : Bool) = true) => ?_) (fun (e : (_ : Bool) = false) => ?_)) <;> (try simp only [reduceCtorEq, ints_len, bools_len, bif_t, bif_f, zv0, zv1, zv2, zv3, zv4, zv5, zv6, zv7, zv8, zv9, zv10, zv11, zv12, zv13, zv14, zv15, zv16, zv17, zv18, zv19, zv20, zv21, zv22, zv23, zv24] at e) <;> (conv => whnf))
          · refine ⟨by decide, ?_⟩
            conv => whnf
            (repeat (refine And.intro ?_ ?_; ((first | (with_reducible assumption) | (intro _; with_reducible assumption) | omega | (simp only [reduceCtorEq, ints_len, bools_len, bif_t, bif_f, zv0, zv1, zv2, zv3, zv4, zv5, zv6, zv7, zv8, zv9, zv10, zv11, zv12, zv13, zv14, zv15, zv16, zv17, zv18, zv19, zv20, zv21, zv22, zv23, zv24] at *; omega) | (intro hg; (try simp only [reduceCtorEq, ints_len, bools_len, bif_t, bif_f, zv0, zv1, zv2, zv3, zv4, zv5, zv6, zv7, zv8, zv9, zv10, zv11, zv12, zv13, zv14, zv15, zv16, zv17, zv18, zv19, zv20, zv21, zv22, zv23, zv24] at hg); first | (with_reducible assumption) | omega | (simp only [reduceCtorEq, ints_len, bools_len, bif_t, bif_f, zv0, zv1, zv2, zv3, zv4, zv5, zv6, zv7, zv8, zv9, zv10, zv11, zv12, zv13, zv14, zv15, zv16, zv17, zv18, zv19, zv20, zv21, zv22, zv23, zv24] at *; omega) | (refine ⟨?_, ?_⟩ <;> omega)) | (refine ⟨?_, ?_⟩ <;> omega) | (simp [*]; done) | grind)); (conv => whnf)))
            have hg1 : grpN k (0 + 1) = ([], [0]) := by rw [grpN, if_pos (by simp), if_pos rfl]
            refine ⟨n1 - 1, by omega, [.ren 1 4], ?_⟩
            conv => whnf
            refine .inr ⟨0, by omega, by omega, ?_⟩
            rw [hg1]; rfl
          · exfalso; exact e (by simp)
        · have h0 : n1 = 0 := by omega
          rw [h0]
          refine ⟨[], ?_⟩
          conv => whnf
          exact ⟨[0], by simp, .cons ⟨_, rfl, rfl, rfl⟩ .nil, .cons rfl (.cons rfl .nil)⟩
      · have hgl := grpN_len k (i + 1)
        have hstep : grpN k (i + 1 + 1) = if ((i + 1 : Nat) : Int).tmod k = 0 then ((grpN k (i + 1)).1 ++ [(grpN k (i + 1)).2], [((i + 1 : Nat) : Int)]) else ((grpN k (i + 1)).1, (grpN k (i + 1)).2 ++ [((i + 1 : Nat) : Int)]) := by
          rw [grpN]; rfl
        generalize hG : (grpN k (i + 1)).1 = G at *
        generalize hQ : (grpN k (i + 1)).2 = Q at *
        conv => whnf
        ((with_reducible refine And.intro (fun (e : (_ : Bool) = true) => ?_) (fun (e : (_ : Bool) = false) => ?_)) <;> (try simp only [reduceCtorEq, ints_len, bools_len, bif_t, bif_f, zv0, zv1, zv2, zv3, zv4, zv5, zv6, zv7, zv8, zv9, zv10, zv11, zv12, zv13, zv14, zv15, zv16, zv17, zv18, zv19, zv20, zv21, zv22, zv23, zv24] at e) <;> (conv => whnf))
        · conv => whnf
          (repeat (refine And.intro ?_ ?_; ((first | (with_reducible assumption) | (intro _; with_reducible assumption) | omega | (simp only [reduceCtorEq, ints_len, bools_len, bif_t, bif_f, zv0, zv1, zv2, zv3, zv4, zv5, zv6, zv7, zv8, zv9, zv10, zv11, zv12, zv13, zv14, zv15, zv16, zv17, zv18, zv19, zv20, zv21, zv22, zv23, zv24] at *; omega) | (intro hg; (try simp only [reduceCtorEq, ints_len, bools_len, bif_t, bif_f, zv0, zv1, zv2, zv3, zv4, zv5, zv6, zv7, zv8, zv9, zv10, zv11, zv12, zv13, zv14, zv15, zv16, zv17, zv18, zv19, zv20, zv21, zv22, zv23, zv24] at hg); first | (with_reducible assumption) | omega | (simp only [reduceCtorEq, ints_len, bools_len, bif_t, bif_f, zv0, zv1, zv2, zv3, zv4, zv5, zv6, zv7, zv8, zv9, zv10, zv11, zv12, zv13, zv14, zv15, zv16, zv17, zv18, zv19, zv20, zv21, zv22, zv23, zv24] at *; omega) | (refine ⟨?_, ?_⟩ <;> omega)) | (refine ⟨?_, ?_⟩ <;> omega) | (simp [*]; done) | grind)); (conv => whnf)))
          ((with_reducible refine And.intro (fun (e : (_ : Bool) = true) => ?_) (fun (e : (_ : Bool) = false) => ?_)) <;> (try simp only [reduceCtorEq, ints_len, bools_len, bif_t, bif_f, zv0, zv1, zv2, zv3, zv4, zv5, zv6, zv7, zv8, zv9, zv10, zv11, zv12, zv13, zv14, zv15, zv16, zv17, zv18, zv19, zv20, zv21, zv22, zv23, zv24] at e) <;> (conv => whnf))
          · rw [if_pos e] at hstep
            have hgll : (List.map rowC G ++ [[D.sl 1 (List.map inC Q)]]).length = G.length + 1 := by rw [List.length_append, List.length_map]; rfl
            have hgm : List.map rowC G ++ [[D.sl 1 (List.map inC Q)]] = (G ++ [Q]).map rowC := by rw [List.map_append]; rfl
            generalize List.map rowC G ++ [[D.sl 1 (List.map inC Q)]] = GL at *
            refine ⟨by omega, ?_⟩
            conv => whnf
            repeat ((first | refine And.intro (by omega) ?_ | refine And.intro (by simp) ?_); conv => whnf)
            refine ⟨n - (i + 1 + 1), by omega, [.ren 1 4], ?_⟩
            conv => whnf
            refine .inr ⟨i + 1, by omega, rfl, ?_⟩
            rw [hstep, hgm]; rfl
          · rw [if_neg e] at hstep
            have hgll : (List.map rowC G).length = G.length := by rw [List.length_map]
            generalize hGL : List.map rowC G = GL at *
            repeat ((first | refine And.intro (by omega) ?_ | refine And.intro (by rw [List.length_map]; simp only [List.length_cons, List.length_nil]; omega) ?_); conv => whnf)
            refine ⟨n - (i + 1 + 1), by omega, [], ?_⟩
            conv => whnf
            refine .inr ⟨i + 1, by omega, rfl, ?_⟩
            rw [hstep, List.map_append (l₂ := [_]), hGL]; rfl
        · have hin : i + 1 = n := by omega
          refine ⟨[.close 0], ?_⟩
          conv => whnf
          refine ⟨[0], by simp, .cons ⟨_, rfl, rfl, ?_⟩ .nil, .cons rfl (.cons rfl .nil)⟩
          rw [Int.toNat_natCast, groups, if_neg (by omega), ← hin, hG, hQ, List.map_append]; rfl
def R24 : Ct := R23
set_option maxHeartbeats 4000000 in
theorem ok24 : VSound Try.prog (24, R24) := by
  refine vsound (T := ty) (F := [(59, R59), (62, R62)]) (pl := []) (nw := true) (cuts := []) mix tyOk (.cons (ok59) (.cons (ok62) .nil)) Try.func24 (by kernel_rfl) (by kernel_rfl) ?_
  rintro _ _ _ _ ⟨l, k, rfl, rfl, hl, rfl, rfl⟩
  conv => whnf
  (refine ⟨[], false, false, ?_⟩; (conv => whnf); refine ⟨_, _, ⟨l, rfl, rfl, hl, rfl, rfl⟩, ?_⟩; (conv => whnf))
  generalize hM : many l = M
  cases hneg : decide (M < 0) with
  | true =>
    have ho : grpOk l k = false := Bool.eq_false_iff.2 fun h => by
      unfold grpOk at h
      simp only [Bool.and_eq_true, decide_eq_true_eq, hM] at h
      have := of_decide_eq_true hneg
      omega
    rw [grpErr, grpOf, ho]
    ((first | refine And.intro (fun _ => ?_) (fun h => absurd h (by decide)) | refine And.intro (fun h => absurd h (by decide)) (fun _ => ?_)); (conv => whnf))
    (repeat ((first | with_reducible refine And.intro (fun h => h) ?_ | with_reducible refine And.intro (fun _ => rfl) ?_ | with_reducible refine And.intro rfl ?_); conv => whnf))
    ((first | refine And.intro (fun _ => ?_) (fun h => absurd h (by decide)) | refine And.intro (fun h => absurd h (by decide)) (fun _ => ?_)); (conv => whnf))
    refine ⟨[.slot 4 true], ?_⟩
    conv => whnf
    exact ⟨[0], by simp, .cons ⟨_, rfl, rfl, rfl⟩ .nil, .cons rfl (.cons rfl .nil)⟩
  | false =>
  have hM0 := of_decide_eq_false hneg
  ((first | refine And.intro (fun _ => ?_) (fun h => absurd h (by decide)) | refine And.intro (fun h => absurd h (by decide)) (fun _ => ?_)); (conv => whnf))
  (repeat ((first | with_reducible refine And.intro (fun h => h) ?_ | with_reducible refine And.intro (fun _ => rfl) ?_ | with_reducible refine And.intro rfl ?_); conv => whnf))
  (refine ⟨[], false, false, ?_⟩; (conv => whnf); refine ⟨_, _, ⟨k, rfl, rfl, rfl, rfl⟩, ?_⟩; (conv => whnf))
  cases hk : decide (1 ≤ k ∧ k ≤ 64) with
  | false =>
    have ho : grpOk l k = false := by unfold grpOk; rw [hk, Bool.and_false]
    rw [grpErr, grpOf, ho]
    (repeat ((first | with_reducible refine And.intro (fun h => h) ?_ | with_reducible refine And.intro (fun _ => rfl) ?_ | with_reducible refine And.intro rfl ?_); conv => whnf))
    ((first | refine And.intro (fun _ => ?_) (fun h => absurd h (by decide)) | refine And.intro (fun h => absurd h (by decide)) (fun _ => ?_)); (conv => whnf))
    refine ⟨[.slot 4 true], ?_⟩
    conv => whnf
    exact ⟨[0], by simp, .cons ⟨_, rfl, rfl, rfl⟩ .nil, .cons rfl (.cons rfl .nil)⟩
  | true =>
  have hk2 := of_decide_eq_true hk
  (repeat ((first | with_reducible refine And.intro (fun h => h) ?_ | with_reducible refine And.intro (fun _ => rfl) ?_ | with_reducible refine And.intro rfl ?_); conv => whnf))
  ((first | refine And.intro (fun _ => ?_) (fun h => absurd h (by decide)) | refine And.intro (fun h => absurd h (by decide)) (fun _ => ?_)); (conv => whnf))
  · have ho : grpOk l k = true := by
      unfold grpOk
      simp only [Bool.and_eq_true, decide_eq_true_eq, hM]
      omega
    rw [grpErr, grpOf, if_pos ho, if_pos ho, hM]
    obtain ⟨n, rfl⟩ := Int.eq_ofNat_of_zero_le (a := M) (by omega)
    have hn4 : n ≤ 400 := by
      have := many_prod (l := l) (by omega)
      omega
    clear hM ho
    refine ⟨[.slot 7 true, .slot 4 true], [1, 6, 7, 8], 2, fun n1 σ => (n1 = n ∧ σ = (⟨[.junk, .di .i64 k, .junk, .junk, .junk, .junk, .di .i64 n, .one (.own 0), .di .i64 0, .junk, .junk, .junk, .junk, .junk, .junk, .junk, .junk, .junk, .junk, .junk, .junk, .junk, .junk, .junk, .junk, .junk, .junk, .junk, .junk, .junk, .junk, .junk, .junk, .junk, .junk, .junk, .junk, .junk, .junk, .junk, .junk, .junk, .junk, .junk, .junk], [.row 1 [], .row 1 []]⟩ : St)) ∨ ∃ i : Nat, i < n ∧ n1 = n - (i + 1) ∧ σ = (⟨[.junk, .di .i64 k, .junk, .junk, .junk, .junk, .di .i64 n, .one (.own 0), .di .i64 (i + 1 : Nat), .junk, .junk, .junk, .junk, .junk, .junk, .junk, .junk, .junk, .junk, .junk, .junk, .junk, .junk, .junk, .junk, .junk, .junk, .junk, .junk, .junk, .junk, .junk, .junk, .junk, .junk, .junk, .junk, .junk, .junk, .junk, .junk, .junk, .junk, .junk, .junk], [.rowt 1 ((grpN k (i + 1)).1.map rowC) [.own 1], .row 1 ((grpN k (i + 1)).2.map inC)]⟩ : St), ?_, ?_⟩
    · refine ⟨n, ?_⟩
      conv => whnf
      exact .inl ⟨rfl, rfl⟩
    · rintro n1 _ (⟨rfl, rfl⟩ | ⟨i, hi, rfl, rfl⟩)
      · conv => whnf
        ((with_reducible refine And.intro (fun (e : (_ : Bool) = true) => ?_) (fun (e : (_ : Bool) = false) => ?_)) <;> (try simp only [reduceCtorEq, ints_len, bools_len, bif_t, bif_f, zv0, zv1, zv2, zv3, zv4, zv5, zv6, zv7, zv8, zv9, zv10, zv11, zv12, zv13, zv14, zv15, zv16, zv17, zv18, zv19, zv20, zv21, zv22, zv23, zv24] at e) <;> (conv => whnf))
        · conv => whnf
          (repeat (refine And.intro ?_ ?_; ((first | (with_reducible assumption) | (intro _; with_reducible assumption) | omega | (simp only [reduceCtorEq, ints_len, bools_len, bif_t, bif_f, zv0, zv1, zv2, zv3, zv4, zv5, zv6, zv7, zv8, zv9, zv10, zv11, zv12, zv13, zv14, zv15, zv16, zv17, zv18, zv19, zv20, zv21, zv22, zv23, zv24] at *; omega) | (intro hg; (try simp only [reduceCtorEq, ints_len, bools_len, bif_t, bif_f, zv0, zv1, zv2, zv3, zv4, zv5, zv6, zv7, zv8, zv9, zv10, zv11, zv12, zv13, zv14, zv15, zv16, zv17, zv18, zv19, zv20, zv21, zv22, zv23, zv24] at hg); first | (with_reducible assumption) | omega | (simp only [reduceCtorEq, ints_len, bools_len, bif_t, bif_f, zv0, zv1, zv2, zv3, zv4, zv5, zv6, zv7, zv8, zv9, zv10, zv11, zv12, zv13, zv14, zv15, zv16, zv17, zv18, zv19, zv20, zv21, zv22, zv23, zv24] at *; omega) | (refine ⟨?_, ?_⟩ <;> omega)) | (refine ⟨?_, ?_⟩ <;> omega) | (simp [*]; done) | grind)); (conv => whnf)))
          ((with_reducible refine And.intro (fun (e : (_ : Bool) = true) => ?_) (fun (e : (_ : Bool) = false) => ?_)) <;> (try simp only [reduceCtorEq, ints_len, bools_len, bif_t, bif_f, zv0, zv1, zv2, zv3, zv4, zv5, zv6, zv7, zv8, zv9, zv10, zv11, zv12, zv13, zv14, zv15, zv16, zv17, zv18, zv19, zv20, zv21, zv22, zv23, zv24] at e) <;> (conv => whnf))
          · refine ⟨by decide, ?_⟩
            conv => whnf
            (repeat (refine And.intro ?_ ?_; ((first | (with_reducible assumption) | (intro _; with_reducible assumption) | omega | (simp only [reduceCtorEq, ints_len, bools_len, bif_t, bif_f, zv0, zv1, zv2, zv3, zv4, zv5, zv6, zv7, zv8, zv9, zv10, zv11, zv12, zv13, zv14, zv15, zv16, zv17, zv18, zv19, zv20, zv21, zv22, zv23, zv24] at *; omega) | (intro hg; (try simp only [reduceCtorEq, ints_len, bools_len, bif_t, bif_f, zv0, zv1, zv2, zv3, zv4, zv5, zv6, zv7, zv8, zv9, zv10, zv11, zv12, zv13, zv14, zv15, zv16, zv17, zv18, zv19, zv20, zv21, zv22, zv23, zv24] at hg); first | (with_reducible assumption) | omega | (simp only [reduceCtorEq, ints_len, bools_len, bif_t, bif_f, zv0, zv1, zv2, zv3, zv4, zv5, zv6, zv7, zv8, zv9, zv10, zv11, zv12, zv13, zv14, zv15, zv16, zv17, zv18, zv19, zv20, zv21, zv22, zv23, zv24] at *; omega) | (refine ⟨?_, ?_⟩ <;> omega)) | (refine ⟨?_, ?_⟩ <;> omega) | (simp [*]; done) | grind)); (conv => whnf)))
            have hg1 : grpN k (0 + 1) = ([], [0]) := by rw [grpN, if_pos (by simp), if_pos rfl]
            refine ⟨n1 - 1, by omega, [.ren 1 4], ?_⟩
            conv => whnf
            refine .inr ⟨0, by omega, by omega, ?_⟩
            rw [hg1]; rfl
          · exfalso; exact e (by simp)
        · have h0 : n1 = 0 := by omega
          rw [h0]
          refine ⟨[], ?_⟩
          conv => whnf
          exact ⟨[0], by simp, .cons ⟨_, rfl, rfl, rfl⟩ .nil, .cons rfl (.cons rfl .nil)⟩
      · have hgl := grpN_len k (i + 1)
        have hstep : grpN k (i + 1 + 1) = if ((i + 1 : Nat) : Int).tmod k = 0 then ((grpN k (i + 1)).1 ++ [(grpN k (i + 1)).2], [((i + 1 : Nat) : Int)]) else ((grpN k (i + 1)).1, (grpN k (i + 1)).2 ++ [((i + 1 : Nat) : Int)]) := by
          rw [grpN]; rfl
        generalize hG : (grpN k (i + 1)).1 = G at *
        generalize hQ : (grpN k (i + 1)).2 = Q at *
        conv => whnf
        ((with_reducible refine And.intro (fun (e : (_ : Bool) = true) => ?_) (fun (e : (_ : Bool) = false) => ?_)) <;> (try simp only [reduceCtorEq, ints_len, bools_len, bif_t, bif_f, zv0, zv1, zv2, zv3, zv4, zv5, zv6, zv7, zv8, zv9, zv10, zv11, zv12, zv13, zv14, zv15, zv16, zv17, zv18, zv19, zv20, zv21, zv22, zv23, zv24] at e) <;> (conv => whnf))
        · conv => whnf
          (repeat (refine And.intro ?_ ?_; ((first | (with_reducible assumption) | (intro _; with_reducible assumption) | omega | (simp only [reduceCtorEq, ints_len, bools_len, bif_t, bif_f, zv0, zv1, zv2, zv3, zv4, zv5, zv6, zv7, zv8, zv9, zv10, zv11, zv12, zv13, zv14, zv15, zv16, zv17, zv18, zv19, zv20, zv21, zv22, zv23, zv24] at *; omega) | (intro hg; (try simp only [reduceCtorEq, ints_len, bools_len, bif_t, bif_f, zv0, zv1, zv2, zv3, zv4, zv5, zv6, zv7, zv8, zv9, zv10, zv11, zv12, zv13, zv14, zv15, zv16, zv17, zv18, zv19, zv20, zv21, zv22, zv23, zv24] at hg); first | (with_reducible assumption) | omega | (simp only [reduceCtorEq, ints_len, bools_len, bif_t, bif_f, zv0, zv1, zv2, zv3, zv4, zv5, zv6, zv7, zv8, zv9, zv10, zv11, zv12, zv13, zv14, zv15, zv16, zv17, zv18, zv19, zv20, zv21, zv22, zv23, zv24] at *; omega) | (refine ⟨?_, ?_⟩ <;> omega)) | (refine ⟨?_, ?_⟩ <;> omega) | (simp [*]; done) | grind)); (conv => whnf)))
          ((with_reducible refine And.intro (fun (e : (_ : Bool) = true) => ?_) (fun (e : (_ : Bool) = false) => ?_)) <;> (try simp only [reduceCtorEq, ints_len, bools_len, bif_t, bif_f, zv0, zv1, zv2, zv3, zv4, zv5, zv6, zv7, zv8, zv9, zv10, zv11, zv12, zv13, zv14, zv15, zv16, zv17, zv18, zv19, zv20, zv21, zv22, zv23, zv24] at e) <;> (conv => whnf))
          · rw [if_pos e] at hstep
            have hgll : (List.map rowC G ++ [[D.sl 1 (List.map inC Q)]]).length = G.length + 1 := by rw [List.length_append, List.length_map]; rfl
            have hgm : List.map rowC G ++ [[D.sl 1 (List.map inC Q)]] = (G ++ [Q]).map rowC := by rw [List.map_append]; rfl
            generalize List.map rowC G ++ [[D.sl 1 (List.map inC Q)]] = GL at *
            refine ⟨by omega, ?_⟩
            conv => whnf
            repeat ((first | refine And.intro (by omega) ?_ | refine And.intro (by simp) ?_); conv => whnf)
            refine ⟨n - (i + 1 + 1), by omega, [.ren 1 4], ?_⟩
            conv => whnf
            refine .inr ⟨i + 1, by omega, rfl, ?_⟩
            rw [hstep, hgm]; rfl
          · rw [if_neg e] at hstep
            have hgll : (List.map rowC G).length = G.length := by rw [List.length_map]
            generalize hGL : List.map rowC G = GL at *
            repeat ((first | refine And.intro (by omega) ?_ | refine And.intro (by rw [List.length_map]; simp only [List.length_cons, List.length_nil]; omega) ?_); conv => whnf)
            refine ⟨n - (i + 1 + 1), by omega, [], ?_⟩
            conv => whnf
            refine .inr ⟨i + 1, by omega, rfl, ?_⟩
            rw [hstep, List.map_append (l₂ := [_]), hGL]; rfl
        · have hin : i + 1 = n := by omega
          refine ⟨[.close 0], ?_⟩
          conv => whnf
          refine ⟨[0], by simp, .cons ⟨_, rfl, rfl, ?_⟩ .nil, .cons rfl (.cons rfl .nil)⟩
          rw [Int.toNat_natCast, groups, if_neg (by omega), ← hin, hG, hQ, List.map_append]; rfl
end Go.Proofs.Ytahdihhhankhdaa.V
-- Vsa
namespace Go.Proofs.Ytahdihhhankhdaa.V
open Go.Proofs.YtahdihhhankhdaaVY Go.RowKit
def R22 : Ct := fun ss hp r out => ∃ a b : List Int, ss = [.one (.d (.sl 1 (a.map inC))), .one (.d (.sl 1 (b.map inC)))] ∧ hp = [] ∧ a.length < 4611686018427387904 ∧ r = .db (decide (a = b)) ∧ out = []
set_option maxHeartbeats 4000000 in
theorem ok22 : VSound Try.prog (22, R22) := by
  refine vsound (T := ty) (F := []) (pl := [(6, [[], [], [0, 1], [0, 1, 2], [], [], [4, 5], [4, 5, 6], [0, 1, 2, 3, 4, 5, 6, 7]], .look 0 (.look 1 (.look 2 (.look 3 (.look 4 (.look 5 (.look 6 (.look 7 (.look 8 .done)))))))))]) (nw := true) (cuts := []) mix tyOk .nil Try.func22 (by kernel_rfl) (by kernel_rfl) ?_
  rintro _ _ _ _ ⟨a, b, rfl, rfl, hl, rfl, rfl⟩
  conv => whnf
  ((with_reducible refine And.intro (fun (e : (_ : Bool) = true) => ?_) (fun (e : (_ : Bool) = false) => ?_)) <;> (try simp only [reduceCtorEq, ints_len, bools_len, bif_t, bif_f, zv0, zv1, zv2, zv3, zv4, zv5, zv6, zv7, zv8, zv9, zv10, zv11, zv12, zv13, zv14, zv15, zv16, zv17, zv18, zv19, zv20, zv21, zv22, zv23, zv24] at e) <;> (conv => whnf))
  · (refine ⟨[], ?_⟩; (conv => whnf); refine ⟨[], .nil, .nil, ?_⟩; (conv => whnf))
    congr 1
    refine (decide_eq_false ?_).symm
    rintro rfl
    exact e rfl
  · have e1 := e
    refine ⟨[], [0, 1, 5], 0, fun n1 σ => ∃ i : Nat, i ≤ a.length ∧ n1 = a.length - i ∧ (∀ j < i, a[j]? = b[j]?) ∧ σ = (⟨[.one (.d (.sl 1 (a.map inC))), .one (.d (.sl 1 (b.map inC))), .junk, .junk, .junk, .di .i64 i, .junk, .junk, .junk, .junk, .junk, .junk, .junk, .junk, .junk, .junk, .junk, .junk, .junk, .junk, .junk, .junk, .junk, .junk, .junk, .junk], []⟩ : St), ?_, ?_⟩
    · refine ⟨a.length, ?_⟩
      conv => whnf
      exact ⟨0, by omega, by omega, by omega, rfl⟩
    · rintro n1 _ ⟨i, hi, rfl, hall, rfl⟩
      conv => whnf
      ((with_reducible refine And.intro (fun (e : (_ : Bool) = true) => ?_) (fun (e : (_ : Bool) = false) => ?_)) <;> (try simp only [reduceCtorEq, ints_len, bools_len, bif_t, bif_f, zv0, zv1, zv2, zv3, zv4, zv5, zv6, zv7, zv8, zv9, zv10, zv11, zv12, zv13, zv14, zv15, zv16, zv17, zv18, zv19, zv20, zv21, zv22, zv23, zv24] at e) <;> (conv => whnf))
      · obtain ⟨y, hy⟩ := get_lt (l := a) (i := i) (by omega)
        obtain ⟨z, hz⟩ := get_lt (l := b) (i := i) (by omega)
        refine ⟨_, And.intro ⟨?_, enc_get hy⟩ ?_⟩
        · omega
        conv => whnf
        refine ⟨_, And.intro ⟨?_, enc_get hz⟩ ?_⟩
        · omega
        conv => whnf
        ((with_reducible refine And.intro (fun (e : (_ : Bool) = true) => ?_) (fun (e : (_ : Bool) = false) => ?_)) <;> (try simp only [reduceCtorEq, ints_len, bools_len, bif_t, bif_f, zv0, zv1, zv2, zv3, zv4, zv5, zv6, zv7, zv8, zv9, zv10, zv11, zv12, zv13, zv14, zv15, zv16, zv17, zv18, zv19, zv20, zv21, zv22, zv23, zv24] at e) <;> (conv => whnf))
        · have e2 := e
          (refine ⟨[], ?_⟩; (conv => whnf); refine ⟨[], .nil, .nil, ?_⟩; (conv => whnf))
          congr 1
          refine (decide_eq_false ?_).symm
          rintro rfl
          rw [hy] at hz; cases hz
          exact e2 rfl
        · have e2 := e
          (refine And.intro ?_ ?_; ((first | (with_reducible assumption) | (intro _; with_reducible assumption) | omega | (simp only [reduceCtorEq, ints_len, bools_len, bif_t, bif_f, zv0, zv1, zv2, zv3, zv4, zv5, zv6, zv7, zv8, zv9, zv10, zv11, zv12, zv13, zv14, zv15, zv16, zv17, zv18, zv19, zv20, zv21, zv22, zv23, zv24] at *; omega) | (intro hg; (try simp only [reduceCtorEq, ints_len, bools_len, bif_t, bif_f, zv0, zv1, zv2, zv3, zv4, zv5, zv6, zv7, zv8, zv9, zv10, zv11, zv12, zv13, zv14, zv15, zv16, zv17, zv18, zv19, zv20, zv21, zv22, zv23, zv24] at hg); first | (with_reducible assumption) | omega | (simp only [reduceCtorEq, ints_len, bools_len, bif_t, bif_f, zv0, zv1, zv2, zv3, zv4, zv5, zv6, zv7, zv8, zv9, zv10, zv11, zv12, zv13, zv14, zv15, zv16, zv17, zv18, zv19, zv20, zv21, zv22, zv23, zv24] at *; omega) | (refine ⟨?_, ?_⟩ <;> omega)) | (refine ⟨?_, ?_⟩ <;> omega) | (simp [*]; done) | grind)); (conv => whnf))
          refine ⟨a.length - (i + 1), by omega, [], ?_⟩
          conv => whnf
          refine ⟨i + 1, by omega, rfl, fun j hj => ?_, rfl⟩
          by_cases ej : j = i
          · subst ej; rw [hy, hz, e2]
          · exact hall j (by omega)
      · (refine ⟨[], ?_⟩; (conv => whnf); refine ⟨[], .nil, .nil, ?_⟩; (conv => whnf))
        congr 1
        refine (decide_eq_true ?_).symm
        apply List.ext_getElem?
        intro j
        by_cases hj : j < a.length
        · exact hall j (by omega)
        · rw [List.getElem?_eq_none (by omega), List.getElem?_eq_none (by omega)]
end Go.Proofs.Ytahdihhhankhdaa.V
-- Vl
namespace Go.Proofs.Ytahdihhhankhdaa.V
open Go.Proofs.YtahdihhhankhdaaVY Go.RowKit
theorem loseCaps_id {h : Nat} {caps : List Cap} : ∀ {k : List Cap → Prop}, caps.all capFree = true → k caps → loseCaps h caps k := by
  induction caps with
  | nil => intro k _ hk; exact hk
  | cons c cs ih =>
    intro k h1 hk
    simp only [List.all_cons, Bool.and_eq_true] at h1
    obtain ⟨h1, h2⟩ := h1
    cases c <;> first | exact ih h2 hk | (cases h1; done)
theorem filter_take {α : Type} {p : α → Bool} {l : List α} {j : Nat} {x : α} (h : l[j]? = some x) : (l.take (j + 1)).filter p = (l.take j).filter p ++ if p x then [x] else [] := by
  rw [List.take_add_one, h, Option.toList_some, List.filter_append]
  congr 1
  simp only [List.filter_cons, List.filter_nil]
theorem idx_first {α : Type} {p : α → Bool} : ∀ {l : List α} {i : Nat}, idx p l = i → i < l.length ∧ (l.take (i + 1)).filter (fun x => !p x) = l.take i
  | [], i, h => by simp [idx] at h
  | x :: l, i, h => by
    unfold idx at h
    by_cases hx : p x = true
    · rw [if_pos hx] at h
      obtain rfl : i = 0 := by omega
      simp [hx]
    · have hx' : p x = false := by simpa using hx
      rw [if_neg (by simp [hx'])] at h
      rcases idx_nn p l with h1 | h1
      · rw [h1] at h; simp at h
      · rw [if_neg (by omega)] at h
        obtain ⟨k, rfl⟩ : ∃ k, i = k + 1 := ⟨i - 1, by omega⟩
        obtain ⟨h2, h3⟩ := idx_first (p := p) (l := l) (i := k) (by omega)
        refine ⟨by simp; omega, ?_⟩
        rw [List.take_succ_cons, List.filter_cons, hx', List.take_succ_cons, h3]; rfl
theorem idx_no {α : Type} {p : α → Bool} : ∀ {l : List α}, idx p l = -1 → l.filter (fun x => !p x) = l
  | [], _ => rfl
  | x :: l, h => by
    unfold idx at h
    by_cases hx : p x = true
    · rw [if_pos hx] at h; omega
    · have hx' : p x = false := by simpa using hx
      rw [if_neg (by simp [hx'])] at h
      rcases idx_nn p l with h1 | h1
      · rw [List.filter_cons, hx', idx_no h1]; rfl
      · rw [if_neg (by omega)] at h; omega
def R144 (Rf : Ct) : Ct := fun ss hp r out => ∃ (l : List (Int × Int)) (caps : List Cap) (p : Int × Int → Bool) (v : Value), ss = [.one (.own 0), .one (.fn 145 caps)] ∧ hp = [.row 2 (l.map prC), .mem v (.own 0)] ∧ l.length < 4611686018427387904 ∧ caps.all capFree = true ∧ (∀ x ∈ l, Rf (.v (.ag ((prC x).map .d)) :: caps.map fun c => .one c.toC) [] (.db (p x)) []) ∧ r = .one (.own 0) ∧ out = [.row 2 ((l.filter fun x => !p x).map prC), .mem v .junk]
set_option maxHeartbeats 4000000 in
theorem ok144 (Rf : Ct) (hf : VSound Try.prog (145, Rf)) : VSound Try.prog (144, R144 Rf) := by
  refine vsound (T := ty) (F := [(142, R142 145 Rf), (145, Rf)]) (pl := []) (nw := true) (cuts := [11]) mix tyOk (.cons (ok142 145 Rf hf) (.cons (hf) .nil)) Try.func144 (by kernel_rfl) (by kernel_rfl) ?_
  rintro _ _ _ _ ⟨l, caps, p, v, rfl, rfl, hl, hc, hp, rfl, rfl⟩
  conv => whnf
  refine ⟨[], false, false, ?_⟩
  conv => whnf
  refine lendCaps_id hc ?_
  conv => whnf
  refine ⟨_, _, ⟨l, caps, p, rfl, rfl, hl, hc, hp, rfl, rfl⟩, ?_⟩
  conv => whnf
  ((with_reducible refine And.intro (fun (e : (_ : Bool) = true) => ?_) (fun (e : (_ : Bool) = false) => ?_)) <;> (try simp only [reduceCtorEq, ints_len, bools_len, bif_t, bif_f, zv0, zv1, zv2, zv3, zv4, zv5, zv6, zv7, zv8, zv9, zv10, zv11, zv12, zv13, zv14, zv15, zv16, zv17, zv18, zv19, zv20, zv21, zv22, zv23, zv24] at e) <;> (conv => whnf))
  · have e1 := e
    refine ⟨[], ?_⟩
    conv => whnf
    refine ⟨[0, 1], by simp, .cons ⟨_, rfl, rfl, ?_⟩ (.cons ⟨_, rfl, rfl, trivial⟩ .nil), rfl⟩
    rw [idx_no e1]
  · have e1 := e
    obtain ⟨i0, hi0⟩ : ∃ i : Nat, idx p l = i := by
      rcases idx_nn p l with h | h
      · exact absurd h e1
      · exact ⟨_, (Int.toNat_of_nonneg h).symm⟩
    obtain ⟨hlt, hf0⟩ := idx_first hi0
    rw [hi0]
    refine ⟨[], [0, 5], 2, fun σ => ∃ (g : Nat) (Q G : List (Int × Int)), Q.length = l.length ∧ (l.filter fun x => !p x) = G ∧ G.length = g ∧ g < l.length ∧ Q.take g = G ∧ σ = (⟨[.one (.own 0), .junk, .junk, .junk, .junk, .di .i64 g, .junk, .junk, .junk, .junk, .junk, .junk, .junk, .junk, .junk, .junk, .junk, .junk, .junk, .junk, .junk, .junk, .junk, .junk, .junk, .junk, .junk, .junk, .junk, .junk, .junk, .junk, .junk, .junk, .junk, .junk, .junk, .junk, .junk, .junk, .junk, .junk], [.row 2 (Q.map prC), .mem v (.own 0)]⟩ : St), ?_, ?_⟩
    · conv => whnf
      (refine And.intro ?_ ?_; ((first | (with_reducible assumption) | (intro _; with_reducible assumption) | omega | (simp only [reduceCtorEq, ints_len, bools_len, bif_t, bif_f, zv0, zv1, zv2, zv3, zv4, zv5, zv6, zv7, zv8, zv9, zv10, zv11, zv12, zv13, zv14, zv15, zv16, zv17, zv18, zv19, zv20, zv21, zv22, zv23, zv24] at *; omega) | (intro hg; (try simp only [reduceCtorEq, ints_len, bools_len, bif_t, bif_f, zv0, zv1, zv2, zv3, zv4, zv5, zv6, zv7, zv8, zv9, zv10, zv11, zv12, zv13, zv14, zv15, zv16, zv17, zv18, zv19, zv20, zv21, zv22, zv23, zv24] at hg); first | (with_reducible assumption) | omega | (simp only [reduceCtorEq, ints_len, bools_len, bif_t, bif_f, zv0, zv1, zv2, zv3, zv4, zv5, zv6, zv7, zv8, zv9, zv10, zv11, zv12, zv13, zv14, zv15, zv16, zv17, zv18, zv19, zv20, zv21, zv22, zv23, zv24] at *; omega) | (refine ⟨?_, ?_⟩ <;> omega)) | (refine ⟨?_, ?_⟩ <;> omega) | (simp [*]; done) | grind)); (conv => whnf))
      refine ⟨[], [0, 1, 5, 6], 2, fun n1 σ => ∃ (j g : Nat) (Q G : List (Int × Int)), j ≤ l.length ∧ n1 = l.length - j ∧ Q.length = l.length ∧ ((l.take j).filter fun x => !p x) = G ∧ G.length = g ∧ g < j ∧ Q.take g = G ∧ Q.drop j = l.drop j ∧ σ = (⟨[.one (.own 0), .one (.fn 145 caps), .junk, .junk, .junk, .di .i64 g, .di .i64 j, .junk, .junk, .junk, .junk, .junk, .junk, .junk, .junk, .junk, .junk, .junk, .junk, .junk, .junk, .junk, .junk, .junk, .junk, .junk, .junk, .junk, .junk, .junk, .junk, .junk, .junk, .junk, .junk, .junk, .junk, .junk, .junk, .junk, .junk, .junk], [.row 2 (Q.map prC), .mem v (.own 0)]⟩ : St), ?_, ?_⟩
      · refine ⟨l.length - (i0 + 1), ?_⟩
        conv => whnf
        rw [under_fn hc]
        conv => whnf
        have hq : (l.take i0).length = i0 := by rw [List.length_take]; omega
        exact ⟨i0 + 1, i0, l, l.take i0, by omega, rfl, rfl, hf0, hq, by omega, rfl, rfl, rfl⟩
      · rintro n1 _ ⟨j, g, Q, G, hj, rfl, hR, hG, hg, hF, hT, hD, rfl⟩
        conv => whnf
        ((with_reducible refine And.intro (fun (e : (_ : Bool) = true) => ?_) (fun (e : (_ : Bool) = false) => ?_)) <;> (try simp only [reduceCtorEq, ints_len, bools_len, bif_t, bif_f, zv0, zv1, zv2, zv3, zv4, zv5, zv6, zv7, zv8, zv9, zv10, zv11, zv12, zv13, zv14, zv15, zv16, zv17, zv18, zv19, zv20, zv21, zv22, zv23, zv24] at e) <;> (conv => whnf))
        · obtain ⟨x, hx⟩ := get_lt (l := l) (i := j) (by omega)
          have hQj : Q[j]? = some x := by
            have : (Q.drop j)[0]? = (l.drop j)[0]? := by rw [hD]
            rw [List.getElem?_drop, List.getElem?_drop, Nat.add_zero, hx] at this
            exact this
          have hft := filter_take (p := fun x => !p x) hx
          have hD1 : Q.drop (j + 1) = l.drop (j + 1) := by rw [← List.drop_drop, hD, List.drop_drop]
          rw [hG] at hft
          refine And.intro ⟨by omega, by rw [map_len]; omega⟩ ?_
          conv => whnf
          refine ⟨_, And.intro (enc_get hQj) ?_⟩
          have hpx := hp x (List.mem_of_getElem? hx)
          obtain ⟨xa, xb⟩ := x
          conv => whnf
          refine ⟨[], false, false, ?_⟩
          conv => whnf
          refine lendCaps_id hc ?_
          conv => whnf
          refine ⟨_, _, hpx, ?_⟩
          conv => whnf
          ((with_reducible refine And.intro (fun (e : (_ : Bool) = true) => ?_) (fun (e : (_ : Bool) = false) => ?_)) <;> (try simp only [reduceCtorEq, ints_len, bools_len, bif_t, bif_f, zv0, zv1, zv2, zv3, zv4, zv5, zv6, zv7, zv8, zv9, zv10, zv11, zv12, zv13, zv14, zv15, zv16, zv17, zv18, zv19, zv20, zv21, zv22, zv23, zv24] at e) <;> (conv => whnf))
          · have hp0 := e
            rw [hp0] at hft
            obtain ⟨y, hy⟩ := get_lt (l := Q) (i := g) (by omega)
            refine And.intro ⟨by omega, by rw [map_len]; omega⟩ ?_
            show St.apply _ _ _ _ _ _ _
            unfold St.apply
            simp only [updsK, appK, putD, setK]
            unfold vcOps
            simp only [isLook, winAt]
            unfold actStep evM
            simp only [operand, nthK, strip]
            conv => whnf
            refine ⟨_, And.intro (enc_get hy) ?_⟩
            obtain ⟨ya, yb⟩ := y
            conv => whnf
            (refine And.intro ?_ ?_; ((first | (with_reducible assumption) | (intro _; with_reducible assumption) | omega | (simp only [reduceCtorEq, ints_len, bools_len, bif_t, bif_f, zv0, zv1, zv2, zv3, zv4, zv5, zv6, zv7, zv8, zv9, zv10, zv11, zv12, zv13, zv14, zv15, zv16, zv17, zv18, zv19, zv20, zv21, zv22, zv23, zv24] at *; omega) | (intro hg; (try simp only [reduceCtorEq, ints_len, bools_len, bif_t, bif_f, zv0, zv1, zv2, zv3, zv4, zv5, zv6, zv7, zv8, zv9, zv10, zv11, zv12, zv13, zv14, zv15, zv16, zv17, zv18, zv19, zv20, zv21, zv22, zv23, zv24] at hg); first | (with_reducible assumption) | omega | (simp only [reduceCtorEq, ints_len, bools_len, bif_t, bif_f, zv0, zv1, zv2, zv3, zv4, zv5, zv6, zv7, zv8, zv9, zv10, zv11, zv12, zv13, zv14, zv15, zv16, zv17, zv18, zv19, zv20, zv21, zv22, zv23, zv24] at *; omega) | (refine ⟨?_, ?_⟩ <;> omega)) | (refine ⟨?_, ?_⟩ <;> omega) | (simp [*]; done) | grind)); (conv => whnf))
            (refine And.intro ?_ ?_; ((first | (with_reducible assumption) | (intro _; with_reducible assumption) | omega | (simp only [reduceCtorEq, ints_len, bools_len, bif_t, bif_f, zv0, zv1, zv2, zv3, zv4, zv5, zv6, zv7, zv8, zv9, zv10, zv11, zv12, zv13, zv14, zv15, zv16, zv17, zv18, zv19, zv20, zv21, zv22, zv23, zv24] at *; omega) | (intro hg; (try simp only [reduceCtorEq, ints_len, bools_len, bif_t, bif_f, zv0, zv1, zv2, zv3, zv4, zv5, zv6, zv7, zv8, zv9, zv10, zv11, zv12, zv13, zv14, zv15, zv16, zv17, zv18, zv19, zv20, zv21, zv22, zv23, zv24] at hg); first | (with_reducible assumption) | omega | (simp only [reduceCtorEq, ints_len, bools_len, bif_t, bif_f, zv0, zv1, zv2, zv3, zv4, zv5, zv6, zv7, zv8, zv9, zv10, zv11, zv12, zv13, zv14, zv15, zv16, zv17, zv18, zv19, zv20, zv21, zv22, zv23, zv24] at *; omega) | (refine ⟨?_, ?_⟩ <;> omega)) | (refine ⟨?_, ?_⟩ <;> omega) | (simp [*]; done) | grind)); (conv => whnf))
            refine ⟨l.length - (j + 1), by omega, [], ?_⟩
            conv => whnf
            rw [under_fn hc]
            conv => whnf
            refine ⟨j + 1, g + 1, Q.set g (xa, xb), G ++ [(xa, xb)], by omega, rfl, by rw [List.length_set]; exact hR, hft, by simp; omega, by omega, ?_, ?_, ?_⟩
            · rw [List.take_add_one, List.take_set_of_le (Nat.le_refl _), hT, List.getElem?_set_self (by omega)]; rfl
            · rw [List.drop_set_of_lt (by omega)]; exact hD1
            · rw [List.map_set]; rfl
          · have hp0 := e
            rw [hp0] at hft
            (refine And.intro ?_ ?_; ((first | (with_reducible assumption) | (intro _; with_reducible assumption) | omega | (simp only [reduceCtorEq, ints_len, bools_len, bif_t, bif_f, zv0, zv1, zv2, zv3, zv4, zv5, zv6, zv7, zv8, zv9, zv10, zv11, zv12, zv13, zv14, zv15, zv16, zv17, zv18, zv19, zv20, zv21, zv22, zv23, zv24] at *; omega) | (intro hg; (try simp only [reduceCtorEq, ints_len, bools_len, bif_t, bif_f, zv0, zv1, zv2, zv3, zv4, zv5, zv6, zv7, zv8, zv9, zv10, zv11, zv12, zv13, zv14, zv15, zv16, zv17, zv18, zv19, zv20, zv21, zv22, zv23, zv24] at hg); first | (with_reducible assumption) | omega | (simp only [reduceCtorEq, ints_len, bools_len, bif_t, bif_f, zv0, zv1, zv2, zv3, zv4, zv5, zv6, zv7, zv8, zv9, zv10, zv11, zv12, zv13, zv14, zv15, zv16, zv17, zv18, zv19, zv20, zv21, zv22, zv23, zv24] at *; omega) | (refine ⟨?_, ?_⟩ <;> omega)) | (refine ⟨?_, ?_⟩ <;> omega) | (simp [*]; done) | grind)); (conv => whnf))
            refine ⟨l.length - (j + 1), by omega, [], ?_⟩
            conv => whnf
            rw [under_fn hc]
            conv => whnf
            refine ⟨j + 1, g, Q, G, by omega, rfl, hR, ?_, hg, by omega, hT, hD1, rfl⟩
            rw [hft]; simp
        · have hj' : j = l.length := by omega
          subst hj'
          rw [List.take_length] at hG
          exact ⟨g, Q, G, hR, hG, hg, hF, hT, rfl⟩
    · rintro _ ⟨g, Q, G, hR, hG, hg, hF, hT, rfl⟩
      rw [hG]
      conv => whnf
      have hcut : ∀ X : List (List D), ((Q.map prC).take g ++ X).take g = G.map prC := by
        intro X
        rw [List.take_left' (by rw [List.length_take, map_len]; omega), ← List.map_take, hT]
      refine ⟨⟨by omega, by rw [map_len]; omega, by omega⟩, ?_⟩
      conv => whnf
      refine ⟨⟨by omega, by omega, ?_⟩, ?_⟩
      · simp only [List.length_append, List.length_take, map_len]; omega
      conv => whnf
      refine ⟨[.trim 4], ?_⟩
      conv => whnf
      refine ⟨[0, 1], by simp, .cons ⟨_, rfl, rfl, ?_⟩ (.cons ⟨_, rfl, rfl, trivial⟩ .nil), rfl⟩
      rw [Int.toNat_natCast, Int.toNat_zero, Nat.sub_zero, List.drop_zero, List.append_assoc]
      exact hcut _
end Go.Proofs.Ytahdihhhankhdaa.V
-- Vm
namespace Go.Proofs.Ytahdihhhankhdaa.V
open Go.Proofs.YtahdihhhankhdaaVY Go.RowKit
/-- a pair that a group of so many lanes does not hold -/
def apart (lanes : Int) (q : Int × Int) : Bool := decide (q.1 = q.2 ∨ q.1.tdiv lanes ≠ q.2.tdiv lanes)
theorem tdiv_bd {a b : Int} (h0 : 0 ≤ a) (h1 : a ≤ 400) (hb : 1 ≤ b) : -9223372036854775808 ≤ a.tdiv b ∧ a.tdiv b ≤ 9223372036854775807 := by
  rw [Int.tdiv_eq_ediv_of_nonneg h0]
  have h2 : 0 ≤ a / b := Int.ediv_nonneg h0 (by omega)
  have h3 : a / b ≤ a := Int.ediv_le_self _ h0
  omega
def R145 : Ct := fun ss hp r out => ∃ qa qb lanes : Int, ss = [.v (.ag [.d (.int .i64 qa), .d (.int .i64 qb)]), .one (.pel (inC lanes))] ∧ hp = [] ∧ 1 ≤ lanes ∧ (0 ≤ qa ∧ qa ≤ 400) ∧ (0 ≤ qb ∧ qb ≤ 400) ∧ r = .db (apart lanes (qa, qb)) ∧ out = []
set_option maxHeartbeats 4000000 in
theorem ok145 : VSound Try.prog (145, R145) := by
  refine vsound (T := ty) (F := []) (pl := [(1, [[], [0], [], [2], [0, 1, 2, 3], [0, 1, 2, 3, 4], [0, 1, 2, 3, 4, 5], [0, 1, 2, 3, 4, 5, 6], [0, 1, 2, 3, 4, 5], [0, 1, 2, 3, 4, 5, 6, 7, 8], [0, 1, 2, 3, 4, 5], [0, 1, 2, 3, 4, 5, 10], [0, 1, 2, 3, 4, 5], [0, 1, 2, 3, 4, 5, 10, 11, 12], [0, 1, 2, 3, 4, 5, 6, 7, 8, 9, 10, 11, 12, 13], [0, 1, 2, 3, 4, 5, 6, 7, 8, 9, 10, 11, 12, 13, 14], [0, 1, 2, 3, 4, 5, 6, 7, 8, 9, 10, 11, 12, 13, 14, 15]], .look 0 (.look 1 (.look 2 (.look 3 (.look 4 (.look 5 (.look 6 (.look 7 (.look 8 (.look 9 (.look 10 (.look 11 (.look 12 (.look 13 (.look 14 (.look 15 (.look 16 .done)))))))))))))))))]) (nw := true) (cuts := []) mix tyOk .nil Try.func145 (by kernel_rfl) (by kernel_rfl) ?_
  rintro _ _ _ _ ⟨qa, qb, lanes, rfl, rfl, hl, ha, hb, rfl, rfl⟩
  have d1 := tdiv_bd ha.1 ha.2 hl
  have d2 := tdiv_bd hb.1 hb.2 hl
  conv => whnf
  (repeat' (first | ((with_reducible refine And.intro (fun (e : (_ : Bool) = true) => ?_) (fun (e : (_ : Bool) = false) => ?_)) <;> (try simp only [reduceCtorEq, ints_len, bools_len, bif_t, bif_f, zv0, zv1, zv2, zv3, zv4, zv5, zv6, zv7, zv8, zv9, zv10, zv11, zv12, zv13, zv14, zv15, zv16, zv17, zv18, zv19, zv20, zv21, zv22, zv23, zv24] at e) <;> (conv => whnf)) | (refine And.intro ?_ ?_; ((first | (with_reducible assumption) | (intro _; with_reducible assumption) | omega | (simp only [reduceCtorEq, ints_len, bools_len, bif_t, bif_f, zv0, zv1, zv2, zv3, zv4, zv5, zv6, zv7, zv8, zv9, zv10, zv11, zv12, zv13, zv14, zv15, zv16, zv17, zv18, zv19, zv20, zv21, zv22, zv23, zv24] at *; omega) | (intro hg; (try simp only [reduceCtorEq, ints_len, bools_len, bif_t, bif_f, zv0, zv1, zv2, zv3, zv4, zv5, zv6, zv7, zv8, zv9, zv10, zv11, zv12, zv13, zv14, zv15, zv16, zv17, zv18, zv19, zv20, zv21, zv22, zv23, zv24] at hg); first | (with_reducible assumption) | omega | (simp only [reduceCtorEq, ints_len, bools_len, bif_t, bif_f, zv0, zv1, zv2, zv3, zv4, zv5, zv6, zv7, zv8, zv9, zv10, zv11, zv12, zv13, zv14, zv15, zv16, zv17, zv18, zv19, zv20, zv21, zv22, zv23, zv24] at *; omega) | (refine ⟨?_, ?_⟩ <;> omega)) | (refine ⟨?_, ?_⟩ <;> omega) | (simp [*]; done) | grind)); (conv => whnf))))
  (refine ⟨[], ?_⟩; (conv => whnf); refine ⟨[], .nil, .nil, ?_⟩; (conv => whnf))
  congr 1
  unfold apart
  simp only [reduceCtorEq, ints_len, bools_len, bif_t, bif_f, zv0, zv1, zv2, zv3, zv4, zv5, zv6, zv7, zv8, zv9, zv10, zv11, zv12, zv13, zv14, zv15, zv16, zv17, zv18, zv19, zv20, zv21, zv22, zv23, zv24]
  by_cases h : qa = qb <;> by_cases h2 : qa.tdiv lanes = qb.tdiv lanes <;> simp [h, h2]
def wrongs (s t : Int) (load : Bool) (q : Int × Int) : Bool := if s ≠ t then (decide (q.1 < q.2) != decide (s < t)) else if load then decide (q.1 < q.2) else false
def R125 : Ct := fun ss hp r out => ∃ (qa qb s t : Int) (load : Bool), ss = [.v (.ag [.d (.int .i64 qa), .d (.int .i64 qb)]), .one (.pel (inC s)), .one (.pel (inC t)), .one (.pel (boC load))] ∧ hp = [] ∧ r = .db (wrongs s t load (qa, qb)) ∧ out = []
set_option maxHeartbeats 4000000 in
theorem ok125 : VSound Try.prog (125, R125) := by
  refine vsound (T := ty) (F := []) (pl := []) (nw := true) (cuts := []) mix tyOk .nil Try.func125 (by kernel_rfl) (by kernel_rfl) ?_
  rintro _ _ _ _ ⟨qa, qb, s, t, load, rfl, rfl, rfl, rfl⟩
  conv => whnf
  (repeat' (first | ((with_reducible refine And.intro (fun (e : (_ : Bool) = true) => ?_) (fun (e : (_ : Bool) = false) => ?_)) <;> (try simp only [reduceCtorEq, ints_len, bools_len, bif_t, bif_f, zv0, zv1, zv2, zv3, zv4, zv5, zv6, zv7, zv8, zv9, zv10, zv11, zv12, zv13, zv14, zv15, zv16, zv17, zv18, zv19, zv20, zv21, zv22, zv23, zv24] at e) <;> (conv => whnf)) | (refine And.intro ?_ ?_; ((first | (with_reducible assumption) | (intro _; with_reducible assumption) | omega | (simp only [reduceCtorEq, ints_len, bools_len, bif_t, bif_f, zv0, zv1, zv2, zv3, zv4, zv5, zv6, zv7, zv8, zv9, zv10, zv11, zv12, zv13, zv14, zv15, zv16, zv17, zv18, zv19, zv20, zv21, zv22, zv23, zv24] at *; omega) | (intro hg; (try simp only [reduceCtorEq, ints_len, bools_len, bif_t, bif_f, zv0, zv1, zv2, zv3, zv4, zv5, zv6, zv7, zv8, zv9, zv10, zv11, zv12, zv13, zv14, zv15, zv16, zv17, zv18, zv19, zv20, zv21, zv22, zv23, zv24] at hg); first | (with_reducible assumption) | omega | (simp only [reduceCtorEq, ints_len, bools_len, bif_t, bif_f, zv0, zv1, zv2, zv3, zv4, zv5, zv6, zv7, zv8, zv9, zv10, zv11, zv12, zv13, zv14, zv15, zv16, zv17, zv18, zv19, zv20, zv21, zv22, zv23, zv24] at *; omega) | (refine ⟨?_, ?_⟩ <;> omega)) | (refine ⟨?_, ?_⟩ <;> omega) | (simp [*]; done) | grind)); (conv => whnf))))
  all_goals
    (refine ⟨[], ?_⟩; (conv => whnf); refine ⟨[], .nil, .nil, ?_⟩; (conv => whnf))
    congr 1
    unfold wrongs
    first
    | (rw [if_pos (by assumption)]; rfl)
    | (subst_vars; simp)
    | simp [*]
/-- the pairs of one group in which two Refs meet -/
def inGroup (k : Kern) (lanes : Int) (a b : Ref) : List (Int × Int) := (pairs k.ext a b).filter fun q => !apart lanes q
theorem pairs_bd {l : List Int} {a b : Ref} : ∀ q ∈ pairs l a b, (0 ≤ q.1 ∧ q.1 ≤ 400) ∧ (0 ≤ q.2 ∧ q.2 ≤ 400) := by
  intro q hq
  unfold pairs at hq
  split at hq
  · rename_i h
    have hA := places_len h.1
    have hB := places_len h.2.1
    generalize places l a = A at *
    generalize places l b = B at *
    have key : ∀ i ≤ A.length, ∀ q ∈ pairsTo A B i, (0 ≤ q.1 ∧ q.1 < i) ∧ (0 ≤ q.2 ∧ q.2 < B.length) := by
      intro i
      induction i with
      | zero => intro _ q hq; simp [pairsTo] at hq
      | succ i ih =>
        intro hi q hq
        rw [pairsTo, List.mem_append, List.mem_map] at hq
        rcases hq with hq | ⟨v, hv, rfl⟩
        · have := ih (by omega) q hq; omega
        · have := idxs_mem B _ _ v hv
          simp only; omega
    have := key A.length (Nat.le_refl _) q hq
    omega
  · simp at hq
theorem pairs_len (l : List Int) (a b : Ref) : (pairs l a b).length ≤ 160000 := by
  unfold pairs
  split
  · rename_i h
    have hA := places_len h.1
    have hB := places_len h.2.1
    have := pairsTo_len (places l a) (places l b) (places l a).length
    have := Nat.mul_le_mul hA hB
    omega
  · simp
theorem prs_free (l : List (Int × Int)) : ∀ e ∈ l.map prC, ∀ x ∈ e, nslB x = true := by
  intro e he x hx
  obtain ⟨q, _, rfl⟩ := List.mem_map.1 he
  simp only [prC, List.mem_cons, List.not_mem_nil, or_false] at hx
  rcases hx with rfl | rfl <;> rfl
def R124 : Ct := fun ss hp r out => ∃ (k : Kern) (lanes : Int) (a b : Ref), ss = [.v (.ag (k.c.map .d)), .di .i64 lanes, .v (.ag (a.c.map .d)), .v (.ag (b.c.map .d))] ∧ hp = [] ∧ k.ext.length < 4611686018427387904 ∧ a.str.length < 4611686018427387904 ∧ b.str.length < 4611686018427387904 ∧ 1 ≤ lanes ∧ r = .one (.own 0) ∧ out = [.row 2 ((inGroup k lanes a b).map prC)]
set_option maxHeartbeats 4000000 in
theorem ok124 : VSound Try.prog (124, R124) := by
  refine vsound (T := ty) (F := [(143, R143), (144, R144 R145)]) (pl := []) (nw := true) (cuts := []) mix tyOk (.cons (ok143) (.cons (ok144 R145 ok145) .nil)) Try.func124 (by kernel_rfl) (by kernel_rfl) ?_
  rintro _ _ _ _ ⟨⟨ext, sets⟩, lanes, ⟨aa, ab, sa⟩, ⟨ba, bb, sb⟩, rfl, rfl, hl, ha, hb, hln, rfl, rfl⟩
  conv => whnf
  refine ⟨[], false, false, ?_⟩
  conv => whnf
  refine ⟨_, _, ⟨ext, ⟨aa, ab, sa⟩, ⟨ba, bb, sb⟩, rfl, rfl, hl, ha, hb, rfl, rfl⟩, ?_⟩
  conv => whnf
  refine ⟨[4], false, false, ?_⟩
  conv => whnf
  intro v
  conv => whnf
  have hpl := pairs_len ext ⟨aa, ab, sa⟩ ⟨ba, bb, sb⟩
  refine ⟨_, _, ⟨pairs ext ⟨aa, ab, sa⟩ ⟨ba, bb, sb⟩, [.pel (inC lanes)], apart lanes, v, rfl, rfl, by omega, rfl, fun q hq => ⟨q.1, q.2, lanes, rfl, rfl, hln, (pairs_bd q hq).1, (pairs_bd q hq).2, rfl, rfl⟩, rfl, rfl⟩, ?_⟩
  conv => whnf
  refine ⟨rfl, ?_⟩
  conv => whnf
  refine ⟨prs_free _, rfl, ?_⟩
  conv => whnf
  refine ⟨[], ?_⟩
  conv => whnf
  exact ⟨[4], by simp, .cons ⟨_, rfl, rfl, rfl⟩ .nil, rfl⟩
def wrong (k : Kern) (lanes s t : Int) (a b : Ref) (load : Bool) : Bool := (inGroup k lanes a b).any (wrongs s t load)
theorem inGroup_len (k : Kern) (lanes : Int) (a b : Ref) : (inGroup k lanes a b).length ≤ 160000 :=
  Nat.le_trans (List.length_filter_le ..) (pairs_len ..)
def R95 : Ct := fun ss hp r out => ∃ (k : Kern) (lanes s t : Int) (a b : Ref) (load : Bool), ss = [.v (.ag (k.c.map .d)), .di .i64 lanes, .di .i64 s, .di .i64 t, .v (.ag (a.c.map .d)), .v (.ag (b.c.map .d)), .db load] ∧ hp = [] ∧ k.ext.length < 4611686018427387904 ∧ a.str.length < 4611686018427387904 ∧ b.str.length < 4611686018427387904 ∧ 1 ≤ lanes ∧ r = .db (wrong k lanes s t a b load) ∧ out = []
set_option maxHeartbeats 4000000 in
theorem ok95 : VSound Try.prog (95, R95) := by
  refine vsound (T := ty) (F := [(123, R123 125 R125), (124, R124)]) (pl := []) (nw := true) (cuts := []) mix tyOk (.cons (ok123 125 R125 ok125) (.cons (ok124) .nil)) Try.func95 (by kernel_rfl) (by kernel_rfl) ?_
  rintro _ _ _ _ ⟨⟨ext, sets⟩, lanes, s, t, ⟨aa, ab, sa⟩, ⟨ba, bb, sb⟩, load, rfl, rfl, hl, ha, hb, hln, rfl, rfl⟩
  conv => whnf
  refine ⟨[], false, false, ?_⟩
  conv => whnf
  refine ⟨_, _, ⟨⟨ext, sets⟩, lanes, ⟨aa, ab, sa⟩, ⟨ba, bb, sb⟩, rfl, rfl, hl, ha, hb, hln, rfl, rfl⟩, ?_⟩
  conv => whnf
  refine ⟨[], false, false, ?_⟩
  conv => whnf
  have hgl := inGroup_len ⟨ext, sets⟩ lanes ⟨aa, ab, sa⟩ ⟨ba, bb, sb⟩
  refine ⟨_, _, ⟨inGroup ⟨ext, sets⟩ lanes ⟨aa, ab, sa⟩ ⟨ba, bb, sb⟩, _, wrongs s t load, rfl, rfl, by omega, rfl, fun q hq => ⟨q.1, q.2, s, t, load, rfl, rfl, rfl, rfl⟩, rfl, rfl⟩, ?_⟩
  conv => whnf
  (refine ⟨[], ?_⟩; (conv => whnf); refine ⟨[], .nil, .nil, ?_⟩; (conv => whnf))
  rfl
end Go.Proofs.Ytahdihhhankhdaa.V
-- Vn
namespace Go.Proofs.Ytahdihhhankhdaa.V
open Go.Proofs.YtahdihhhankhdaaVY Go.RowKit
def R57 : Ct := fun ss hp r out => ∃ k : Kern, ss = [.v (.ag (k.c.map .d))] ∧ hp = [] ∧ k.bulk ≤ 4194304 ∧ r = .db (formed k && decide (1 ≤ k.sets.length ∧ k.sets.length ≤ 8)) ∧ out = []
set_option maxHeartbeats 4000000 in
theorem ok57 : VSound Try.prog (57, R57) := by
  refine vsound (T := ty) (F := [(94, R94)]) (pl := []) (nw := true) (cuts := []) mix tyOk (.cons (ok94) .nil) Try.func57 (by kernel_rfl) (by kernel_rfl) ?_
  rintro _ _ _ _ ⟨⟨ext, sets⟩, rfl, rfl, hm, rfl, rfl⟩
  conv => whnf
  refine ⟨[], false, false, ?_⟩
  conv => whnf
  refine ⟨_, _, ⟨⟨ext, sets⟩, rfl, rfl, hm, rfl, rfl⟩, ?_⟩
  conv => whnf
  (repeat' (first | ((with_reducible refine And.intro (fun (e : (_ : Bool) = true) => ?_) (fun (e : (_ : Bool) = false) => ?_)) <;> (try simp only [reduceCtorEq, ints_len, bools_len, bif_t, bif_f, zv0, zv1, zv2, zv3, zv4, zv5, zv6, zv7, zv8, zv9, zv10, zv11, zv12, zv13, zv14, zv15, zv16, zv17, zv18, zv19, zv20, zv21, zv22, zv23, zv24] at e) <;> (conv => whnf)) | (refine And.intro ?_ ?_; ((first | (with_reducible assumption) | (intro _; with_reducible assumption) | omega | (simp only [reduceCtorEq, ints_len, bools_len, bif_t, bif_f, zv0, zv1, zv2, zv3, zv4, zv5, zv6, zv7, zv8, zv9, zv10, zv11, zv12, zv13, zv14, zv15, zv16, zv17, zv18, zv19, zv20, zv21, zv22, zv23, zv24] at *; omega) | (intro hg; (try simp only [reduceCtorEq, ints_len, bools_len, bif_t, bif_f, zv0, zv1, zv2, zv3, zv4, zv5, zv6, zv7, zv8, zv9, zv10, zv11, zv12, zv13, zv14, zv15, zv16, zv17, zv18, zv19, zv20, zv21, zv22, zv23, zv24] at hg); first | (with_reducible assumption) | omega | (simp only [reduceCtorEq, ints_len, bools_len, bif_t, bif_f, zv0, zv1, zv2, zv3, zv4, zv5, zv6, zv7, zv8, zv9, zv10, zv11, zv12, zv13, zv14, zv15, zv16, zv17, zv18, zv19, zv20, zv21, zv22, zv23, zv24] at *; omega) | (refine ⟨?_, ?_⟩ <;> omega)) | (refine ⟨?_, ?_⟩ <;> omega) | (simp [*]; done) | grind)); (conv => whnf))))
  (refine ⟨[], ?_⟩; (conv => whnf); refine ⟨[], .nil, .nil, ?_⟩; (conv => whnf))
  congr 1
  simp only [reduceCtorEq, ints_len, bools_len, bif_t, bif_f, zv0, zv1, zv2, zv3, zv4, zv5, zv6, zv7, zv8, zv9, zv10, zv11, zv12, zv13, zv14, zv15, zv16, zv17, zv18, zv19, zv20, zv21, zv22, zv23, zv24]
  cases formed ⟨ext, sets⟩ <;> simp <;> (by_cases h1 : 1 ≤ sets.length <;> by_cases h2 : sets.length ≤ 8 <;> simp [h1, h2] <;> omega)
def R98 : Ct := fun ss hp r out => ∃ (k : Kern) (lanes : Int) (s : Nat) (t : Int) (x : Ref) (S0 : ASet), ss = [.v (.ag (x.c.map .d)), .one (.pel k.c), .one (.pel (inC lanes)), .one (.pel (inC s)), .one (.pel (inC t))] ∧ hp = [] ∧ k.ext.length < 4611686018427387904 ∧ S0.to.str.length < 4611686018427387904 ∧ x.str.length < 4611686018427387904 ∧ 1 ≤ lanes ∧ k.sets[s]? = some S0 ∧ r = .db (wrong k lanes s t S0.to x true) ∧ out = []
set_option maxHeartbeats 4000000 in
theorem ok98 : VSound Try.prog (98, R98) := by
  refine vsound (T := ty) (F := [(95, R95)]) (pl := [(1, [[], [], [], [], [], [4], [], [4, 5, 6], [4, 5, 6, 7], [4, 5, 6, 7, 8], [], [0, 1, 2, 3, 4, 5, 6, 7, 8, 9, 10], [0, 1, 2, 3, 4, 5, 6, 7, 8, 9, 10, 11]], .look 0 (.look 1 (.look 2 (.look 3 (.look 4 (.look 5 (.look 6 (.look 7 (.look 8 (.look 9 (.look 10 (.act 11 [] (.look 12 .done) .stop))))))))))))]) (nw := true) (cuts := []) mix tyOk (.cons (ok95) .nil) Try.func98 (by kernel_rfl) (by kernel_rfl) ?_
  rintro _ _ _ _ ⟨⟨ext, sets⟩, lanes, s, t, ⟨xa, xb, xs⟩, ⟨⟨sa, sb, ss⟩, mask, ⟨op, kind, n, ref, kids⟩⟩, rfl, rfl, hl, hs, hx, hln, hget, rfl, rfl⟩
  conv => whnf
  refine ⟨_, And.intro ⟨?_, enc_get hget⟩ ?_⟩
  · omega
  conv => whnf
  refine ⟨[], false, false, ?_⟩
  conv => whnf
  refine ⟨_, _, ⟨⟨ext, sets⟩, lanes, s, t, ⟨sa, sb, ss⟩, ⟨xa, xb, xs⟩, true, rfl, rfl, hl, hs, hx, hln, rfl, rfl⟩, ?_⟩
  conv => whnf
  (refine ⟨[], ?_⟩; (conv => whnf); refine ⟨[], .nil, .nil, ?_⟩; (conv => whnf))
end Go.Proofs.Ytahdihhhankhdaa.V
-- Vo
namespace Go.Proofs.Ytahdihhhankhdaa.V
open Go.Proofs.YtahdihhhankhdaaVY Go.RowKit
def rightAt (k : Kern) (lanes : Int) (s t : Nat) : Bool := match k.sets[s]?, k.sets[t]? with
  | some S0, some T0 => !wrong k lanes s t S0.to T0.to false && !(T0.loads.any fun r => wrong k lanes s t S0.to r true)
  | _, _ => true
def right (k : Kern) (lanes : Int) : Bool := (List.range k.sets.length).all fun s => (List.range k.sets.length).all fun t => rightAt k lanes s t
theorem right_not {k : Kern} {lanes : Int} {s t : Nat} (hs : s < k.sets.length) (ht : t < k.sets.length) (h : rightAt k lanes s t = false) : right k lanes = false := by
  unfold right
  rw [List.all_eq_false]
  refine ⟨s, List.mem_range.2 hs, ?_⟩
  have : ((List.range k.sets.length).all fun t => rightAt k lanes s t) = false := List.all_eq_false.2 ⟨t, List.mem_range.2 ht, by rw [h]; decide⟩
  rw [this]; decide
def R58 : Ct := fun ss hp r out => ∃ (k : Kern) (lanes : Int), ss = [.v (.ag (k.c.map .d)), .di .i64 lanes] ∧ hp = [] ∧ k.bulk ≤ 4194304 ∧ formed k = true ∧ 1 ≤ lanes ∧ r = .db (right k lanes) ∧ out = []
set_option maxHeartbeats 4000000 in
theorem ok58 : VSound Try.prog (58, R58) := by
  refine vsound (T := ty) (F := [(95, R95), (96, R96), (97, R97 98 R98)]) (pl := [(7, [[], [], [], [], [], [4], [], [4, 5, 6], [4, 5, 6, 7], [4, 5, 6, 7, 8], [], [10], [], [10, 11, 12], [10, 11, 12, 13], [10, 11, 12, 13, 14], [0, 1, 2, 3, 4, 5, 6, 7, 8, 9, 10, 11, 12, 13, 14, 15]], .look 0 (.look 1 (.look 2 (.look 3 (.look 4 (.look 5 (.look 6 (.look 7 (.look 8 (.look 9 (.look 10 (.look 11 (.look 12 (.look 13 (.look 14 (.look 15 (.act 16 [] .done .stop)))))))))))))))))]) (nw := true) (cuts := []) mix tyOk (.cons (ok95) (.cons (ok96) (.cons (ok97 98 R98 ok98) .nil))) Try.func58 (by kernel_rfl) (by kernel_rfl) ?_
  rintro _ _ _ _ ⟨⟨ext, sets⟩, lanes, rfl, rfl, hm, hf, hln, rfl, rfl⟩
  simp only [Kern.bulk] at hm
  have hkl := setsBulk_len sets
  conv => whnf
  refine ⟨[], [2, 3, 11, 12], 2, fun n1 σ => ∃ s : Nat, s ≤ sets.length ∧ n1 = sets.length - s ∧ (∀ s' < s, ∀ t' < sets.length, rightAt ⟨ext, sets⟩ lanes s' t' = true) ∧ σ = (⟨[.junk, .junk, .one (.ptr 0 0), .one (.ptr 1 0), .junk, .junk, .junk, .junk, .junk, .junk, .junk, .di .i64 sets.length, .di .i64 s, .junk, .junk, .junk, .junk, .junk, .junk, .junk, .junk, .junk, .junk, .junk, .junk, .junk, .junk, .junk, .junk, .junk, .junk, .junk, .junk, .junk, .junk, .junk, .junk, .junk, .junk, .junk, .junk, .junk, .junk, .junk, .junk, .junk, .junk, .junk, .junk], [.box (List.map .d (Kern.mk ext sets).c), .box [.d (.int .i64 lanes)]]⟩ : St), ?_, ?_⟩
  · refine ⟨sets.length, ?_⟩
    conv => whnf
    refine ⟨0, by omega, by omega, by omega, ?_⟩
    rw [map_len]; rfl
  · rintro n1 _ ⟨s, hs, rfl, hall, rfl⟩
    conv => whnf
    ((with_reducible refine And.intro (fun (e : (_ : Bool) = true) => ?_) (fun (e : (_ : Bool) = false) => ?_)) <;> (try simp only [reduceCtorEq, ints_len, bools_len, bif_t, bif_f, zv0, zv1, zv2, zv3, zv4, zv5, zv6, zv7, zv8, zv9, zv10, zv11, zv12, zv13, zv14, zv15, zv16, zv17, zv18, zv19, zv20, zv21, zv22, zv23, zv24] at e) <;> (conv => whnf))
    · have hslt : s < sets.length := by omega
      obtain ⟨S0, hgs⟩ := get_lt hslt
      have hbs := setsBulk_get hgs
      have hto : S0.to.str.length ≤ S0.bulk := by rw [ASet.bulk]; omega
      refine ⟨[], [2, 3, 5, 11, 12, 17, 18], 3, fun n2 σ => ∃ t : Nat, t ≤ sets.length ∧ n2 = sets.length - t ∧ (∀ t' < t, rightAt ⟨ext, sets⟩ lanes s t' = true) ∧ σ = (⟨[.junk, .junk, .one (.ptr 0 0), .one (.ptr 1 0), .junk, .one (.ptr 2 0), .junk, .junk, .junk, .junk, .junk, .di .i64 sets.length, .di .i64 s, .junk, .junk, .junk, .junk, .di .i64 sets.length, .di .i64 t, .junk, .junk, .junk, .junk, .junk, .junk, .junk, .junk, .junk, .junk, .junk, .junk, .junk, .junk, .junk, .junk, .junk, .junk, .junk, .junk, .junk, .junk, .junk, .junk, .junk, .junk, .junk, .junk, .junk, .junk], [.box (List.map .d (Kern.mk ext sets).c), .box [.d (.int .i64 lanes)], .box [.d (.int .i64 s)]]⟩ : St), ?_, ?_⟩
      · refine ⟨sets.length, ?_⟩
        conv => whnf
        refine ⟨0, by omega, by omega, by omega, ?_⟩
        rw [map_len]; rfl
      · rintro n2 _ ⟨t, ht, rfl, hin, rfl⟩
        conv => whnf
        ((with_reducible refine And.intro (fun (e : (_ : Bool) = true) => ?_) (fun (e : (_ : Bool) = false) => ?_)) <;> (try simp only [reduceCtorEq, ints_len, bools_len, bif_t, bif_f, zv0, zv1, zv2, zv3, zv4, zv5, zv6, zv7, zv8, zv9, zv10, zv11, zv12, zv13, zv14, zv15, zv16, zv17, zv18, zv19, zv20, zv21, zv22, zv23, zv24] at e) <;> (conv => whnf))
        · have htlt : t < sets.length := by omega
          obtain ⟨T0, hgt⟩ := get_lt htlt
          have hbt := setsBulk_get hgt
          have htto : T0.to.str.length ≤ T0.bulk := by rw [ASet.bulk]; omega
          have hll := T0.loads_len
          have hstr : ∀ r ∈ T0.loads, r.str.length ≤ T0.bulk := fun r hr => ASet.loads_str hr
          have hR : rightAt ⟨ext, sets⟩ lanes s t = (!wrong ⟨ext, sets⟩ lanes s t S0.to T0.to false && !(T0.loads.any fun r => wrong ⟨ext, sets⟩ lanes s t S0.to r true)) := by
            unfold rightAt; rw [hgs, hgt]
          have hL : loadsOf ⟨ext, sets⟩ t = T0.loads := by
            unfold loadsOf
            rw [if_pos ⟨hf, by omega, by simp only; omega⟩, Int.toNat_natCast]; simp only; rw [hgt]; rfl
          refine ⟨_, And.intro ⟨?_, enc_get hgs⟩ ?_⟩
          · omega
          obtain ⟨⟨sa, sb, ss⟩, smask, ⟨sop, skind, sn, sref, skids⟩⟩ := S0
          conv => whnf
          refine ⟨_, And.intro ⟨?_, enc_get hgt⟩ ?_⟩
          · omega
          obtain ⟨⟨ta, tb, ts⟩, tmask, ⟨top, tkind, tn, tref, tkids⟩⟩ := T0
          conv => whnf
          refine ⟨[], false, false, ?_⟩
          conv => whnf
          refine ⟨_, _, ⟨⟨ext, sets⟩, lanes, s, t, ⟨sa, sb, ss⟩, ⟨ta, tb, ts⟩, false, rfl, rfl, by simp only; omega, by simp only at hto ⊢; omega, by simp only at htto ⊢; omega, hln, rfl, rfl⟩, ?_⟩
          conv => whnf
          ((with_reducible refine And.intro (fun (e : (_ : Bool) = true) => ?_) (fun (e : (_ : Bool) = false) => ?_)) <;> (try simp only [reduceCtorEq, ints_len, bools_len, bif_t, bif_f, zv0, zv1, zv2, zv3, zv4, zv5, zv6, zv7, zv8, zv9, zv10, zv11, zv12, zv13, zv14, zv15, zv16, zv17, zv18, zv19, zv20, zv21, zv22, zv23, zv24] at e) <;> (conv => whnf))
          · have hw := e
            (refine ⟨[], ?_⟩; (conv => whnf); refine ⟨[], .nil, .nil, ?_⟩; (conv => whnf))
            congr 1
            exact (right_not (k := ⟨ext, sets⟩) hslt htlt (by rw [hR]; simp only; rw [hw]; rfl)).symm
          · have hw := e
            refine ⟨[], false, false, ?_⟩
            conv => whnf
            refine ⟨_, _, ⟨⟨ext, sets⟩, t, rfl, rfl, by simp only [Kern.bulk]; omega, rfl, rfl⟩, ?_⟩
            conv => whnf
            refine ⟨[], false, false, ?_⟩
            conv => whnf
            have hll2 : (loadsOf ⟨ext, sets⟩ t).length ≤ 4194304 := by rw [hL]; omega
            have hstr2 : ∀ r ∈ loadsOf ⟨ext, sets⟩ t, r.str.length ≤ 4194304 := by
              intro r hr
              rw [hL] at hr
              have := hstr r hr
              omega
            refine ⟨_, _, ⟨loadsOf ⟨ext, sets⟩ t, _, fun r => wrong ⟨ext, sets⟩ lanes s t ⟨sa, sb, ss⟩ r true, rfl, rfl, by omega, rfl, fun r hr => ⟨⟨ext, sets⟩, lanes, s, t, r, _, rfl, rfl, by simp only; omega, by simp only at hto ⊢; omega, by have := hstr2 r hr; omega, hln, hgs, rfl, rfl⟩, rfl, rfl⟩, ?_⟩
            conv => whnf
            rw [hL]
            ((with_reducible refine And.intro (fun (e : (_ : Bool) = true) => ?_) (fun (e : (_ : Bool) = false) => ?_)) <;> (try simp only [reduceCtorEq, ints_len, bools_len, bif_t, bif_f, zv0, zv1, zv2, zv3, zv4, zv5, zv6, zv7, zv8, zv9, zv10, zv11, zv12, zv13, zv14, zv15, zv16, zv17, zv18, zv19, zv20, zv21, zv22, zv23, zv24] at e) <;> (conv => whnf))
            · have hw2 := e
              (refine ⟨[], ?_⟩; (conv => whnf); refine ⟨[], .nil, .nil, ?_⟩; (conv => whnf))
              congr 1
              exact (right_not (k := ⟨ext, sets⟩) hslt htlt (by rw [hR]; simp only; rw [hw2, Bool.not_true, Bool.and_false])).symm
            · have hw2 := e
              (refine And.intro ?_ ?_; ((first | (with_reducible assumption) | (intro _; with_reducible assumption) | omega | (simp only [reduceCtorEq, ints_len, bools_len, bif_t, bif_f, zv0, zv1, zv2, zv3, zv4, zv5, zv6, zv7, zv8, zv9, zv10, zv11, zv12, zv13, zv14, zv15, zv16, zv17, zv18, zv19, zv20, zv21, zv22, zv23, zv24] at *; omega) | (intro hg; (try simp only [reduceCtorEq, ints_len, bools_len, bif_t, bif_f, zv0, zv1, zv2, zv3, zv4, zv5, zv6, zv7, zv8, zv9, zv10, zv11, zv12, zv13, zv14, zv15, zv16, zv17, zv18, zv19, zv20, zv21, zv22, zv23, zv24] at hg); first | (with_reducible assumption) | omega | (simp only [reduceCtorEq, ints_len, bools_len, bif_t, bif_f, zv0, zv1, zv2, zv3, zv4, zv5, zv6, zv7, zv8, zv9, zv10, zv11, zv12, zv13, zv14, zv15, zv16, zv17, zv18, zv19, zv20, zv21, zv22, zv23, zv24] at *; omega) | (refine ⟨?_, ?_⟩ <;> omega)) | (refine ⟨?_, ?_⟩ <;> omega) | (simp [*]; done) | grind)); (conv => whnf))
              refine ⟨sets.length - (t + 1), by omega, [], ?_⟩
              conv => whnf
              refine ⟨t + 1, by omega, rfl, fun t' ht' => ?_, rfl⟩
              by_cases et : t' = t
              · subst et; rw [hR]; simp only; rw [hw, hw2]; rfl
              · exact hin t' (by omega)
        · (refine And.intro ?_ ?_; ((first | (with_reducible assumption) | (intro _; with_reducible assumption) | omega | (simp only [reduceCtorEq, ints_len, bools_len, bif_t, bif_f, zv0, zv1, zv2, zv3, zv4, zv5, zv6, zv7, zv8, zv9, zv10, zv11, zv12, zv13, zv14, zv15, zv16, zv17, zv18, zv19, zv20, zv21, zv22, zv23, zv24] at *; omega) | (intro hg; (try simp only [reduceCtorEq, ints_len, bools_len, bif_t, bif_f, zv0, zv1, zv2, zv3, zv4, zv5, zv6, zv7, zv8, zv9, zv10, zv11, zv12, zv13, zv14, zv15, zv16, zv17, zv18, zv19, zv20, zv21, zv22, zv23, zv24] at hg); first | (with_reducible assumption) | omega | (simp only [reduceCtorEq, ints_len, bools_len, bif_t, bif_f, zv0, zv1, zv2, zv3, zv4, zv5, zv6, zv7, zv8, zv9, zv10, zv11, zv12, zv13, zv14, zv15, zv16, zv17, zv18, zv19, zv20, zv21, zv22, zv23, zv24] at *; omega) | (refine ⟨?_, ?_⟩ <;> omega)) | (refine ⟨?_, ?_⟩ <;> omega) | (simp [*]; done) | grind)); (conv => whnf))
          refine ⟨sets.length - (s + 1), by omega, [], ?_⟩
          conv => whnf
          refine ⟨s + 1, by omega, rfl, fun s' hs' t' ht' => ?_, rfl⟩
          by_cases es : s' = s
          · subst es; exact hin t' (by omega)
          · exact hall s' (by omega) t' ht'
    · (refine ⟨[], ?_⟩; (conv => whnf); refine ⟨[], .nil, .nil, ?_⟩; (conv => whnf))
      congr 1
      unfold right
      refine (List.all_eq_true.2 fun s' hs' => List.all_eq_true.2 fun t' ht' => ?_).symm
      have h1 := List.mem_range.1 hs'
      have h2 := List.mem_range.1 ht'
      simp only at h1 h2
      exact hall s' (by omega) t' h2
end Go.Proofs.Ytahdihhhankhdaa.V
-- Vp
namespace Go.Proofs.Ytahdihhhankhdaa.V
open Go.Proofs.YtahdihhhankhdaaVY Go.RowKit
def asked (k : Kern) (lanes : Int) : Bool := isKern k && decide (1 ≤ lanes ∧ lanes ≤ 64)
def R14 : Ct := fun ss hp r out => ∃ (k : Kern) (lanes : Int), ss = [.v (.ag (k.c.map .d)), .di .i64 lanes] ∧ hp = [] ∧ k.bulk ≤ 4194304 ∧ r = .tup [.c (.d (.bool (asked k lanes && right k lanes))), .c (.d (.int .i64 (if asked k lanes then 0 else 2)))] ∧ out = []
set_option maxHeartbeats 4000000 in
theorem ok14 : VSound Try.prog (14, R14) := by
  refine vsound (T := ty) (F := [(57, R57), (58, R58)]) (pl := []) (nw := true) (cuts := []) mix tyOk (.cons (ok57) (.cons (ok58) .nil)) Try.func14 (by kernel_rfl) (by kernel_rfl) ?_
  rintro _ _ _ _ ⟨⟨ext, sets⟩, lanes, rfl, rfl, hm, rfl, rfl⟩
  conv => whnf
  refine ⟨[], false, false, ?_⟩
  conv => whnf
  refine ⟨_, _, ⟨⟨ext, sets⟩, rfl, rfl, hm, rfl, rfl⟩, ?_⟩
  conv => whnf
  (repeat' (first | ((with_reducible refine And.intro (fun (e : (_ : Bool) = true) => ?_) (fun (e : (_ : Bool) = false) => ?_)) <;> (try simp only [reduceCtorEq, ints_len, bools_len, bif_t, bif_f, zv0, zv1, zv2, zv3, zv4, zv5, zv6, zv7, zv8, zv9, zv10, zv11, zv12, zv13, zv14, zv15, zv16, zv17, zv18, zv19, zv20, zv21, zv22, zv23, zv24] at e) <;> (conv => whnf)) | (refine And.intro ?_ ?_; ((first | (with_reducible assumption) | (intro _; with_reducible assumption) | omega | (simp only [reduceCtorEq, ints_len, bools_len, bif_t, bif_f, zv0, zv1, zv2, zv3, zv4, zv5, zv6, zv7, zv8, zv9, zv10, zv11, zv12, zv13, zv14, zv15, zv16, zv17, zv18, zv19, zv20, zv21, zv22, zv23, zv24] at *; omega) | (intro hg; (try simp only [reduceCtorEq, ints_len, bools_len, bif_t, bif_f, zv0, zv1, zv2, zv3, zv4, zv5, zv6, zv7, zv8, zv9, zv10, zv11, zv12, zv13, zv14, zv15, zv16, zv17, zv18, zv19, zv20, zv21, zv22, zv23, zv24] at hg); first | (with_reducible assumption) | omega | (simp only [reduceCtorEq, ints_len, bools_len, bif_t, bif_f, zv0, zv1, zv2, zv3, zv4, zv5, zv6, zv7, zv8, zv9, zv10, zv11, zv12, zv13, zv14, zv15, zv16, zv17, zv18, zv19, zv20, zv21, zv22, zv23, zv24] at *; omega) | (refine ⟨?_, ?_⟩ <;> omega)) | (refine ⟨?_, ?_⟩ <;> omega) | (simp [*]; done) | grind)); (conv => whnf))))
  · have e1 := e
    refine ⟨[], ?_⟩
    conv => whnf
    have ha : asked ⟨ext, sets⟩ lanes = false := by
      cases hh : asked ⟨ext, sets⟩ lanes with
      | false => rfl
      | true =>
        exfalso
        unfold asked isKern at hh
        simp only [Bool.and_eq_true, decide_eq_true_eq] at hh
        obtain ⟨⟨h1, h2, h3⟩, h4, h5⟩ := hh
        rcases e1 with ((e | e) | e) | e
        · rw [h1] at e; cases e
        · exact e h2 h3
        · omega
        · omega
    rw [ha]
    exact ⟨[], .nil, .nil, .cons rfl (.cons rfl .nil)⟩
  · have e1 := e
    have ha : asked ⟨ext, sets⟩ lanes = true := by
      unfold asked isKern
      simp only [Bool.and_eq_true, decide_eq_true_eq]
      exact ⟨⟨e1.1.1.1, e1.1.1.2⟩, e1.1.2, e1.2⟩
    have hf : formed ⟨ext, sets⟩ = true := by
      unfold asked isKern at ha
      simp only [Bool.and_eq_true] at ha
      exact ha.1.1
    have hl : 1 ≤ lanes := by
      unfold asked at ha
      simp only [Bool.and_eq_true, decide_eq_true_eq] at ha
      exact ha.2.1
    refine ⟨[], false, false, ?_⟩
    conv => whnf
    refine ⟨_, _, ⟨⟨ext, sets⟩, lanes, rfl, rfl, hm, hf, hl, rfl, rfl⟩, ?_⟩
    conv => whnf
    refine ⟨[], ?_⟩
    conv => whnf
    rw [ha]
    exact ⟨[], .nil, .nil, .cons rfl (.cons rfl .nil)⟩
/-- example 1 -/
def K0 : Kern := ⟨[6], [⟨⟨0, 2, [1]⟩, [], .mk ⟨#[108, 111, 97, 100]⟩ 1 0 ⟨0, 0, [1]⟩ []⟩]⟩
theorem k0_2 : (asked K0 2 && right K0 2) = true := by decide +kernel
theorem k0_3 : (asked K0 3 && right K0 3) = false := by decide +kernel
theorem k0_a2 : (if asked K0 2 then (0 : Int) else 2) = 0 := by decide +kernel
theorem k0_a3 : (if asked K0 3 then (0 : Int) else 2) = 0 := by decide +kernel
def R16 : Ct := fun ss hp r out => ss = [] ∧ hp = [] ∧ r = .db true ∧ out = []
set_option maxHeartbeats 4000000 in
theorem ok16 : VSound Try.prog (16, R16) := by
  refine vsound (T := ty) (F := [(14, R14)]) (pl := []) (nw := true) (cuts := []) mix tyOk (.cons (ok14) .nil) Try.func16 (by kernel_rfl) (by kernel_rfl) ?_
  rintro _ _ _ _ ⟨rfl, rfl, rfl, rfl⟩
  conv => whnf
  refine ⟨[], false, true, ?_⟩
  conv => whnf
  refine ⟨_, _, ⟨K0, 2, rfl, rfl, by decide +kernel, rfl, rfl⟩, ?_⟩
  rw [k0_2, k0_a2]
  conv => whnf
  refine ⟨[], false, true, ?_⟩
  conv => whnf
  refine ⟨_, _, ⟨K0, 3, rfl, rfl, by decide +kernel, rfl, rfl⟩, ?_⟩
  rw [k0_3, k0_a3]
  conv => whnf
  (repeat' (first | ((with_reducible refine And.intro (fun (e : (_ : Bool) = true) => ?_) (fun (e : (_ : Bool) = false) => ?_)) <;> (try simp only [reduceCtorEq, ints_len, bools_len, bif_t, bif_f, zv0, zv1, zv2, zv3, zv4, zv5, zv6, zv7, zv8, zv9, zv10, zv11, zv12, zv13, zv14, zv15, zv16, zv17, zv18, zv19, zv20, zv21, zv22, zv23, zv24] at e) <;> (conv => whnf)) | (refine And.intro ?_ ?_; ((first | (with_reducible assumption) | (intro _; with_reducible assumption) | omega | (simp only [reduceCtorEq, ints_len, bools_len, bif_t, bif_f, zv0, zv1, zv2, zv3, zv4, zv5, zv6, zv7, zv8, zv9, zv10, zv11, zv12, zv13, zv14, zv15, zv16, zv17, zv18, zv19, zv20, zv21, zv22, zv23, zv24] at *; omega) | (intro hg; (try simp only [reduceCtorEq, ints_len, bools_len, bif_t, bif_f, zv0, zv1, zv2, zv3, zv4, zv5, zv6, zv7, zv8, zv9, zv10, zv11, zv12, zv13, zv14, zv15, zv16, zv17, zv18, zv19, zv20, zv21, zv22, zv23, zv24] at hg); first | (with_reducible assumption) | omega | (simp only [reduceCtorEq, ints_len, bools_len, bif_t, bif_f, zv0, zv1, zv2, zv3, zv4, zv5, zv6, zv7, zv8, zv9, zv10, zv11, zv12, zv13, zv14, zv15, zv16, zv17, zv18, zv19, zv20, zv21, zv22, zv23, zv24] at *; omega) | (refine ⟨?_, ?_⟩ <;> omega)) | (refine ⟨?_, ?_⟩ <;> omega) | (simp [*]; done) | grind)); (conv => whnf))))
  all_goals first | ((refine ⟨[], ?_⟩; (conv => whnf); refine ⟨[], .nil, .nil, ?_⟩; (conv => whnf)); done) | ((refine ⟨[], ?_⟩; (conv => whnf); refine ⟨[], .nil, .nil, ?_⟩; (conv => whnf)); rfl) | skip
end Go.Proofs.Ytahdihhhankhdaa.V
-- Vgs
namespace Go.Proofs.Ytahdihhhankhdaa.V
open Go.Proofs.YtahdihhhankhdaaVY Go.RowKit
theorem grpN_small (k : Int) : ∀ i, ∀ g ∈ (grpN k i).1, g.length ≤ i
  | 0 => by simp [grpN]
  | i + 1 => by
    have ih := grpN_small k i
    have hl := grpN_len k i
    intro g hg
    rw [grpN] at hg
    split at hg
    · split at hg
      · simp at hg
      · rcases List.mem_append.1 hg with h | h
        · have := ih g h; omega
        · rw [List.mem_singleton.1 h]; omega
    · have := ih g hg; omega
theorem grpOf_small (l : List Int) (k : Int) : (grpOf l k).length ≤ 401 ∧ ∀ g ∈ grpOf l k, g.length ≤ 400 := by
  unfold grpOf
  split
  · rename_i h
    unfold grpOk at h
    simp only [Bool.and_eq_true, decide_eq_true_eq] at h
    have hm := many_prod h.1
    have h4 : (many l).toNat ≤ 400 := by omega
    unfold groups
    split
    · simp
    · have h1 := grpN_len k (many l).toNat
      have h2 := grpN_small k (many l).toNat
      refine ⟨by rw [List.length_append, List.length_singleton]; omega, fun g hg => ?_⟩
      rcases List.mem_append.1 hg with h | h
      · have := h2 g h; omega
      · rw [List.mem_singleton.1 h]; omega
  · simp
def R6 : Ct := fun ss hp r out => ∃ (l : List Int) (k : Int), ss = [.one (.d (.sl 1 (l.map inC))), .di .i64 k] ∧ hp = [] ∧ r = .db true ∧ out = []
set_option maxHeartbeats 4000000 in
theorem ok6 : VSound Try.prog (6, R6) := by
  refine vsound (T := ty) (F := [(16, R16), (22, R22), (23, R23), (24, R23)]) (pl := [(10, [[], [], [0, 1], [0, 1, 2], [], [], [4, 5], [4, 5, 6], [0, 1, 2, 3, 4, 5, 6, 7], [0, 1, 2, 3, 4, 5, 6, 7, 8]], .look 0 (.look 1 (.look 2 (.look 3 (.look 4 (.look 5 (.look 6 (.look 7 (.act 8 [] (.look 9 .done) .stop)))))))))]) (nw := true) (cuts := []) mix tyOk (.cons (ok16) (.cons (ok22) (.cons (ok23) (.cons (ok24) .nil)))) Try.func6 (by kernel_rfl) (by kernel_rfl) ?_
  rintro _ _ _ _ ⟨l, k, rfl, rfl, rfl, rfl⟩
  have hsm := grpOf_small l k
  conv => whnf
  ((with_reducible refine And.intro (fun (e : (_ : Bool) = true) => ?_) (fun (e : (_ : Bool) = false) => ?_)) <;> (try simp only [reduceCtorEq, ints_len, bools_len, bif_t, bif_f, zv0, zv1, zv2, zv3, zv4, zv5, zv6, zv7, zv8, zv9, zv10, zv11, zv12, zv13, zv14, zv15, zv16, zv17, zv18, zv19, zv20, zv21, zv22, zv23, zv24] at e) <;> (conv => whnf))
  · (refine ⟨[], false, false, ?_⟩; (conv => whnf); refine ⟨_, _, ⟨rfl, rfl, rfl, rfl⟩, ?_⟩; (conv => whnf))
    (refine ⟨[], ?_⟩; (conv => whnf); refine ⟨[], .nil, .nil, ?_⟩; (conv => whnf))
  · (refine ⟨[], false, false, ?_⟩; (conv => whnf); refine ⟨_, _, ⟨l, k, rfl, rfl, by omega, rfl, rfl⟩, ?_⟩; (conv => whnf))
    (refine ⟨[], false, false, ?_⟩; (conv => whnf); refine ⟨_, _, ⟨l, k, rfl, rfl, by omega, rfl, rfl⟩, ?_⟩; (conv => whnf))
    generalize grpOf l k = G at *
    generalize grpErr l k = E1 at *
    (repeat' (first | ((with_reducible refine And.intro (fun (e : (_ : Bool) = true) => ?_) (fun (e : (_ : Bool) = false) => ?_)) <;> (try simp only [reduceCtorEq, ints_len, bools_len, bif_t, bif_f, zv0, zv1, zv2, zv3, zv4, zv5, zv6, zv7, zv8, zv9, zv10, zv11, zv12, zv13, zv14, zv15, zv16, zv17, zv18, zv19, zv20, zv21, zv22, zv23, zv24] at e) <;> (conv => whnf)) | ((with_reducible refine And.intro (fun (e : (_ : Bool) = false) => ?_) (fun (e : (_ : Bool) = true) => ?_)) <;> (try simp only [reduceCtorEq, ints_len, bools_len, bif_t, bif_f, zv0, zv1, zv2, zv3, zv4, zv5, zv6, zv7, zv8, zv9, zv10, zv11, zv12, zv13, zv14, zv15, zv16, zv17, zv18, zv19, zv20, zv21, zv22, zv23, zv24] at e) <;> (conv => whnf)) | (refine And.intro ?_ ?_; ((first | (with_reducible assumption) | (intro _; with_reducible assumption) | omega | (simp only [reduceCtorEq, ints_len, bools_len, bif_t, bif_f, zv0, zv1, zv2, zv3, zv4, zv5, zv6, zv7, zv8, zv9, zv10, zv11, zv12, zv13, zv14, zv15, zv16, zv17, zv18, zv19, zv20, zv21, zv22, zv23, zv24] at *; omega) | (intro hg; (try simp only [reduceCtorEq, ints_len, bools_len, bif_t, bif_f, zv0, zv1, zv2, zv3, zv4, zv5, zv6, zv7, zv8, zv9, zv10, zv11, zv12, zv13, zv14, zv15, zv16, zv17, zv18, zv19, zv20, zv21, zv22, zv23, zv24] at hg); first | (with_reducible assumption) | omega | (simp only [reduceCtorEq, ints_len, bools_len, bif_t, bif_f, zv0, zv1, zv2, zv3, zv4, zv5, zv6, zv7, zv8, zv9, zv10, zv11, zv12, zv13, zv14, zv15, zv16, zv17, zv18, zv19, zv20, zv21, zv22, zv23, zv24] at *; omega) | (refine ⟨?_, ?_⟩ <;> omega)) | (refine ⟨?_, ?_⟩ <;> omega) | (simp [*]; done) | grind)); (conv => whnf))))
    · exfalso; simp at e
    · clear e
      refine ⟨[], [5, 7, 9], 2, fun n1 σ => ∃ i : Nat, i ≤ G.length ∧ n1 = G.length - i ∧ σ = (⟨[.junk, .junk, .junk, .junk, .junk, .one (.own 0), .junk, .one (.own 1), .junk, .di .i64 i, .junk, .junk, .junk, .junk, .junk, .junk, .junk, .junk, .junk, .junk, .junk, .junk, .junk, .junk, .junk, .junk, .junk, .junk, .junk, .junk, .junk, .junk, .junk, .junk, .junk, .junk, .junk, .junk, .junk, .junk, .junk, .junk, .junk, .junk, .junk, .junk, .junk, .junk, .junk, .junk, .junk, .junk, .junk], [.row 1 (G.map rowC), .row 1 (G.map rowC)]⟩ : St), ?_, ?_⟩
      · refine ⟨G.length, ?_⟩
        conv => whnf
        exact ⟨0, by omega, by omega, rfl⟩
      · rintro n1 _ ⟨i, hi, rfl, rfl⟩
        conv => whnf
        rw [List.length_map]
        ((with_reducible refine And.intro (fun (e : (_ : Bool) = true) => ?_) (fun (e : (_ : Bool) = false) => ?_)) <;> (try simp only [reduceCtorEq, ints_len, bools_len, bif_t, bif_f, zv0, zv1, zv2, zv3, zv4, zv5, zv6, zv7, zv8, zv9, zv10, zv11, zv12, zv13, zv14, zv15, zv16, zv17, zv18, zv19, zv20, zv21, zv22, zv23, zv24] at e) <;> (conv => whnf))
        · obtain ⟨x, hx⟩ := get_lt (l := G) (i := i) (by omega)
          have hxs := hsm.2 x (List.mem_of_getElem? hx)
          have hgx : (G.map rowC)[i]? = some (rowC x) := by rw [List.getElem?_map, hx]; rfl
          have hb : 0 ≤ (i : Int) ∧ (i : Int).toNat < (G.map rowC).length := ⟨by omega, by rw [List.length_map, Int.toNat_natCast]; omega⟩
          refine And.intro hb ?_
          conv => whnf
          rw [Int.toNat_natCast]
          refine ⟨_, And.intro hgx ?_⟩
          conv => whnf
          refine And.intro hb ?_
          conv => whnf
          rw [Int.toNat_natCast]
          refine ⟨_, And.intro hgx ?_⟩
          conv => whnf
          (refine ⟨[], false, false, ?_⟩; (conv => whnf); refine ⟨_, _, ⟨x, x, rfl, rfl, by omega, rfl, rfl⟩, ?_⟩; (conv => whnf))
          rw [decide_eq_true (rfl : x = x)]
          ((first | refine And.intro (fun _ => ?_) (fun h => absurd h (by decide)) | refine And.intro (fun h => absurd h (by decide)) (fun _ => ?_)); (conv => whnf))
          (refine And.intro ?_ ?_; ((first | (with_reducible assumption) | (intro _; with_reducible assumption) | omega | (simp only [reduceCtorEq, ints_len, bools_len, bif_t, bif_f, zv0, zv1, zv2, zv3, zv4, zv5, zv6, zv7, zv8, zv9, zv10, zv11, zv12, zv13, zv14, zv15, zv16, zv17, zv18, zv19, zv20, zv21, zv22, zv23, zv24] at *; omega) | (intro hg; (try simp only [reduceCtorEq, ints_len, bools_len, bif_t, bif_f, zv0, zv1, zv2, zv3, zv4, zv5, zv6, zv7, zv8, zv9, zv10, zv11, zv12, zv13, zv14, zv15, zv16, zv17, zv18, zv19, zv20, zv21, zv22, zv23, zv24] at hg); first | (with_reducible assumption) | omega | (simp only [reduceCtorEq, ints_len, bools_len, bif_t, bif_f, zv0, zv1, zv2, zv3, zv4, zv5, zv6, zv7, zv8, zv9, zv10, zv11, zv12, zv13, zv14, zv15, zv16, zv17, zv18, zv19, zv20, zv21, zv22, zv23, zv24] at *; omega) | (refine ⟨?_, ?_⟩ <;> omega)) | (refine ⟨?_, ?_⟩ <;> omega) | (simp [*]; done) | grind)); (conv => whnf))
          refine ⟨G.length - (i + 1), by omega, [], ?_⟩
          conv => whnf
          exact ⟨i + 1, by omega, rfl, rfl⟩
        · (refine ⟨[], false, false, ?_⟩; (conv => whnf); refine ⟨_, _, ⟨rfl, rfl, rfl, rfl⟩, ?_⟩; (conv => whnf))
          (refine ⟨[], ?_⟩; (conv => whnf); refine ⟨[], .nil, .nil, ?_⟩; (conv => whnf))
end Go.Proofs.Ytahdihhhankhdaa.V
-- Vacc
namespace Go.Proofs.Ytahdihhhankhdaa.V
open Go.Proofs.YtahdihhhankhdaaVY Go.RowKit
theorem bulkAll_sum {H : Type} : ∀ l : List (DataW H), Rows.uptoBulkAll l = (l.map Rows.uptoBulk).sum
  | [] => by simp [Rows.uptoBulkAll]
  | d :: l => by rw [Rows.uptoBulkAll, bulkAll_sum l, List.map_cons, List.sum_cons]
theorem meas {H : Type} : Meas (H := H) Rows.uptoBulk where
  lit x := by cases x <;> simp [Rows.uptoBulk]
  str b := by simp [Rows.uptoBulk]
  nil := by simp [Rows.uptoBulk]
  slice es sp := by rw [Rows.uptoBulk, bulkAll_sum]; omega
  agg ps := by rw [Rows.uptoBulk, bulkAll_sum]; omega
theorem small_bd {H : Type} {ds : List (DataW H)} (h : Rows.uptoSmall H ds = true) : (ds.map Rows.uptoBulk).sum ≤ 1048576 := by
  rw [← bulkAll_sum]
  exact of_decide_eq_true h
theorem all2_map {α : Type} {enc : α → List D} {Q : List D → Prop} {B : α → Nat} {L : List (List D)} (h : ∀ e ∈ L, ∃ x, e = enc x ∧ B x ≤ dBs e) : ∃ l : List α, L = l.map enc ∧ (l.map B).sum ≤ dBL L := by
  induction L with
  | nil => exact ⟨[], rfl, Nat.zero_le _⟩
  | cons e L ih =>
    obtain ⟨b, rfl, hb⟩ := h e (List.mem_cons_self ..)
    obtain ⟨l, rfl, hl⟩ := ih fun x hx => h x (List.mem_cons_of_mem _ hx)
    exact ⟨b :: l, rfl, by rw [List.map_cons, List.sum_cons, dBL]; omega⟩
theorem sum_one {α : Type} : ∀ l : List α, (l.map fun _ => 1).sum = l.length
  | [] => rfl
  | x :: l => by rw [List.map_cons, List.sum_cons, sum_one l, List.length_cons, Nat.add_comm]
theorem sh_ints {m : Nat} {l : List D} (h : Sh Try.prog m 22 l) : ∃ x : List Int, l = [.sl 1 (x.map inC)] ∧ x.length + 1 ≤ dBs l := by
  obtain ⟨m', L, _, rfl, _, hL⟩ := sh_slice Try.underlying22 h
  obtain ⟨x, rfl, hx⟩ := all2_map (Q := fun _ => True) (enc := inC) (B := fun _ => 1) fun e he => by
    obtain ⟨n, hn, _⟩ := sh_int Try.underlying3 (hL e he)
    exact ⟨n, hn, by rw [hn]; simp [dBs, dB]⟩
  rw [sum_one] at hx
  exact ⟨x, by rw [show Try.prog.cellsOf 3 = 1 by kernel_rfl], by simp only [dBs, dB, Nat.add_zero]; omega⟩
end Go.Proofs.Ytahdihhhankhdaa.V
-- Vrow
namespace Go.Proofs.Ytahdihhhankhdaa.V
open Go.Proofs.YtahdihhhankhdaaVY Go.RowKit
theorem law_row {f : Nat} {R : Ct} (h : VSound Try.prog (f, R)) (he : enterB Try.prog f = true) {W : World} {args : Array Value} {ss : List S} (hG : GP (fun _ => False) W) (ha : All2 (SRel [] (fun _ => False) W) args.toList ss) (hR : R ss [] (.db true) []) :
    Calls Try.prog f args W fun e W' => e = .returned (.bool true) ∧ Below W.heap.size W W' := by
  have hn : ∀ b, ¬ Live [] [] b := by rintro b ⟨_, _, _, h, _⟩; simp at h
  have ha' : All2 (SRel [] (Av (fun _ => False) [] []) W) args.toList ss := ha.imp fun _ _ h => SRel.less (fun b hb => hb.elim id (hn b)) h
  have hp0 : HpRel (fun _ => False) [] [] W := ⟨rfl, fun _ _ _ h => by simp at h, fun _ _ _ _ _ _ _ h => by simp at h, fun b h => absurd h (hn b)⟩
  rcases h with ⟨ho, _⟩ | hx
  · refine (ho (fun _ => False) W args ss [] [] (.db true) [] hG (fun _ h => h.elim) hp0 (fun b h => absurd h (hn b)) ha' hR).mono ?_
    rintro e w' ⟨v, ρ, rfl, hs, hh, hg, hst, hsame, _⟩
    exact ⟨by rw [sdb_inv hs], hst.os, hst.tape, hst.output, hg, fun b hb => hsame b hb (hn b)⟩
  · obtain ⟨v, ρ, w', hrun, _⟩ := hx (fun _ => False) W args ss [] [] (.db true) [] hG (fun _ h => h.elim) hp0 ha' hR
    rw [run_enter (enterB_ok he) args] at hrun
    cases hrun
end Go.Proofs.Ytahdihhhankhdaa.V
