/-
  V: ContainsFunc, IndexFunc at the seat's types. By the session's own hand.
-/
import Derived.Test.YtahdihhhankhdaaVa
set_option linter.unusedVariables false
set_option linter.unusedSimpArgs false
set_option maxRecDepth 100000
set_option linter.all false
set_option linter.unnecessarySimpa false
set_option linter.deprecated false
namespace Go.Proofs.Ytahdihhhankhdaa.V
open Go.Proofs.YtahdihhhankhdaaVY Go.RowKit
def R109 (f : Nat) (Rf : Ct) : Ct := fun ss hp r out => ∃ (l : List Int) (caps : List Cap) (p : Int → Bool), ss = [.one (.d (.sl 1 (l.map inC))), .one (.fn f caps)] ∧ hp = [] ∧ l.length < 4611686018427387904 ∧ caps.all capFree = true ∧ (∀ x ∈ l, Rf (.di .i64 x :: caps.map fun c => .one c.toC) [] (.db (p x)) []) ∧ r = .di .i64 (idx p l) ∧ out = []
set_option maxHeartbeats 4000000 in
theorem ok109 (f : Nat) (Rf : Ct) (hf : VSound Try.prog (f, Rf)) : VSound Try.prog (109, R109 f Rf) := by
  refine vsound (T := ty) (F := [(f, Rf)]) (pl := []) (nw := true) (cuts := []) mix tyOk (.cons (hf) .nil) Try.func109 (by kernel_rfl) (by kernel_rfl) ?_
  rintro _ _ _ _ ⟨l, caps, p, rfl, rfl, hl, hc, hp, rfl, rfl⟩
  conv => whnf
  refine ⟨[], [0, 1, 7, 8], 0, fun n σ => ∃ i : Nat, i ≤ l.length ∧ n = l.length - i ∧ (∀ j < i, ∀ y, l[j]? = some y → p y = false) ∧ σ = (⟨[.one (.d (.sl 1 (l.map inC))), .one (.fn f caps), .junk, .junk, .junk, .junk, .junk, .di .i64 l.length, .di .i64 i, .junk, .junk, .junk, .junk, .junk, .junk, .junk, .junk, .junk, .junk], []⟩ : St), ?_, ?_⟩
  · refine ⟨l.length, ?_⟩
    conv => whnf
    rw [under_fn hc]
    conv => whnf
    exact ⟨0, by omega, by omega, by omega, by rw [map_len]; rfl⟩
  · rintro n _ ⟨i, hi, rfl, hb, rfl⟩
    conv => whnf
    ((with_reducible refine And.intro (fun (e : (_ : Bool) = true) => ?_) (fun (e : (_ : Bool) = false) => ?_)) <;> (try simp only [reduceCtorEq, ints_len, bools_len, Bool.not_false, Bool.not_true, List.length_map, decide_eq_true_eq, decide_eq_false_iff_not, Bool.not_eq_true', Bool.not_eq_false', Bool.and_eq_true, Bool.or_eq_true, Bool.and_eq_false_iff, Bool.or_eq_false_iff, beq_iff_eq, bne_iff_ne, beq_eq_false_iff_ne, bne_eq_false_iff_eq, Int.not_lt, Int.not_le, ge_iff_le, gt_iff_lt, not_or, not_and, Bool.cond_true_right, Bool.cond_true_left, Bool.cond_false_right, Bool.cond_false_left, bif_t, bif_f] at e) <;> (conv => whnf))
    · have hlt : i < l.length := by omega
      obtain ⟨x, hget⟩ := get_lt hlt
      refine ⟨_, And.intro ⟨?_, enc_get hget⟩ ?_⟩
      · omega
      obtain x := x
      conv => whnf
      rw [show (cx ty [(f, Rf)] []).fns f = some Rf from findF_self]
      conv => whnf
      refine ⟨[], false, false, ?_⟩
      conv => whnf
      refine lendCaps_id hc ?_
      conv => whnf
      refine ⟨_, _, hp _ (List.mem_of_getElem? hget), ?_⟩
      conv => whnf
      ((with_reducible refine And.intro (fun (e : (_ : Bool) = true) => ?_) (fun (e : (_ : Bool) = false) => ?_)) <;> (try simp only [reduceCtorEq, ints_len, bools_len, Bool.not_false, Bool.not_true, List.length_map, decide_eq_true_eq, decide_eq_false_iff_not, Bool.not_eq_true', Bool.not_eq_false', Bool.and_eq_true, Bool.or_eq_true, Bool.and_eq_false_iff, Bool.or_eq_false_iff, beq_iff_eq, bne_iff_ne, beq_eq_false_iff_ne, bne_eq_false_iff_eq, Int.not_lt, Int.not_le, ge_iff_le, gt_iff_lt, not_or, not_and, Bool.cond_true_right, Bool.cond_true_left, Bool.cond_false_right, Bool.cond_false_left, bif_t, bif_f] at e) <;> (conv => whnf))
      · (refine ⟨[], ?_⟩; (conv => whnf); refine ⟨[], .nil, .nil, ?_⟩; (conv => whnf))
        congr 1
        exact (idx_at hget e hb).symm
      · have he := e
        (refine And.intro ?_ ?_; ((first | (with_reducible assumption) | (intro _; with_reducible assumption) | omega | (simp only [reduceCtorEq, ints_len, bools_len, Bool.not_false, Bool.not_true, List.length_map, decide_eq_true_eq, decide_eq_false_iff_not, Bool.not_eq_true', Bool.not_eq_false', Bool.and_eq_true, Bool.or_eq_true, Bool.and_eq_false_iff, Bool.or_eq_false_iff, beq_iff_eq, bne_iff_ne, beq_eq_false_iff_ne, bne_eq_false_iff_eq, Int.not_lt, Int.not_le, ge_iff_le, gt_iff_lt, not_or, not_and, Bool.cond_true_right, Bool.cond_true_left, Bool.cond_false_right, Bool.cond_false_left, bif_t, bif_f] at *; omega) | (intro hg; (try simp only [reduceCtorEq, ints_len, bools_len, Bool.not_false, Bool.not_true, List.length_map, decide_eq_true_eq, decide_eq_false_iff_not, Bool.not_eq_true', Bool.not_eq_false', Bool.and_eq_true, Bool.or_eq_true, Bool.and_eq_false_iff, Bool.or_eq_false_iff, beq_iff_eq, bne_iff_ne, beq_eq_false_iff_ne, bne_eq_false_iff_eq, Int.not_lt, Int.not_le, ge_iff_le, gt_iff_lt, not_or, not_and, Bool.cond_true_right, Bool.cond_true_left, Bool.cond_false_right, Bool.cond_false_left, bif_t, bif_f] at hg); first | (with_reducible assumption) | omega | (simp only [reduceCtorEq, ints_len, bools_len, Bool.not_false, Bool.not_true, List.length_map, decide_eq_true_eq, decide_eq_false_iff_not, Bool.not_eq_true', Bool.not_eq_false', Bool.and_eq_true, Bool.or_eq_true, Bool.and_eq_false_iff, Bool.or_eq_false_iff, beq_iff_eq, bne_iff_ne, beq_eq_false_iff_ne, bne_eq_false_iff_eq, Int.not_lt, Int.not_le, ge_iff_le, gt_iff_lt, not_or, not_and, Bool.cond_true_right, Bool.cond_true_left, Bool.cond_false_right, Bool.cond_false_left, bif_t, bif_f] at *; omega) | (refine ⟨?_, ?_⟩ <;> omega)) | (refine ⟨?_, ?_⟩ <;> omega) | (simp [*]; done) | grind)); (conv => whnf))
        refine ⟨l.length - (i + 1), by omega, [], ?_⟩
        conv => whnf
        rw [under_fn hc]
        conv => whnf
        refine ⟨i + 1, by omega, rfl, fun j hj y hy => ?_, rfl⟩
        by_cases ej : j = i
        · subst ej; rw [hget] at hy; cases hy; exact he
        · exact hb j (by omega) y hy
    · (refine ⟨[], ?_⟩; (conv => whnf); refine ⟨[], .nil, .nil, ?_⟩; (conv => whnf))
      congr 1
      refine (idx_none fun y hy => ?_).symm
      obtain ⟨j, hj⟩ := List.getElem?_of_mem hy
      have := (List.getElem?_eq_some_iff.1 hj).1
      exact hb j (by omega) y hj
def R75 (f : Nat) (Rf : Ct) : Ct := fun ss hp r out => ∃ (l : List Int) (caps : List Cap) (p : Int → Bool), ss = [.one (.d (.sl 1 (l.map inC))), .one (.fn f caps)] ∧ hp = [] ∧ l.length < 4611686018427387904 ∧ caps.all capFree = true ∧ (∀ x ∈ l, Rf (.di .i64 x :: caps.map fun c => .one c.toC) [] (.db (p x)) []) ∧ r = .db (l.any p) ∧ out = []
set_option maxHeartbeats 4000000 in
theorem ok75 (f : Nat) (Rf : Ct) (hf : VSound Try.prog (f, Rf)) : VSound Try.prog (75, R75 f Rf) := by
  refine vsound (T := ty) (F := [(109, R109 f Rf)]) (pl := []) (nw := true) (cuts := []) mix tyOk (.cons (ok109 f Rf hf) .nil) Try.func75 (by kernel_rfl) (by kernel_rfl) ?_
  rintro _ _ _ _ ⟨l, caps, p, rfl, rfl, hl, hc, hp, rfl, rfl⟩
  conv => whnf
  refine ⟨[], false, false, ?_⟩
  conv => whnf
  refine lendCaps_id hc ?_
  conv => whnf
  refine ⟨_, _, ⟨l, caps, p, rfl, rfl, hl, hc, hp, rfl, rfl⟩, ?_⟩
  conv => whnf
  (refine ⟨[], ?_⟩; (conv => whnf); refine ⟨[], .nil, .nil, ?_⟩; (conv => whnf))
  congr 1
  exact idx_any p l
def R127 (f : Nat) (Rf : Ct) : Ct := fun ss hp r out => ∃ (l : List Ref) (caps : List Cap) (p : Ref → Bool), ss = [.one (.d (.sl 3 (l.map Ref.c))), .one (.fn f caps)] ∧ hp = [] ∧ l.length < 4611686018427387904 ∧ caps.all capFree = true ∧ (∀ x ∈ l, Rf (.v (.ag (x.c.map .d)) :: caps.map fun c => .one c.toC) [] (.db (p x)) []) ∧ r = .di .i64 (idx p l) ∧ out = []
set_option maxHeartbeats 4000000 in
theorem ok127 (f : Nat) (Rf : Ct) (hf : VSound Try.prog (f, Rf)) : VSound Try.prog (127, R127 f Rf) := by
  refine vsound (T := ty) (F := [(f, Rf)]) (pl := []) (nw := true) (cuts := []) mix tyOk (.cons (hf) .nil) Try.func127 (by kernel_rfl) (by kernel_rfl) ?_
  rintro _ _ _ _ ⟨l, caps, p, rfl, rfl, hl, hc, hp, rfl, rfl⟩
  conv => whnf
  refine ⟨[], [0, 1, 7, 8], 0, fun n σ => ∃ i : Nat, i ≤ l.length ∧ n = l.length - i ∧ (∀ j < i, ∀ y, l[j]? = some y → p y = false) ∧ σ = (⟨[.one (.d (.sl 3 (l.map Ref.c))), .one (.fn f caps), .junk, .junk, .junk, .junk, .junk, .di .i64 l.length, .di .i64 i, .junk, .junk, .junk, .junk, .junk, .junk, .junk, .junk, .junk, .junk], []⟩ : St), ?_, ?_⟩
  · refine ⟨l.length, ?_⟩
    conv => whnf
    rw [under_fn hc]
    conv => whnf
    exact ⟨0, by omega, by omega, by omega, by rw [map_len]; rfl⟩
  · rintro n _ ⟨i, hi, rfl, hb, rfl⟩
    conv => whnf
    ((with_reducible refine And.intro (fun (e : (_ : Bool) = true) => ?_) (fun (e : (_ : Bool) = false) => ?_)) <;> (try simp only [reduceCtorEq, ints_len, bools_len, Bool.not_false, Bool.not_true, List.length_map, decide_eq_true_eq, decide_eq_false_iff_not, Bool.not_eq_true', Bool.not_eq_false', Bool.and_eq_true, Bool.or_eq_true, Bool.and_eq_false_iff, Bool.or_eq_false_iff, beq_iff_eq, bne_iff_ne, beq_eq_false_iff_ne, bne_eq_false_iff_eq, Int.not_lt, Int.not_le, ge_iff_le, gt_iff_lt, not_or, not_and, Bool.cond_true_right, Bool.cond_true_left, Bool.cond_false_right, Bool.cond_false_left, bif_t, bif_f] at e) <;> (conv => whnf))
    · have hlt : i < l.length := by omega
      obtain ⟨x, hget⟩ := get_lt hlt
      refine ⟨_, And.intro ⟨?_, enc_get hget⟩ ?_⟩
      · omega
      obtain ⟨xa, xb, xs⟩ := x
      conv => whnf
      rw [show (cx ty [(f, Rf)] []).fns f = some Rf from findF_self]
      conv => whnf
      refine ⟨[], false, false, ?_⟩
      conv => whnf
      refine lendCaps_id hc ?_
      conv => whnf
      refine ⟨_, _, hp _ (List.mem_of_getElem? hget), ?_⟩
      conv => whnf
      ((with_reducible refine And.intro (fun (e : (_ : Bool) = true) => ?_) (fun (e : (_ : Bool) = false) => ?_)) <;> (try simp only [reduceCtorEq, ints_len, bools_len, Bool.not_false, Bool.not_true, List.length_map, decide_eq_true_eq, decide_eq_false_iff_not, Bool.not_eq_true', Bool.not_eq_false', Bool.and_eq_true, Bool.or_eq_true, Bool.and_eq_false_iff, Bool.or_eq_false_iff, beq_iff_eq, bne_iff_ne, beq_eq_false_iff_ne, bne_eq_false_iff_eq, Int.not_lt, Int.not_le, ge_iff_le, gt_iff_lt, not_or, not_and, Bool.cond_true_right, Bool.cond_true_left, Bool.cond_false_right, Bool.cond_false_left, bif_t, bif_f] at e) <;> (conv => whnf))
      · (refine ⟨[], ?_⟩; (conv => whnf); refine ⟨[], .nil, .nil, ?_⟩; (conv => whnf))
        congr 1
        exact (idx_at hget e hb).symm
      · have he := e
        (refine And.intro ?_ ?_; ((first | (with_reducible assumption) | (intro _; with_reducible assumption) | omega | (simp only [reduceCtorEq, ints_len, bools_len, Bool.not_false, Bool.not_true, List.length_map, decide_eq_true_eq, decide_eq_false_iff_not, Bool.not_eq_true', Bool.not_eq_false', Bool.and_eq_true, Bool.or_eq_true, Bool.and_eq_false_iff, Bool.or_eq_false_iff, beq_iff_eq, bne_iff_ne, beq_eq_false_iff_ne, bne_eq_false_iff_eq, Int.not_lt, Int.not_le, ge_iff_le, gt_iff_lt, not_or, not_and, Bool.cond_true_right, Bool.cond_true_left, Bool.cond_false_right, Bool.cond_false_left, bif_t, bif_f] at *; omega) | (intro hg; (try simp only [reduceCtorEq, ints_len, bools_len, Bool.not_false, Bool.not_true, List.length_map, decide_eq_true_eq, decide_eq_false_iff_not, Bool.not_eq_true', Bool.not_eq_false', Bool.and_eq_true, Bool.or_eq_true, Bool.and_eq_false_iff, Bool.or_eq_false_iff, beq_iff_eq, bne_iff_ne, beq_eq_false_iff_ne, bne_eq_false_iff_eq, Int.not_lt, Int.not_le, ge_iff_le, gt_iff_lt, not_or, not_and, Bool.cond_true_right, Bool.cond_true_left, Bool.cond_false_right, Bool.cond_false_left, bif_t, bif_f] at hg); first | (with_reducible assumption) | omega | (simp only [reduceCtorEq, ints_len, bools_len, Bool.not_false, Bool.not_true, List.length_map, decide_eq_true_eq, decide_eq_false_iff_not, Bool.not_eq_true', Bool.not_eq_false', Bool.and_eq_true, Bool.or_eq_true, Bool.and_eq_false_iff, Bool.or_eq_false_iff, beq_iff_eq, bne_iff_ne, beq_eq_false_iff_ne, bne_eq_false_iff_eq, Int.not_lt, Int.not_le, ge_iff_le, gt_iff_lt, not_or, not_and, Bool.cond_true_right, Bool.cond_true_left, Bool.cond_false_right, Bool.cond_false_left, bif_t, bif_f] at *; omega) | (refine ⟨?_, ?_⟩ <;> omega)) | (refine ⟨?_, ?_⟩ <;> omega) | (simp [*]; done) | grind)); (conv => whnf))
        refine ⟨l.length - (i + 1), by omega, [], ?_⟩
        conv => whnf
        rw [under_fn hc]
        conv => whnf
        refine ⟨i + 1, by omega, rfl, fun j hj y hy => ?_, rfl⟩
        by_cases ej : j = i
        · subst ej; rw [hget] at hy; cases hy; exact he
        · exact hb j (by omega) y hy
    · (refine ⟨[], ?_⟩; (conv => whnf); refine ⟨[], .nil, .nil, ?_⟩; (conv => whnf))
      congr 1
      refine (idx_none fun y hy => ?_).symm
      obtain ⟨j, hj⟩ := List.getElem?_of_mem hy
      have := (List.getElem?_eq_some_iff.1 hj).1
      exact hb j (by omega) y hj
def R97 (f : Nat) (Rf : Ct) : Ct := fun ss hp r out => ∃ (l : List Ref) (caps : List Cap) (p : Ref → Bool), ss = [.one (.d (.sl 3 (l.map Ref.c))), .one (.fn f caps)] ∧ hp = [] ∧ l.length < 4611686018427387904 ∧ caps.all capFree = true ∧ (∀ x ∈ l, Rf (.v (.ag (x.c.map .d)) :: caps.map fun c => .one c.toC) [] (.db (p x)) []) ∧ r = .db (l.any p) ∧ out = []
set_option maxHeartbeats 4000000 in
theorem ok97 (f : Nat) (Rf : Ct) (hf : VSound Try.prog (f, Rf)) : VSound Try.prog (97, R97 f Rf) := by
  refine vsound (T := ty) (F := [(127, R127 f Rf)]) (pl := []) (nw := true) (cuts := []) mix tyOk (.cons (ok127 f Rf hf) .nil) Try.func97 (by kernel_rfl) (by kernel_rfl) ?_
  rintro _ _ _ _ ⟨l, caps, p, rfl, rfl, hl, hc, hp, rfl, rfl⟩
  conv => whnf
  refine ⟨[], false, false, ?_⟩
  conv => whnf
  refine lendCaps_id hc ?_
  conv => whnf
  refine ⟨_, _, ⟨l, caps, p, rfl, rfl, hl, hc, hp, rfl, rfl⟩, ?_⟩
  conv => whnf
  (refine ⟨[], ?_⟩; (conv => whnf); refine ⟨[], .nil, .nil, ?_⟩; (conv => whnf))
  congr 1
  exact idx_any p l
def R142 (f : Nat) (Rf : Ct) : Ct := fun ss hp r out => ∃ (l : List (Int × Int)) (caps : List Cap) (p : (Int × Int) → Bool), ss = [.one (.d (.sl 2 (l.map prC))), .one (.fn f caps)] ∧ hp = [] ∧ l.length < 4611686018427387904 ∧ caps.all capFree = true ∧ (∀ x ∈ l, Rf (.v (.ag [.d (.int .i64 x.1), .d (.int .i64 x.2)]) :: caps.map fun c => .one c.toC) [] (.db (p x)) []) ∧ r = .di .i64 (idx p l) ∧ out = []
set_option maxHeartbeats 4000000 in
theorem ok142 (f : Nat) (Rf : Ct) (hf : VSound Try.prog (f, Rf)) : VSound Try.prog (142, R142 f Rf) := by
  refine vsound (T := ty) (F := [(f, Rf)]) (pl := []) (nw := true) (cuts := []) mix tyOk (.cons (hf) .nil) Try.func142 (by kernel_rfl) (by kernel_rfl) ?_
  rintro _ _ _ _ ⟨l, caps, p, rfl, rfl, hl, hc, hp, rfl, rfl⟩
  conv => whnf
  refine ⟨[], [0, 1, 7, 8], 0, fun n σ => ∃ i : Nat, i ≤ l.length ∧ n = l.length - i ∧ (∀ j < i, ∀ y, l[j]? = some y → p y = false) ∧ σ = (⟨[.one (.d (.sl 2 (l.map prC))), .one (.fn f caps), .junk, .junk, .junk, .junk, .junk, .di .i64 l.length, .di .i64 i, .junk, .junk, .junk, .junk, .junk, .junk, .junk, .junk, .junk, .junk], []⟩ : St), ?_, ?_⟩
  · refine ⟨l.length, ?_⟩
    conv => whnf
    rw [under_fn hc]
    conv => whnf
    exact ⟨0, by omega, by omega, by omega, by rw [map_len]; rfl⟩
  · rintro n _ ⟨i, hi, rfl, hb, rfl⟩
    conv => whnf
    ((with_reducible refine And.intro (fun (e : (_ : Bool) = true) => ?_) (fun (e : (_ : Bool) = false) => ?_)) <;> (try simp only [reduceCtorEq, ints_len, bools_len, Bool.not_false, Bool.not_true, List.length_map, decide_eq_true_eq, decide_eq_false_iff_not, Bool.not_eq_true', Bool.not_eq_false', Bool.and_eq_true, Bool.or_eq_true, Bool.and_eq_false_iff, Bool.or_eq_false_iff, beq_iff_eq, bne_iff_ne, beq_eq_false_iff_ne, bne_eq_false_iff_eq, Int.not_lt, Int.not_le, ge_iff_le, gt_iff_lt, not_or, not_and, Bool.cond_true_right, Bool.cond_true_left, Bool.cond_false_right, Bool.cond_false_left, bif_t, bif_f] at e) <;> (conv => whnf))
    · have hlt : i < l.length := by omega
      obtain ⟨x, hget⟩ := get_lt hlt
      refine ⟨_, And.intro ⟨?_, enc_get hget⟩ ?_⟩
      · omega
      obtain ⟨xa, xb⟩ := x
      conv => whnf
      rw [show (cx ty [(f, Rf)] []).fns f = some Rf from findF_self]
      conv => whnf
      refine ⟨[], false, false, ?_⟩
      conv => whnf
      refine lendCaps_id hc ?_
      conv => whnf
      refine ⟨_, _, hp _ (List.mem_of_getElem? hget), ?_⟩
      conv => whnf
      ((with_reducible refine And.intro (fun (e : (_ : Bool) = true) => ?_) (fun (e : (_ : Bool) = false) => ?_)) <;> (try simp only [reduceCtorEq, ints_len, bools_len, Bool.not_false, Bool.not_true, List.length_map, decide_eq_true_eq, decide_eq_false_iff_not, Bool.not_eq_true', Bool.not_eq_false', Bool.and_eq_true, Bool.or_eq_true, Bool.and_eq_false_iff, Bool.or_eq_false_iff, beq_iff_eq, bne_iff_ne, beq_eq_false_iff_ne, bne_eq_false_iff_eq, Int.not_lt, Int.not_le, ge_iff_le, gt_iff_lt, not_or, not_and, Bool.cond_true_right, Bool.cond_true_left, Bool.cond_false_right, Bool.cond_false_left, bif_t, bif_f] at e) <;> (conv => whnf))
      · (refine ⟨[], ?_⟩; (conv => whnf); refine ⟨[], .nil, .nil, ?_⟩; (conv => whnf))
        congr 1
        exact (idx_at hget e hb).symm
      · have he := e
        (refine And.intro ?_ ?_; ((first | (with_reducible assumption) | (intro _; with_reducible assumption) | omega | (simp only [reduceCtorEq, ints_len, bools_len, Bool.not_false, Bool.not_true, List.length_map, decide_eq_true_eq, decide_eq_false_iff_not, Bool.not_eq_true', Bool.not_eq_false', Bool.and_eq_true, Bool.or_eq_true, Bool.and_eq_false_iff, Bool.or_eq_false_iff, beq_iff_eq, bne_iff_ne, beq_eq_false_iff_ne, bne_eq_false_iff_eq, Int.not_lt, Int.not_le, ge_iff_le, gt_iff_lt, not_or, not_and, Bool.cond_true_right, Bool.cond_true_left, Bool.cond_false_right, Bool.cond_false_left, bif_t, bif_f] at *; omega) | (intro hg; (try simp only [reduceCtorEq, ints_len, bools_len, Bool.not_false, Bool.not_true, List.length_map, decide_eq_true_eq, decide_eq_false_iff_not, Bool.not_eq_true', Bool.not_eq_false', Bool.and_eq_true, Bool.or_eq_true, Bool.and_eq_false_iff, Bool.or_eq_false_iff, beq_iff_eq, bne_iff_ne, beq_eq_false_iff_ne, bne_eq_false_iff_eq, Int.not_lt, Int.not_le, ge_iff_le, gt_iff_lt, not_or, not_and, Bool.cond_true_right, Bool.cond_true_left, Bool.cond_false_right, Bool.cond_false_left, bif_t, bif_f] at hg); first | (with_reducible assumption) | omega | (simp only [reduceCtorEq, ints_len, bools_len, Bool.not_false, Bool.not_true, List.length_map, decide_eq_true_eq, decide_eq_false_iff_not, Bool.not_eq_true', Bool.not_eq_false', Bool.and_eq_true, Bool.or_eq_true, Bool.and_eq_false_iff, Bool.or_eq_false_iff, beq_iff_eq, bne_iff_ne, beq_eq_false_iff_ne, bne_eq_false_iff_eq, Int.not_lt, Int.not_le, ge_iff_le, gt_iff_lt, not_or, not_and, Bool.cond_true_right, Bool.cond_true_left, Bool.cond_false_right, Bool.cond_false_left, bif_t, bif_f] at *; omega) | (refine ⟨?_, ?_⟩ <;> omega)) | (refine ⟨?_, ?_⟩ <;> omega) | (simp [*]; done) | grind)); (conv => whnf))
        refine ⟨l.length - (i + 1), by omega, [], ?_⟩
        conv => whnf
        rw [under_fn hc]
        conv => whnf
        refine ⟨i + 1, by omega, rfl, fun j hj y hy => ?_, rfl⟩
        by_cases ej : j = i
        · subst ej; rw [hget] at hy; cases hy; exact he
        · exact hb j (by omega) y hy
    · (refine ⟨[], ?_⟩; (conv => whnf); refine ⟨[], .nil, .nil, ?_⟩; (conv => whnf))
      congr 1
      refine (idx_none fun y hy => ?_).symm
      obtain ⟨j, hj⟩ := List.getElem?_of_mem hy
      have := (List.getElem?_eq_some_iff.1 hj).1
      exact hb j (by omega) y hj
def R123 (f : Nat) (Rf : Ct) : Ct := fun ss hp r out => ∃ (l : List (Int × Int)) (caps : List Cap) (p : (Int × Int) → Bool), ss = [.one (.d (.sl 2 (l.map prC))), .one (.fn f caps)] ∧ hp = [] ∧ l.length < 4611686018427387904 ∧ caps.all capFree = true ∧ (∀ x ∈ l, Rf (.v (.ag [.d (.int .i64 x.1), .d (.int .i64 x.2)]) :: caps.map fun c => .one c.toC) [] (.db (p x)) []) ∧ r = .db (l.any p) ∧ out = []
set_option maxHeartbeats 4000000 in
theorem ok123 (f : Nat) (Rf : Ct) (hf : VSound Try.prog (f, Rf)) : VSound Try.prog (123, R123 f Rf) := by
  refine vsound (T := ty) (F := [(142, R142 f Rf)]) (pl := []) (nw := true) (cuts := []) mix tyOk (.cons (ok142 f Rf hf) .nil) Try.func123 (by kernel_rfl) (by kernel_rfl) ?_
  rintro _ _ _ _ ⟨l, caps, p, rfl, rfl, hl, hc, hp, rfl, rfl⟩
  conv => whnf
  refine ⟨[], false, false, ?_⟩
  conv => whnf
  refine lendCaps_id hc ?_
  conv => whnf
  refine ⟨_, _, ⟨l, caps, p, rfl, rfl, hl, hc, hp, rfl, rfl⟩, ?_⟩
  conv => whnf
  (refine ⟨[], ?_⟩; (conv => whnf); refine ⟨[], .nil, .nil, ?_⟩; (conv => whnf))
  congr 1
  exact idx_any p l
def R114 (f : Nat) (Rf : Ct) : Ct := fun ss hp r out => ∃ (l : List Kern) (caps : List Cap) (p : Kern → Bool), ss = [.one (.d (.sl 2 (l.map Kern.c))), .one (.fn f caps)] ∧ hp = [] ∧ l.length < 4611686018427387904 ∧ caps.all capFree = true ∧ (∀ x ∈ l, Rf (.v (.ag (x.c.map .d)) :: caps.map fun c => .one c.toC) [] (.db (p x)) []) ∧ r = .di .i64 (idx p l) ∧ out = []
set_option maxHeartbeats 4000000 in
theorem ok114 (f : Nat) (Rf : Ct) (hf : VSound Try.prog (f, Rf)) : VSound Try.prog (114, R114 f Rf) := by
  refine vsound (T := ty) (F := [(f, Rf)]) (pl := []) (nw := true) (cuts := []) mix tyOk (.cons (hf) .nil) Try.func114 (by kernel_rfl) (by kernel_rfl) ?_
  rintro _ _ _ _ ⟨l, caps, p, rfl, rfl, hl, hc, hp, rfl, rfl⟩
  conv => whnf
  refine ⟨[], [0, 1, 7, 8], 0, fun n σ => ∃ i : Nat, i ≤ l.length ∧ n = l.length - i ∧ (∀ j < i, ∀ y, l[j]? = some y → p y = false) ∧ σ = (⟨[.one (.d (.sl 2 (l.map Kern.c))), .one (.fn f caps), .junk, .junk, .junk, .junk, .junk, .di .i64 l.length, .di .i64 i, .junk, .junk, .junk, .junk, .junk, .junk, .junk, .junk, .junk, .junk], []⟩ : St), ?_, ?_⟩
  · refine ⟨l.length, ?_⟩
    conv => whnf
    rw [under_fn hc]
    conv => whnf
    exact ⟨0, by omega, by omega, by omega, by rw [map_len]; rfl⟩
  · rintro n _ ⟨i, hi, rfl, hb, rfl⟩
    conv => whnf
    ((with_reducible refine And.intro (fun (e : (_ : Bool) = true) => ?_) (fun (e : (_ : Bool) = false) => ?_)) <;> (try simp only [reduceCtorEq, ints_len, bools_len, Bool.not_false, Bool.not_true, List.length_map, decide_eq_true_eq, decide_eq_false_iff_not, Bool.not_eq_true', Bool.not_eq_false', Bool.and_eq_true, Bool.or_eq_true, Bool.and_eq_false_iff, Bool.or_eq_false_iff, beq_iff_eq, bne_iff_ne, beq_eq_false_iff_ne, bne_eq_false_iff_eq, Int.not_lt, Int.not_le, ge_iff_le, gt_iff_lt, not_or, not_and, Bool.cond_true_right, Bool.cond_true_left, Bool.cond_false_right, Bool.cond_false_left, bif_t, bif_f] at e) <;> (conv => whnf))
    · have hlt : i < l.length := by omega
      obtain ⟨x, hget⟩ := get_lt hlt
      refine ⟨_, And.intro ⟨?_, enc_get hget⟩ ?_⟩
      · omega
      obtain ⟨xa, xb⟩ := x
      conv => whnf
      rw [show (cx ty [(f, Rf)] []).fns f = some Rf from findF_self]
      conv => whnf
      refine ⟨[], false, false, ?_⟩
      conv => whnf
      refine lendCaps_id hc ?_
      conv => whnf
      refine ⟨_, _, hp _ (List.mem_of_getElem? hget), ?_⟩
      conv => whnf
      ((with_reducible refine And.intro (fun (e : (_ : Bool) = true) => ?_) (fun (e : (_ : Bool) = false) => ?_)) <;> (try simp only [reduceCtorEq, ints_len, bools_len, Bool.not_false, Bool.not_true, List.length_map, decide_eq_true_eq, decide_eq_false_iff_not, Bool.not_eq_true', Bool.not_eq_false', Bool.and_eq_true, Bool.or_eq_true, Bool.and_eq_false_iff, Bool.or_eq_false_iff, beq_iff_eq, bne_iff_ne, beq_eq_false_iff_ne, bne_eq_false_iff_eq, Int.not_lt, Int.not_le, ge_iff_le, gt_iff_lt, not_or, not_and, Bool.cond_true_right, Bool.cond_true_left, Bool.cond_false_right, Bool.cond_false_left, bif_t, bif_f] at e) <;> (conv => whnf))
      · (refine ⟨[], ?_⟩; (conv => whnf); refine ⟨[], .nil, .nil, ?_⟩; (conv => whnf))
        congr 1
        exact (idx_at hget e hb).symm
      · have he := e
        (refine And.intro ?_ ?_; ((first | (with_reducible assumption) | (intro _; with_reducible assumption) | omega | (simp only [reduceCtorEq, ints_len, bools_len, Bool.not_false, Bool.not_true, List.length_map, decide_eq_true_eq, decide_eq_false_iff_not, Bool.not_eq_true', Bool.not_eq_false', Bool.and_eq_true, Bool.or_eq_true, Bool.and_eq_false_iff, Bool.or_eq_false_iff, beq_iff_eq, bne_iff_ne, beq_eq_false_iff_ne, bne_eq_false_iff_eq, Int.not_lt, Int.not_le, ge_iff_le, gt_iff_lt, not_or, not_and, Bool.cond_true_right, Bool.cond_true_left, Bool.cond_false_right, Bool.cond_false_left, bif_t, bif_f] at *; omega) | (intro hg; (try simp only [reduceCtorEq, ints_len, bools_len, Bool.not_false, Bool.not_true, List.length_map, decide_eq_true_eq, decide_eq_false_iff_not, Bool.not_eq_true', Bool.not_eq_false', Bool.and_eq_true, Bool.or_eq_true, Bool.and_eq_false_iff, Bool.or_eq_false_iff, beq_iff_eq, bne_iff_ne, beq_eq_false_iff_ne, bne_eq_false_iff_eq, Int.not_lt, Int.not_le, ge_iff_le, gt_iff_lt, not_or, not_and, Bool.cond_true_right, Bool.cond_true_left, Bool.cond_false_right, Bool.cond_false_left, bif_t, bif_f] at hg); first | (with_reducible assumption) | omega | (simp only [reduceCtorEq, ints_len, bools_len, Bool.not_false, Bool.not_true, List.length_map, decide_eq_true_eq, decide_eq_false_iff_not, Bool.not_eq_true', Bool.not_eq_false', Bool.and_eq_true, Bool.or_eq_true, Bool.and_eq_false_iff, Bool.or_eq_false_iff, beq_iff_eq, bne_iff_ne, beq_eq_false_iff_ne, bne_eq_false_iff_eq, Int.not_lt, Int.not_le, ge_iff_le, gt_iff_lt, not_or, not_and, Bool.cond_true_right, Bool.cond_true_left, Bool.cond_false_right, Bool.cond_false_left, bif_t, bif_f] at *; omega) | (refine ⟨?_, ?_⟩ <;> omega)) | (refine ⟨?_, ?_⟩ <;> omega) | (simp [*]; done) | grind)); (conv => whnf))
        refine ⟨l.length - (i + 1), by omega, [], ?_⟩
        conv => whnf
        rw [under_fn hc]
        conv => whnf
        refine ⟨i + 1, by omega, rfl, fun j hj y hy => ?_, rfl⟩
        by_cases ej : j = i
        · subst ej; rw [hget] at hy; cases hy; exact he
        · exact hb j (by omega) y hy
    · (refine ⟨[], ?_⟩; (conv => whnf); refine ⟨[], .nil, .nil, ?_⟩; (conv => whnf))
      congr 1
      refine (idx_none fun y hy => ?_).symm
      obtain ⟨j, hj⟩ := List.getElem?_of_mem hy
      have := (List.getElem?_eq_some_iff.1 hj).1
      exact hb j (by omega) y hj
def R88 (f : Nat) (Rf : Ct) : Ct := fun ss hp r out => ∃ (l : List Kern) (caps : List Cap) (p : Kern → Bool), ss = [.one (.d (.sl 2 (l.map Kern.c))), .one (.fn f caps)] ∧ hp = [] ∧ l.length < 4611686018427387904 ∧ caps.all capFree = true ∧ (∀ x ∈ l, Rf (.v (.ag (x.c.map .d)) :: caps.map fun c => .one c.toC) [] (.db (p x)) []) ∧ r = .db (l.any p) ∧ out = []
set_option maxHeartbeats 4000000 in
theorem ok88 (f : Nat) (Rf : Ct) (hf : VSound Try.prog (f, Rf)) : VSound Try.prog (88, R88 f Rf) := by
  refine vsound (T := ty) (F := [(114, R114 f Rf)]) (pl := []) (nw := true) (cuts := []) mix tyOk (.cons (ok114 f Rf hf) .nil) Try.func88 (by kernel_rfl) (by kernel_rfl) ?_
  rintro _ _ _ _ ⟨l, caps, p, rfl, rfl, hl, hc, hp, rfl, rfl⟩
  conv => whnf
  refine ⟨[], false, false, ?_⟩
  conv => whnf
  refine lendCaps_id hc ?_
  conv => whnf
  refine ⟨_, _, ⟨l, caps, p, rfl, rfl, hl, hc, hp, rfl, rfl⟩, ?_⟩
  conv => whnf
  (refine ⟨[], ?_⟩; (conv => whnf); refine ⟨[], .nil, .nil, ?_⟩; (conv => whnf))
  congr 1
  exact idx_any p l
end Go.Proofs.Ytahdihhhankhdaa.V

