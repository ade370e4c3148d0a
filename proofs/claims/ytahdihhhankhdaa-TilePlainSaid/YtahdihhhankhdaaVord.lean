/-
  V: which lists are orders. By the session's own hand.
-/
import Derived.Test.YtahdihhhankhdaaVsort
import Derived.Test.YtahdihhhankhdaaVseq
set_option linter.unusedVariables false
set_option linter.unusedSimpArgs false
set_option maxRecDepth 100000
set_option linter.all false
set_option linter.unnecessarySimpa false
set_option linter.deprecated false
namespace Go.Proofs.Ytahdihhhankhdaa.V
open Go.Proofs.YtahdihhhankhdaaVY Go.RowKit
def R131 : Ct := fun ss hp r out => ∃ l : List Int, ss = [.one (.fn 133 [.pel [.sl 1 (l.map inC)]])] ∧ hp = [] ∧ l.length ≤ 1000000 ∧ r = .one (.own 0) ∧ out = [.row 1 (l.map inC)]
theorem ok131 : VSound Try.prog (131, R131) := by
  refine .inl ⟨?_, enterB_ok (by kernel_rfl)⟩
  intro X w args ss hp ρ r out hG hX hH hgl ha hR
  obtain ⟨l, rfl, rfl, hl, rfl, rfl⟩ := hR
  obtain ⟨av, rfl⟩ : ∃ av, args = #[av] := by
    obtain ⟨args⟩ := args
    cases ha with
    | cons h1 h2 => cases h2; exact ⟨_, rfl⟩
  obtain ⟨vs, rfl, hvs⟩ : ∃ vs : Array Value, av = .func (.func 133) #[] vs ∧ All2 (CapRel ρ (Av X ρ []) w) vs.toList [.pel [.sl 1 (l.map inC)]] := by
    cases ha with
    | cons h1 h2 => exact h1
  obtain ⟨pv, rfl⟩ : ∃ pv, vs = #[pv] := by
    obtain ⟨vs⟩ := vs
    cases hvs with
    | cons h1 h2 => cases h2; exact ⟨_, rfl⟩
  obtain ⟨B, o, rfl, hB, hc⟩ : ∃ b off, pv = .pointer (some ⟨b, off, none⟩) ∧ At (Av X ρ []) w b ∧ RdC (Av X ρ []) w b off [.sl 1 (l.map inC)] := by
    cases hvs with
    | cons h1 h2 => exact h1
  simp only [RdC] at hc
  obtain ⟨⟨sv, hsv, hrd⟩, _⟩ := hc
  simp only [Rd] at hrd
  obtain ⟨a, cap, rfl, hlc, hrow⟩ := hrd
  rw [map_len] at hsv hlc
  have hz : l = [] ∨ ∃ b off, a = some ⟨b, off, none⟩ ∧ b < w.heap.size ∧ ∀ j, j < l.length → w.cell? ⟨b, off + j, none⟩ = some (.int .i64 (l[j]?.getD 0)) := by
    rcases hrow with h | ⟨b, off, rfl, hA, hL⟩
    · left; cases l with
      | nil => rfl
      | cons x l => cases h
    · exact .inr ⟨b, off, rfl, hA.1, fun j hj => by rw [ints_cells hL hj]; simp [hj]⟩
  refine (Seq.collect w B o cap a l hl hB.1 hsv hz).mono ?_
  rintro e w' ⟨v, rfl, hown, hb⟩
  obtain ⟨hreg, hblk⟩ : (∀ A, RegRel [v] A w' v (.row 1 (l.map inC))) ∧ ∀ k, Bk v k → w.heap.size ≤ k := by
    rcases hown.2 with ⟨rfl, h0⟩ | ⟨g, cap', cur, rfl, hbase, hg, h1, h2, h3, h4⟩
    · have : l = [] := List.length_eq_zero_iff.1 h0
      subst this
      exact ⟨fun A => ⟨none, 0, rfl, Nat.le_refl _, by decide, .inl rfl⟩, fun k hk => by cases hk⟩
    · refine ⟨fun A => ⟨_, cap', by rw [map_len], by rw [map_len]; exact h1, by decide, .inr ⟨g, 0, _, cur, rfl, hg, by omega, ints_read fun j hj => ?_⟩⟩, fun k hk => ?_⟩
      · have h5 : (cur.toList.take (l.length * 1))[j]? = (l.map (Value.int .i64))[j]? := by rw [h4]
        rw [List.getElem?_take, if_pos (by omega), List.getElem?_map, List.getElem?_eq_getElem hj, Array.getElem?_toList] at h5
        simp only [World.cell?, hg, Option.isSome_none, Bool.false_eq_true, if_false, Nat.zero_add]
        exact h5
      · cases cap' with
        | zero => simp [Bk, blk] at hk
        | succ n => have : g = k := by simpa [Bk, blk] using hk
                    omega
  have hflat : Flat v := by
    rcases hown.2 with ⟨rfl, _⟩ | ⟨g, cap', cur, rfl, _⟩ <;> exact ⟨by simp, by simp⟩
  have hlive : ∀ b, Live [v] [.row 1 (l.map inC)] b → w.heap.size ≤ b := by
    rintro b ⟨h, r, u, h1, h2, h3, h4⟩
    cases h with
    | zero => cases h3; exact hblk b h4
    | succ h => cases h3
  refine ⟨v, [v], rfl, ⟨rfl, hflat⟩, ⟨rfl, fun h r u h1 h3 => ?_, fun h h' r r' u u' b h1 h1' h2 h2' h3 h3' h4 h4' => ?_, fun b hb' hx => ?_⟩, hb.size, ⟨hb.os, hb.tape, hb.output⟩, fun b hb' _ => hb.block b hb', fun b hb' => .inr (hlive b hb')⟩
  · cases h with
    | zero => cases h1; cases h3; exact hreg _
    | succ h => cases h3
  · cases h with
    | zero => cases h' with
      | zero => rfl
      | succ h' => cases h3'
    | succ h => cases h3
  · have := hlive b hb'; have := hX b hx; omega
def R105 : Ct := fun ss hp r out => ∃ l : List Int, ss = [.one (.d (.sl 1 (l.map inC)))] ∧ hp = [] ∧ r = .one (.fn 133 [.ptr 0]) ∧ out = [.box [.d (.sl 1 (l.map inC))]]
set_option maxHeartbeats 4000000 in
theorem ok105 : VSound Try.prog (105, R105) := by
  refine vsound (T := ty) (F := []) (pl := []) (nw := true) (cuts := []) mix tyOk .nil Try.func105 (by kernel_rfl) (by kernel_rfl) ?_
  rintro _ _ _ _ ⟨l, rfl, rfl, rfl, rfl⟩
  conv => whnf
  refine ⟨[], ?_⟩
  conv => whnf
  exact ⟨[0], by simp, .cons ⟨_, rfl, .cons rfl .nil⟩ .nil, rfl, .cons rfl .nil⟩
def R104 : Ct := fun ss hp r out => ∃ l : List Int, ss = [.one (.fn 133 [.pel [.sl 1 (l.map inC)]])] ∧ hp = [] ∧ l.length ≤ 1000000 ∧ r = .one (.own 0) ∧ out = [.row 1 ((sortI l).map inC)]
set_option maxHeartbeats 4000000 in
theorem ok104 : VSound Try.prog (104, R104) := by
  refine vsound (T := ty) (F := [(131, R131), (132, R132)]) (pl := []) (nw := true) (cuts := []) mix tyOk (.cons (ok131) (.cons (ok132) .nil)) Try.func104 (by kernel_rfl) (by kernel_rfl) ?_
  rintro _ _ _ _ ⟨l, rfl, rfl, hl, rfl, rfl⟩
  conv => whnf
  (refine ⟨[], false, false, ?_⟩; (conv => whnf); refine ⟨_, _, ⟨l, rfl, rfl, hl, rfl, rfl⟩, ?_⟩; (conv => whnf))
  refine ⟨[0], false, false, ?_⟩
  conv => whnf
  intro v
  conv => whnf
  refine ⟨_, _, ⟨l, v, rfl, rfl, by omega, rfl, rfl⟩, ?_⟩
  conv => whnf
  refine ⟨rfl, ?_⟩
  conv => whnf
  refine ⟨[], ?_⟩
  conv => whnf
  exact ⟨[0], by simp, .cons ⟨_, rfl, rfl, rfl⟩ .nil, rfl⟩
def upTo (n : Nat) : List Int := (List.range n).map Int.ofNat
theorem upTo_succ (n : Nat) : upTo (n + 1) = upTo n ++ [(n : Int)] := by unfold upTo; rw [List.range_succ, List.map_append]; rfl
theorem upTo_len (n : Nat) : (upTo n).length = n := by simp [upTo]
def R107 : Ct := fun ss hp r out => ∃ n : Nat, ss = [.di .i64 n] ∧ hp = [] ∧ n ≤ 1000000 ∧ r = .one (.own 0) ∧ out = [.row 1 ((upTo n).map inC)]
set_option maxHeartbeats 4000000 in
theorem ok107 : VSound Try.prog (107, R107) := by
  refine vsound (T := ty) (F := []) (pl := []) (nw := true) (cuts := []) mix tyOk .nil Try.func107 (by kernel_rfl) (by kernel_rfl) ?_
  rintro _ _ _ _ ⟨n, rfl, rfl, hn, rfl, rfl⟩
  conv => whnf
  refine ⟨[.slot 3 true], [3, 5, 6], 1, fun n1 σ => ∃ i : Nat, i ≤ n ∧ n1 = n - i ∧ σ = (⟨[.junk, .junk, .junk, .one (.own 0), .junk, .di .i64 n, .di .i64 i, .junk, .junk, .junk, .junk, .junk, .junk, .junk, .junk], [.row 1 ((upTo i).map inC)]⟩ : St), ?_, ?_⟩
  · refine ⟨n, ?_⟩
    conv => whnf
    exact ⟨0, by omega, by omega, rfl⟩
  · rintro n1 _ ⟨i, hi, rfl, rfl⟩
    conv => whnf
    ((with_reducible refine And.intro (fun (e : (_ : Bool) = true) => ?_) (fun (e : (_ : Bool) = false) => ?_)) <;> (try simp only [reduceCtorEq, ints_len, bools_len, Bool.not_false, Bool.not_true, List.length_map, decide_eq_true_eq, decide_eq_false_iff_not, Bool.not_eq_true', Bool.not_eq_false', Bool.and_eq_true, Bool.or_eq_true, Bool.and_eq_false_iff, Bool.or_eq_false_iff, beq_iff_eq, bne_iff_ne, beq_eq_false_iff_ne, bne_eq_false_iff_eq, Int.not_lt, Int.not_le, ge_iff_le, gt_iff_lt, not_or, not_and, Bool.cond_true_right, Bool.cond_true_left, Bool.cond_false_right, Bool.cond_false_left, bif_t, bif_f] at e) <;> (conv => whnf))
    · refine ⟨by rw [map_len, upTo_len]; simp only [List.length_cons, List.length_nil]; omega, ?_⟩
      conv => whnf
      (refine And.intro ?_ ?_; ((first | (with_reducible assumption) | (intro _; with_reducible assumption) | omega | (simp only [reduceCtorEq, ints_len, bools_len, Bool.not_false, Bool.not_true, List.length_map, decide_eq_true_eq, decide_eq_false_iff_not, Bool.not_eq_true', Bool.not_eq_false', Bool.and_eq_true, Bool.or_eq_true, Bool.and_eq_false_iff, Bool.or_eq_false_iff, beq_iff_eq, bne_iff_ne, beq_eq_false_iff_ne, bne_eq_false_iff_eq, Int.not_lt, Int.not_le, ge_iff_le, gt_iff_lt, not_or, not_and, Bool.cond_true_right, Bool.cond_true_left, Bool.cond_false_right, Bool.cond_false_left, bif_t, bif_f] at *; omega) | (intro hg; (try simp only [reduceCtorEq, ints_len, bools_len, Bool.not_false, Bool.not_true, List.length_map, decide_eq_true_eq, decide_eq_false_iff_not, Bool.not_eq_true', Bool.not_eq_false', Bool.and_eq_true, Bool.or_eq_true, Bool.and_eq_false_iff, Bool.or_eq_false_iff, beq_iff_eq, bne_iff_ne, beq_eq_false_iff_ne, bne_eq_false_iff_eq, Int.not_lt, Int.not_le, ge_iff_le, gt_iff_lt, not_or, not_and, Bool.cond_true_right, Bool.cond_true_left, Bool.cond_false_right, Bool.cond_false_left, bif_t, bif_f] at hg); first | (with_reducible assumption) | omega | (simp only [reduceCtorEq, ints_len, bools_len, Bool.not_false, Bool.not_true, List.length_map, decide_eq_true_eq, decide_eq_false_iff_not, Bool.not_eq_true', Bool.not_eq_false', Bool.and_eq_true, Bool.or_eq_true, Bool.and_eq_false_iff, Bool.or_eq_false_iff, beq_iff_eq, bne_iff_ne, beq_eq_false_iff_ne, bne_eq_false_iff_eq, Int.not_lt, Int.not_le, ge_iff_le, gt_iff_lt, not_or, not_and, Bool.cond_true_right, Bool.cond_true_left, Bool.cond_false_right, Bool.cond_false_left, bif_t, bif_f] at *; omega) | (refine ⟨?_, ?_⟩ <;> omega)) | (refine ⟨?_, ?_⟩ <;> omega) | (simp [*]; done) | grind)); (conv => whnf))
      refine ⟨n - (i + 1), by omega, [], ?_⟩
      conv => whnf
      refine ⟨i + 1, by omega, rfl, ?_⟩
      rw [upTo_succ, List.map_append]; rfl
    · have hi' : i = n := by omega
      subst hi'
      refine ⟨[], ?_⟩
      conv => whnf
      exact ⟨[0], by simp, .cons ⟨_, rfl, rfl, rfl⟩ .nil, rfl⟩
theorem ints_eq {a b : List Int} (hl : a.length = b.length) (h : ∀ j < a.length, a[j]? = b[j]?) : a = b := by
  apply List.ext_getElem?
  intro j
  by_cases hj : j < a.length
  · exact h j hj
  · rw [List.getElem?_eq_none (by omega), List.getElem?_eq_none (by omega)]
def R106 : Ct := fun ss hp r out => ∃ a b : List Int, ss = [.one (.d (.sl 1 (a.map inC))), .one (.d (.sl 1 (b.map inC)))] ∧ hp = [] ∧ a.length < 4611686018427387904 ∧ r = .db (decide (a = b)) ∧ out = []
set_option maxHeartbeats 4000000 in
theorem ok106 : VSound Try.prog (106, R106) := by
  refine vsound (T := ty) (F := []) (pl := [(6, [[], [], [0, 1], [0, 1, 2], [], [], [4, 5], [4, 5, 6], [0, 1, 2, 3, 4, 5, 6, 7]], .look 0 (.look 1 (.look 2 (.look 3 (.look 4 (.look 5 (.look 6 (.look 7 (.look 8 .done)))))))))]) (nw := true) (cuts := []) mix tyOk .nil Try.func106 (by kernel_rfl) (by kernel_rfl) ?_
  rintro _ _ _ _ ⟨a, b, rfl, rfl, hl, rfl, rfl⟩
  conv => whnf
  ((with_reducible refine And.intro (fun (e : (_ : Bool) = true) => ?_) (fun (e : (_ : Bool) = false) => ?_)) <;> (try simp only [reduceCtorEq, ints_len, bools_len, Bool.not_false, Bool.not_true, List.length_map, decide_eq_true_eq, decide_eq_false_iff_not, Bool.not_eq_true', Bool.not_eq_false', Bool.and_eq_true, Bool.or_eq_true, Bool.and_eq_false_iff, Bool.or_eq_false_iff, beq_iff_eq, bne_iff_ne, beq_eq_false_iff_ne, bne_eq_false_iff_eq, Int.not_lt, Int.not_le, ge_iff_le, gt_iff_lt, not_or, not_and, Bool.cond_true_right, Bool.cond_true_left, Bool.cond_false_right, Bool.cond_false_left, bif_t, bif_f] at e) <;> (conv => whnf))
  · have e1 := e
    (refine ⟨[], ?_⟩; (conv => whnf); refine ⟨[], .nil, .nil, ?_⟩; (conv => whnf))
    congr 1
    refine (decide_eq_false ?_).symm
    rintro rfl
    exact e1 rfl
  · have e1 := e
    refine ⟨[], [0, 1, 12, 13], 0, fun n1 σ => ∃ i : Nat, i ≤ a.length ∧ n1 = a.length - i ∧ (∀ j < i, a[j]? = b[j]?) ∧ σ = (⟨[.one (.d (.sl 1 (a.map inC))), .one (.d (.sl 1 (b.map inC))), .junk, .junk, .junk, .junk, .junk, .junk, .junk, .junk, .junk, .junk, .di .i64 a.length, .di .i64 i, .junk, .junk, .junk, .junk, .junk, .junk, .junk, .junk, .junk, .junk, .junk, .junk], []⟩ : St), ?_, ?_⟩
    · refine ⟨a.length, ?_⟩
      conv => whnf
      refine ⟨0, by omega, by omega, by omega, ?_⟩
      rw [map_len]; rfl
    · rintro n1 _ ⟨i, hi, rfl, hall, rfl⟩
      conv => whnf
      ((with_reducible refine And.intro (fun (e : (_ : Bool) = true) => ?_) (fun (e : (_ : Bool) = false) => ?_)) <;> (try simp only [reduceCtorEq, ints_len, bools_len, Bool.not_false, Bool.not_true, List.length_map, decide_eq_true_eq, decide_eq_false_iff_not, Bool.not_eq_true', Bool.not_eq_false', Bool.and_eq_true, Bool.or_eq_true, Bool.and_eq_false_iff, Bool.or_eq_false_iff, beq_iff_eq, bne_iff_ne, beq_eq_false_iff_ne, bne_eq_false_iff_eq, Int.not_lt, Int.not_le, ge_iff_le, gt_iff_lt, not_or, not_and, Bool.cond_true_right, Bool.cond_true_left, Bool.cond_false_right, Bool.cond_false_left, bif_t, bif_f] at e) <;> (conv => whnf))
      · obtain ⟨y, hy⟩ := get_lt (l := a) (i := i) (by omega)
        obtain ⟨z, hz⟩ := get_lt (l := b) (i := i) (by omega)
        (refine ⟨_, And.intro ⟨by omega, enc_get hy⟩ ?_⟩; (conv => whnf))
        (refine ⟨_, And.intro ⟨by omega, enc_get hz⟩ ?_⟩; (conv => whnf))
        ((with_reducible refine And.intro (fun (e : (_ : Bool) = true) => ?_) (fun (e : (_ : Bool) = false) => ?_)) <;> (try simp only [reduceCtorEq, ints_len, bools_len, Bool.not_false, Bool.not_true, List.length_map, decide_eq_true_eq, decide_eq_false_iff_not, Bool.not_eq_true', Bool.not_eq_false', Bool.and_eq_true, Bool.or_eq_true, Bool.and_eq_false_iff, Bool.or_eq_false_iff, beq_iff_eq, bne_iff_ne, beq_eq_false_iff_ne, bne_eq_false_iff_eq, Int.not_lt, Int.not_le, ge_iff_le, gt_iff_lt, not_or, not_and, Bool.cond_true_right, Bool.cond_true_left, Bool.cond_false_right, Bool.cond_false_left, bif_t, bif_f] at e) <;> (conv => whnf))
        · have e2 := e
          (refine ⟨[], ?_⟩; (conv => whnf); refine ⟨[], .nil, .nil, ?_⟩; (conv => whnf))
          congr 1
          refine (decide_eq_false ?_).symm
          rintro rfl
          rw [hy] at hz; cases hz
          exact e2 rfl
        · have e2 := e
          (refine And.intro ?_ ?_; ((first | (with_reducible assumption) | (intro _; with_reducible assumption) | omega | (simp only [reduceCtorEq, ints_len, bools_len, Bool.not_false, Bool.not_true, List.length_map, decide_eq_true_eq, decide_eq_false_iff_not, Bool.not_eq_true', Bool.not_eq_false', Bool.and_eq_true, Bool.or_eq_true, Bool.and_eq_false_iff, Bool.or_eq_false_iff, beq_iff_eq, bne_iff_ne, beq_eq_false_iff_ne, bne_eq_false_iff_eq, Int.not_lt, Int.not_le, ge_iff_le, gt_iff_lt, not_or, not_and, Bool.cond_true_right, Bool.cond_true_left, Bool.cond_false_right, Bool.cond_false_left, bif_t, bif_f] at *; omega) | (intro hg; (try simp only [reduceCtorEq, ints_len, bools_len, Bool.not_false, Bool.not_true, List.length_map, decide_eq_true_eq, decide_eq_false_iff_not, Bool.not_eq_true', Bool.not_eq_false', Bool.and_eq_true, Bool.or_eq_true, Bool.and_eq_false_iff, Bool.or_eq_false_iff, beq_iff_eq, bne_iff_ne, beq_eq_false_iff_ne, bne_eq_false_iff_eq, Int.not_lt, Int.not_le, ge_iff_le, gt_iff_lt, not_or, not_and, Bool.cond_true_right, Bool.cond_true_left, Bool.cond_false_right, Bool.cond_false_left, bif_t, bif_f] at hg); first | (with_reducible assumption) | omega | (simp only [reduceCtorEq, ints_len, bools_len, Bool.not_false, Bool.not_true, List.length_map, decide_eq_true_eq, decide_eq_false_iff_not, Bool.not_eq_true', Bool.not_eq_false', Bool.and_eq_true, Bool.or_eq_true, Bool.and_eq_false_iff, Bool.or_eq_false_iff, beq_iff_eq, bne_iff_ne, beq_eq_false_iff_ne, bne_eq_false_iff_eq, Int.not_lt, Int.not_le, ge_iff_le, gt_iff_lt, not_or, not_and, Bool.cond_true_right, Bool.cond_true_left, Bool.cond_false_right, Bool.cond_false_left, bif_t, bif_f] at *; omega) | (refine ⟨?_, ?_⟩ <;> omega)) | (refine ⟨?_, ?_⟩ <;> omega) | (simp [*]; done) | grind)); (conv => whnf))
          refine ⟨a.length - (i + 1), by omega, [], ?_⟩
          conv => whnf
          refine ⟨i + 1, by omega, rfl, fun j hj => ?_, rfl⟩
          by_cases ej : j = i
          · subst ej; rw [hy, hz, e2]
          · exact hall j (by omega)
      · (refine ⟨[], ?_⟩; (conv => whnf); refine ⟨[], .nil, .nil, ?_⟩; (conv => whnf))
        congr 1
        exact (decide_eq_true (ints_eq (by omega) fun j hj => hall j (by omega))).symm
/-- a list has each number from 0 on once -/
def isOrd (l : List Int) (n : Nat) : Bool := decide (sortI l = upTo n)
def R70 : Ct := fun ss hp r out => ∃ (l : List Int) (n : Nat), ss = [.one (.d (.sl 1 (l.map inC))), .di .i64 n] ∧ hp = [] ∧ l.length ≤ 1000000 ∧ n ≤ 1000000 ∧ r = .db (isOrd l n) ∧ out = []
set_option maxHeartbeats 4000000 in
theorem ok70 : VSound Try.prog (70, R70) := by
  refine vsound (T := ty) (F := [(104, R104), (105, R105), (106, R106), (107, R107)]) (pl := []) (nw := true) (cuts := []) mix tyOk (.cons (ok104) (.cons (ok105) (.cons (ok106) (.cons (ok107) .nil)))) Try.func70 (by kernel_rfl) (by kernel_rfl) ?_
  rintro _ _ _ _ ⟨l, n, rfl, rfl, hl, hn, rfl, rfl⟩
  conv => whnf
  (refine ⟨[], false, false, ?_⟩; (conv => whnf); refine ⟨_, _, ⟨l, rfl, rfl, rfl, rfl⟩, ?_⟩; (conv => whnf))
  (refine ⟨[], false, false, ?_⟩; (conv => whnf); refine ⟨_, _, ⟨l, rfl, rfl, hl, rfl, rfl⟩, ?_⟩; (conv => whnf))
  refine ⟨ints_free _, ?_⟩
  conv => whnf
  (refine ⟨[], false, false, ?_⟩; (conv => whnf); refine ⟨_, _, ⟨n, rfl, rfl, hn, rfl, rfl⟩, ?_⟩; (conv => whnf))
  (refine ⟨[], false, false, ?_⟩; (conv => whnf); refine ⟨_, _, ⟨sortI l, upTo n, rfl, rfl, by rw [sortI_len]; omega, rfl, rfl⟩, ?_⟩; (conv => whnf))
  (refine ⟨[], ?_⟩; (conv => whnf); refine ⟨[], .nil, .nil, ?_⟩; (conv => whnf))
  rfl
end Go.Proofs.Ytahdihhhankhdaa.V

