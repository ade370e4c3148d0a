/-
  V: the places of all iterations. By the session's own hand.
-/
import Derived.Test.YtahdihhhankhdaaVi
set_option linter.unusedVariables false
set_option linter.unusedSimpArgs false
set_option maxRecDepth 100000
set_option linter.all false
set_option linter.unnecessarySimpa false
set_option linter.deprecated false
namespace Go.Proofs.Ytahdihhhankhdaa.V
open Go.Proofs.YtahdihhhankhdaaVY Go.RowKit
def seg (row : List Int) (s : Int) : Nat → List Int
  | 0 => []
  | m + 1 => seg row s m ++ row.map (· + (m + 1 : Nat) * s)
def placesTo (l xs : List Int) (b : Int) : Nat → List Int
  | 0 => [b]
  | i + 1 => placesTo l xs b i ++ seg (placesTo l xs b i) (xs.getD i 0) (l.getD i 0 - 1).toNat
def places (l : List Int) (x : Ref) : List Int := if many l = 0 then [] else placesTo l x.str x.base l.length
theorem seg_len (row : List Int) (s : Int) : ∀ m, (seg row s m).length = m * row.length
  | 0 => by simp [seg]
  | m + 1 => by rw [seg, List.length_append, seg_len row s m, List.length_map, Nat.succ_mul]
theorem seg_bd {row : List Int} {s B S : Int} (hs : -S ≤ s ∧ s ≤ S) (hS : 0 ≤ S) (h : ∀ v ∈ row, -B ≤ v ∧ v ≤ B) : ∀ m : Nat, ∀ v ∈ seg row s m, -(B + m * S) ≤ v ∧ v ≤ B + m * S
  | 0, v, hv => by simp [seg] at hv
  | m + 1, v, hv => by
    rw [seg, List.mem_append, List.mem_map] at hv
    rcases hv with hv | ⟨u, hu, rfl⟩
    · have := seg_bd hs hS h m v hv
      push_cast
      rw [Int.add_mul]
      omega
    · have h1 := h u hu
      have h2 : ((m + 1 : Nat) : Int) * s ≤ ((m + 1 : Nat) : Int) * S := Int.mul_le_mul_of_nonneg_left hs.2 (by omega)
      have h3 : ((m + 1 : Nat) : Int) * (-S) ≤ ((m + 1 : Nat) : Int) * s := Int.mul_le_mul_of_nonneg_left hs.1 (by omega)
      rw [Int.mul_neg] at h3
      omega
/-- extents and a Ref that are right -/
structure Rt (l : List Int) (x : Ref) : Prop where
  len : x.str.length = l.length
  l1 : 1 ≤ l.length
  l3 : l.length ≤ 3
  ext : ∀ n ∈ l, 0 ≤ n ∧ n ≤ 400
  base : -1000000 ≤ x.base ∧ x.base ≤ 1000000
  str : ∀ s ∈ x.str, -1000000 ≤ s ∧ s ≤ 1000000
theorem refOk_rt {l : List Int} {x : Ref} (h : refOk l x = true) : Rt l x := by
  unfold refOk at h
  simp only [Bool.and_eq_true, decide_eq_true_eq, Bool.not_eq_true', isNum, List.any_eq_false] at h
  obtain ⟨h1, h2, h3, h4⟩ := h
  have hm : ¬ (l.length < 1 ∨ 3 < l.length ∨ l.any (fun n => decide (n < 0 ∨ 400 < n)) = true) := by
    intro hh; unfold many at h1; rw [if_pos hh] at h1; omega
  refine ⟨h2, by omega, by omega, fun n hn => ?_, h3, fun s hs => ?_⟩
  · have : ¬ l.any (fun n => decide (n < 0 ∨ 400 < n)) = true := fun hh => hm (.inr (.inr hh))
    simp only [List.any_eq_true, not_exists, not_and, decide_eq_true_eq] at this
    have := this n hn
    omega
  · have := h4 s hs
    simp at this
    omega
theorem getD_of {l : List Int} {i : Nat} {x : Int} (h : l[i]? = some x) : l.getD i 0 = x := by simp [List.getD, h]
theorem placesTo_bd {l : List Int} {x : Ref} (R : Rt l x) : ∀ i ≤ l.length, (placesTo l x.str x.base i).length ≤ 400 ^ i ∧ ∀ v ∈ placesTo l x.str x.base i, -(1000000 + i * 400000000) ≤ v ∧ v ≤ 1000000 + i * 400000000
  | 0, _ => ⟨by simp [placesTo], fun v hv => by simp [placesTo] at hv; subst hv; have := R.base; omega⟩
  | i + 1, hi => by
    obtain ⟨h1, h2⟩ := placesTo_bd R i (by omega)
    obtain ⟨n, hn⟩ := get_lt (l := l) (i := i) (by omega)
    obtain ⟨s, hs⟩ := get_lt (l := x.str) (i := i) (by have := R.len; omega)
    have hn' := R.ext n (List.mem_of_getElem? hn)
    have hs' := R.str s (List.mem_of_getElem? hs)
    rw [placesTo, getD_of hn, getD_of hs]
    obtain ⟨m, hm⟩ : ∃ m : Nat, (n - 1).toNat = m := ⟨_, rfl⟩
    have hm2 : m ≤ 399 := by omega
    rw [hm]
    refine ⟨?_, fun v hv => ?_⟩
    · rw [List.length_append, seg_len, Nat.pow_succ]
      have : m * (placesTo l x.str x.base i).length ≤ 399 * (placesTo l x.str x.base i).length := Nat.mul_le_mul_right _ hm2
      omega
    · rw [List.mem_append] at hv
      rcases hv with hv | hv
      · have := h2 v hv; push_cast; omega
      · have := seg_bd hs' (by decide) h2 m v hv
        push_cast; omega
def R151 : Ct := fun ss hp r out => ∃ (l : List Int) (x : Ref), ss = [.one (.d (.sl 1 (l.map inC))), .v (.ag (x.c.map .d))] ∧ hp = [] ∧ refOk l x = true ∧ r = .one (.own 0) ∧ out = [.row 1 ((places l x).map inC)]
set_option maxHeartbeats 4000000 in
theorem ok151 : VSound Try.prog (151, R151) := by
  refine vsound (T := ty) (F := [(65, R65)]) (pl := []) (nw := true) (cuts := []) mix tyOk (.cons (ok65) .nil) Try.func151 (by kernel_rfl) (by kernel_rfl) ?_
  rintro _ _ _ _ ⟨l, ⟨xa, xb, xs⟩, rfl, rfl, hok, rfl, rfl⟩
  have R := refOk_rt hok
  have hlen := R.len
  have hl1 := R.l1
  have hl3 := R.l3
  conv => whnf
  refine ⟨[], false, false, ?_⟩
  conv => whnf
  refine ⟨_, _, ⟨l, rfl, rfl, by omega, rfl, rfl⟩, ?_⟩
  conv => whnf
  refine ⟨fun e => ?_, fun e => ?_⟩
  · simp only [reduceCtorEq, ints_len, bools_len, Bool.not_false, Bool.not_true, List.length_map, decide_eq_true_eq, decide_eq_false_iff_not, Bool.not_eq_true', Bool.not_eq_false', Bool.and_eq_true, Bool.or_eq_true, Bool.and_eq_false_iff, Bool.or_eq_false_iff, beq_iff_eq, bne_iff_ne, beq_eq_false_iff_ne, bne_eq_false_iff_eq, Int.not_lt, Int.not_le, ge_iff_le, gt_iff_lt, not_or, not_and, Bool.cond_true_right, Bool.cond_true_left, Bool.cond_false_right, Bool.cond_false_left, bif_t, bif_f] at e
    conv => whnf
    refine ⟨[.slot 4 true], ?_⟩
    conv => whnf
    refine ⟨[1], by simp, .cons ⟨_, rfl, rfl, ?_⟩ .nil, rfl⟩
    unfold places; rw [if_pos e]; rfl
  · simp only [reduceCtorEq, ints_len, bools_len, Bool.not_false, Bool.not_true, List.length_map, decide_eq_true_eq, decide_eq_false_iff_not, Bool.not_eq_true', Bool.not_eq_false', Bool.and_eq_true, Bool.or_eq_true, Bool.and_eq_false_iff, Bool.or_eq_false_iff, beq_iff_eq, bne_iff_ne, beq_eq_false_iff_ne, bne_eq_false_iff_eq, Int.not_lt, Int.not_le, ge_iff_le, gt_iff_lt, not_or, not_and, Bool.cond_true_right, Bool.cond_true_left, Bool.cond_false_right, Bool.cond_false_left, bif_t, bif_f] at e
    have hP : places l ⟨xa, xb, xs⟩ = placesTo l xs xb l.length := by unfold places; rw [if_neg e]
    rw [hP]
    conv => whnf
    refine ⟨[], [3, 5, 18, 19, 20], 2, fun n1 σ => ∃ i : Nat, i ≤ l.length ∧ n1 = l.length - i ∧ σ = (⟨[.junk, .junk, .junk, .one (.ptr 0 0), .junk, .one (.own 1), .junk, .junk, .junk, .junk, .junk, .junk, .junk, .junk, .junk, .junk, .junk, .junk, .one (.d (.sl 1 (l.map inC))), .di .i64 l.length, .di .i64 i, .junk, .junk, .junk, .junk, .junk, .junk, .junk, .junk, .junk, .junk, .junk, .junk, .junk, .junk, .junk, .junk, .junk, .junk, .junk, .junk, .junk, .junk, .junk, .junk, .junk, .junk, .junk, .junk, .junk, .junk, .junk], [.box (List.map .d (Ref.mk xa xb xs).c), .row 1 ((placesTo l xs xb i).map inC)]⟩ : St), ?_, ?_⟩
    · refine ⟨l.length, ?_⟩
      conv => whnf
      refine ⟨0, by omega, by omega, ?_⟩
      rw [map_len]; rfl
    · rintro n1 _ ⟨i, hi, rfl, rfl⟩
      conv => whnf
      ((with_reducible refine And.intro (fun (e : (_ : Bool) = true) => ?_) (fun (e : (_ : Bool) = false) => ?_)) <;> (try simp only [reduceCtorEq, ints_len, bools_len, Bool.not_false, Bool.not_true, List.length_map, decide_eq_true_eq, decide_eq_false_iff_not, Bool.not_eq_true', Bool.not_eq_false', Bool.and_eq_true, Bool.or_eq_true, Bool.and_eq_false_iff, Bool.or_eq_false_iff, beq_iff_eq, bne_iff_ne, beq_eq_false_iff_ne, bne_eq_false_iff_eq, Int.not_lt, Int.not_le, ge_iff_le, gt_iff_lt, not_or, not_and, Bool.cond_true_right, Bool.cond_true_left, Bool.cond_false_right, Bool.cond_false_left, bif_t, bif_f] at e) <;> (conv => whnf))
      · have hlt : i < l.length := by omega
        obtain ⟨n, hn⟩ := get_lt hlt
        obtain ⟨s, hs⟩ := get_lt (l := xs) (i := i) (by simp only at hlen; omega)
        have hn' := R.ext n (List.mem_of_getElem? hn)
        have hs' := R.str s (List.mem_of_getElem? hs)
        obtain ⟨hpl, hpv⟩ := placesTo_bd R i hi
        have hp4 : 400 ^ i ≤ 400 ^ 3 := Nat.pow_le_pow_right (by decide) (by omega)
        have hp5 : (400 : Nat) ^ 3 = 64000000 := by decide
        have hnext : placesTo l xs xb (i + 1) = placesTo l xs xb i ++ seg (placesTo l xs xb i) s (n - 1).toNat := by rw [placesTo, getD_of hn, getD_of hs]
        simp only at hpl hpv
        refine ⟨_, And.intro ⟨?_, enc_get hn⟩ ?_⟩
        · omega
        conv => whnf
        generalize hPi : placesTo l xs xb i = P at *
        have hpb : P.length ≤ 64000000 := by omega
        have hi3 : (i : Int) ≤ 2 := by omega
        refine ⟨[.view 8], [3, 5, 6, 7, 8, 9, 18, 19, 20], 2, fun n2 σ => ∃ (k : Nat) (r : S), 1 ≤ k ∧ (k : Int) ≤ max n 1 ∧ n2 = (n - k).toNat ∧ (r = .v (.c (.win 1 1 0 (P.map inC).length)) ∨ r = .one (.d (.sl 1 (P.map inC)))) ∧ σ = (⟨[.junk, .junk, .junk, .one (.ptr 0 0), .junk, .one (.own 1), .di .i64 i, .di .i64 n, r, .di .i64 k, .junk, .junk, .junk, .junk, .junk, .junk, .junk, .junk, .one (.d (.sl 1 (l.map inC))), .di .i64 l.length, .di .i64 i, .junk, .junk, .junk, .junk, .junk, .junk, .junk, .junk, .junk, .junk, .junk, .junk, .junk, .junk, .junk, .junk, .junk, .junk, .junk, .junk, .junk, .junk, .junk, .junk, .junk, .junk, .junk, .junk, .junk, .junk, .junk], [.box (List.map .d (Ref.mk xa xb xs).c), .row 1 ((P ++ seg P s (k - 1)).map inC)]⟩ : St), ?_, ?_⟩
        · refine ⟨(n - 1).toNat, ?_⟩
          conv => whnf
          refine ⟨1, _, by omega, by omega, rfl, .inl rfl, ?_⟩
          rw [show seg P s (1 - 1) = [] from rfl, List.append_nil]; rfl
        · rintro n2 _ ⟨k, r, hk, hkn, rfl, hr, rfl⟩
          have hsegl := seg_len P s (k - 1)
          have hk4 : k ≤ 400 := by omega
          have hsl : (seg P s (k - 1)).length ≤ 400 * P.length := by rw [hsegl]; exact Nat.mul_le_mul_right _ (by omega)
          have hks1 : (k : Int) * s ≤ (k : Int) * 1000000 := Int.mul_le_mul_of_nonneg_left hs'.2 (by omega)
          have hks2 : (k : Int) * (-1000000) ≤ (k : Int) * s := Int.mul_le_mul_of_nonneg_left hs'.1 (by omega)
          rcases hr with rfl | rfl
          all_goals
            conv => whnf
            ((with_reducible refine And.intro (fun (e : (_ : Bool) = true) => ?_) (fun (e : (_ : Bool) = false) => ?_)) <;> (try simp only [reduceCtorEq, ints_len, bools_len, Bool.not_false, Bool.not_true, List.length_map, decide_eq_true_eq, decide_eq_false_iff_not, Bool.not_eq_true', Bool.not_eq_false', Bool.and_eq_true, Bool.or_eq_true, Bool.and_eq_false_iff, Bool.or_eq_false_iff, beq_iff_eq, bne_iff_ne, beq_eq_false_iff_ne, bne_eq_false_iff_eq, Int.not_lt, Int.not_le, ge_iff_le, gt_iff_lt, not_or, not_and, Bool.cond_true_right, Bool.cond_true_left, Bool.cond_false_right, Bool.cond_false_left, bif_t, bif_f] at e) <;> (conv => whnf))
            · have hkk : (k : Int) < n := e
              refine ⟨[], [3, 5, 6, 7, 8, 9, 18, 19, 20, 31, 32, 33], 2, fun n3 σ => ∃ (j : Nat) (r : S), j ≤ P.length ∧ n3 = P.length - j ∧ (r = .v (.c (.win 1 1 0 (P.map inC).length)) ∨ r = .one (.d (.sl 1 (P.map inC)))) ∧ σ = (⟨[.junk, .junk, .junk, .one (.ptr 0 0), .junk, .one (.own 1), .di .i64 i, .di .i64 n, r, .di .i64 k, .junk, .junk, .junk, .junk, .junk, .junk, .junk, .junk, .one (.d (.sl 1 (l.map inC))), .di .i64 l.length, .di .i64 i, .junk, .junk, .junk, .junk, .junk, .junk, .junk, .junk, .junk, .junk, r, .di .i64 P.length, .di .i64 j, .junk, .junk, .junk, .junk, .junk, .junk, .junk, .junk, .junk, .junk, .junk, .junk, .junk, .junk, .junk, .junk, .junk, .junk], [.box (List.map .d (Ref.mk xa xb xs).c), .row 1 ((P ++ seg P s (k - 1) ++ (P.take j).map (· + k * s)).map inC)]⟩ : St), ?_, ?_⟩
              · refine ⟨P.length, ?_⟩
                conv => whnf
                have hcl : (((((P ++ seg P s (k - 1)).map inC).drop 0).take (P.map inC).length).length : Int) = P.length := by
                  rw [List.drop_zero, List.map_append, List.take_left, map_len]
                first
                | (refine ⟨0, .v (.c (.win 1 1 0 (P.map inC).length)), by omega, by omega, .inl rfl, ?_⟩
                   rw [List.take_zero, List.map_nil, List.append_nil, hcl]
                   rfl)
                | (refine ⟨0, .one (.d (.sl 1 (P.map inC))), by omega, by omega, .inr rfl, ?_⟩
                   rw [List.take_zero, List.map_nil, List.append_nil, map_len]
                   rfl)
              · rintro n3 _ ⟨j, r, hj, rfl, hr, rfl⟩
                have hout : ∀ y, P[j]? = some y → ((P ++ seg P s (k - 1) ++ (P.take j).map (· + k * s)).map inC)[j]? = some (inC y) := by
                  intro y hy
                  have hjl := (List.getElem?_eq_some_iff.1 hy).1
                  rw [List.getElem?_map, List.append_assoc, List.getElem?_append_left hjl, hy]; rfl
                have hstep : ∀ y, P[j]? = some y → P ++ seg P s (k - 1) ++ (P.take (j + 1)).map (· + k * s) = (P ++ seg P s (k - 1) ++ (P.take j).map (· + k * s)) ++ [y + k * s] := by
                  intro y hy
                  rw [List.take_add_one, hy, List.map_append, ← List.append_assoc]; rfl
                have hbig : (P ++ seg P s (k - 1) ++ (P.take j).map (· + k * s)).length ≤ 402 * P.length := by
                  rw [List.length_append, List.length_append, List.length_map, List.length_take]; omega
                have hcut : (((P ++ seg P s (k - 1) ++ (P.take j).map (· + k * s)).map inC).drop 0).take (P.map inC).length = P.map inC := by
                  rw [List.drop_zero, List.append_assoc, List.map_append, List.take_left]
                rcases hr with rfl | rfl
                · conv => whnf
                  ((with_reducible refine And.intro (fun (e : (_ : Bool) = true) => ?_) (fun (e : (_ : Bool) = false) => ?_)) <;> (try simp only [reduceCtorEq, ints_len, bools_len, Bool.not_false, Bool.not_true, List.length_map, decide_eq_true_eq, decide_eq_false_iff_not, Bool.not_eq_true', Bool.not_eq_false', Bool.and_eq_true, Bool.or_eq_true, Bool.and_eq_false_iff, Bool.or_eq_false_iff, beq_iff_eq, bne_iff_ne, beq_eq_false_iff_ne, bne_eq_false_iff_eq, Int.not_lt, Int.not_le, ge_iff_le, gt_iff_lt, not_or, not_and, Bool.cond_true_right, Bool.cond_true_left, Bool.cond_false_right, Bool.cond_false_left, bif_t, bif_f] at e) <;> (conv => whnf))
                  · obtain ⟨y, hy⟩ := get_lt (l := P) (i := j) (by omega)
                    have hyv := hpv y (List.mem_of_getElem? hy)
                    have h1 : (P ++ seg P s (k - 1) ++ (P.take (j + 1)).map (· + k * s)).map inC = (P ++ seg P s (k - 1) ++ (P.take j).map (· + k * s)).map inC ++ [inC (y + k * s)] := by rw [hstep y hy, List.map_append]; rfl
                    refine And.intro ⟨by omega, by rw [map_len]; omega⟩ ?_
                    conv => whnf
                    refine ⟨inC y, And.intro (by first | exact hout y hy | (rw [Nat.zero_add]; exact hout y hy)) ?_⟩
                    conv => whnf
                    refine ⟨_, And.intro ⟨?_, enc_get hs⟩ ?_⟩
                    · omega
                    conv => whnf
                    (refine And.intro ?_ ?_; ((first | (with_reducible assumption) | (intro _; with_reducible assumption) | omega | (simp only [reduceCtorEq, ints_len, bools_len, Bool.not_false, Bool.not_true, List.length_map, decide_eq_true_eq, decide_eq_false_iff_not, Bool.not_eq_true', Bool.not_eq_false', Bool.and_eq_true, Bool.or_eq_true, Bool.and_eq_false_iff, Bool.or_eq_false_iff, beq_iff_eq, bne_iff_ne, beq_eq_false_iff_ne, bne_eq_false_iff_eq, Int.not_lt, Int.not_le, ge_iff_le, gt_iff_lt, not_or, not_and, Bool.cond_true_right, Bool.cond_true_left, Bool.cond_false_right, Bool.cond_false_left, bif_t, bif_f] at *; omega) | (intro hg; (try simp only [reduceCtorEq, ints_len, bools_len, Bool.not_false, Bool.not_true, List.length_map, decide_eq_true_eq, decide_eq_false_iff_not, Bool.not_eq_true', Bool.not_eq_false', Bool.and_eq_true, Bool.or_eq_true, Bool.and_eq_false_iff, Bool.or_eq_false_iff, beq_iff_eq, bne_iff_ne, beq_eq_false_iff_ne, bne_eq_false_iff_eq, Int.not_lt, Int.not_le, ge_iff_le, gt_iff_lt, not_or, not_and, Bool.cond_true_right, Bool.cond_true_left, Bool.cond_false_right, Bool.cond_false_left, bif_t, bif_f] at hg); first | (with_reducible assumption) | omega | (simp only [reduceCtorEq, ints_len, bools_len, Bool.not_false, Bool.not_true, List.length_map, decide_eq_true_eq, decide_eq_false_iff_not, Bool.not_eq_true', Bool.not_eq_false', Bool.and_eq_true, Bool.or_eq_true, Bool.and_eq_false_iff, Bool.or_eq_false_iff, beq_iff_eq, bne_iff_ne, beq_eq_false_iff_ne, bne_eq_false_iff_eq, Int.not_lt, Int.not_le, ge_iff_le, gt_iff_lt, not_or, not_and, Bool.cond_true_right, Bool.cond_true_left, Bool.cond_false_right, Bool.cond_false_left, bif_t, bif_f] at *; omega) | (refine ⟨?_, ?_⟩ <;> omega)) | (refine ⟨?_, ?_⟩ <;> omega) | (simp [*]; done) | grind)); (conv => whnf))
                    (refine And.intro ?_ ?_; ((first | (with_reducible assumption) | (intro _; with_reducible assumption) | omega | (simp only [reduceCtorEq, ints_len, bools_len, Bool.not_false, Bool.not_true, List.length_map, decide_eq_true_eq, decide_eq_false_iff_not, Bool.not_eq_true', Bool.not_eq_false', Bool.and_eq_true, Bool.or_eq_true, Bool.and_eq_false_iff, Bool.or_eq_false_iff, beq_iff_eq, bne_iff_ne, beq_eq_false_iff_ne, bne_eq_false_iff_eq, Int.not_lt, Int.not_le, ge_iff_le, gt_iff_lt, not_or, not_and, Bool.cond_true_right, Bool.cond_true_left, Bool.cond_false_right, Bool.cond_false_left, bif_t, bif_f] at *; omega) | (intro hg; (try simp only [reduceCtorEq, ints_len, bools_len, Bool.not_false, Bool.not_true, List.length_map, decide_eq_true_eq, decide_eq_false_iff_not, Bool.not_eq_true', Bool.not_eq_false', Bool.and_eq_true, Bool.or_eq_true, Bool.and_eq_false_iff, Bool.or_eq_false_iff, beq_iff_eq, bne_iff_ne, beq_eq_false_iff_ne, bne_eq_false_iff_eq, Int.not_lt, Int.not_le, ge_iff_le, gt_iff_lt, not_or, not_and, Bool.cond_true_right, Bool.cond_true_left, Bool.cond_false_right, Bool.cond_false_left, bif_t, bif_f] at hg); first | (with_reducible assumption) | omega | (simp only [reduceCtorEq, ints_len, bools_len, Bool.not_false, Bool.not_true, List.length_map, decide_eq_true_eq, decide_eq_false_iff_not, Bool.not_eq_true', Bool.not_eq_false', Bool.and_eq_true, Bool.or_eq_true, Bool.and_eq_false_iff, Bool.or_eq_false_iff, beq_iff_eq, bne_iff_ne, beq_eq_false_iff_ne, bne_eq_false_iff_eq, Int.not_lt, Int.not_le, ge_iff_le, gt_iff_lt, not_or, not_and, Bool.cond_true_right, Bool.cond_true_left, Bool.cond_false_right, Bool.cond_false_left, bif_t, bif_f] at *; omega) | (refine ⟨?_, ?_⟩ <;> omega)) | (refine ⟨?_, ?_⟩ <;> omega) | (simp [*]; done) | grind)); (conv => whnf))
                    refine ⟨by rw [map_len]; simp only [List.length_cons, List.length_nil]; omega, ?_⟩
                    conv => whnf
                    refine ⟨?_, ?_⟩
                    · conv => whnf
                      (refine And.intro ?_ ?_; ((first | (with_reducible assumption) | (intro _; with_reducible assumption) | omega | (simp only [reduceCtorEq, ints_len, bools_len, Bool.not_false, Bool.not_true, List.length_map, decide_eq_true_eq, decide_eq_false_iff_not, Bool.not_eq_true', Bool.not_eq_false', Bool.and_eq_true, Bool.or_eq_true, Bool.and_eq_false_iff, Bool.or_eq_false_iff, beq_iff_eq, bne_iff_ne, beq_eq_false_iff_ne, bne_eq_false_iff_eq, Int.not_lt, Int.not_le, ge_iff_le, gt_iff_lt, not_or, not_and, Bool.cond_true_right, Bool.cond_true_left, Bool.cond_false_right, Bool.cond_false_left, bif_t, bif_f] at *; omega) | (intro hg; (try simp only [reduceCtorEq, ints_len, bools_len, Bool.not_false, Bool.not_true, List.length_map, decide_eq_true_eq, decide_eq_false_iff_not, Bool.not_eq_true', Bool.not_eq_false', Bool.and_eq_true, Bool.or_eq_true, Bool.and_eq_false_iff, Bool.or_eq_false_iff, beq_iff_eq, bne_iff_ne, beq_eq_false_iff_ne, bne_eq_false_iff_eq, Int.not_lt, Int.not_le, ge_iff_le, gt_iff_lt, not_or, not_and, Bool.cond_true_right, Bool.cond_true_left, Bool.cond_false_right, Bool.cond_false_left, bif_t, bif_f] at hg); first | (with_reducible assumption) | omega | (simp only [reduceCtorEq, ints_len, bools_len, Bool.not_false, Bool.not_true, List.length_map, decide_eq_true_eq, decide_eq_false_iff_not, Bool.not_eq_true', Bool.not_eq_false', Bool.and_eq_true, Bool.or_eq_true, Bool.and_eq_false_iff, Bool.or_eq_false_iff, beq_iff_eq, bne_iff_ne, beq_eq_false_iff_ne, bne_eq_false_iff_eq, Int.not_lt, Int.not_le, ge_iff_le, gt_iff_lt, not_or, not_and, Bool.cond_true_right, Bool.cond_true_left, Bool.cond_false_right, Bool.cond_false_left, bif_t, bif_f] at *; omega) | (refine ⟨?_, ?_⟩ <;> omega)) | (refine ⟨?_, ?_⟩ <;> omega) | (simp [*]; done) | grind)); (conv => whnf))
                      refine ⟨P.length - (j + 1), by omega, [], ?_⟩
                      conv => whnf
                      refine ⟨j + 1, .v (.c (.win 1 1 0 (P.map inC).length)), by omega, rfl, .inl rfl, ?_⟩
                      rw [h1]; rfl
                    · conv => whnf
                      (refine And.intro ?_ ?_; ((first | (with_reducible assumption) | (intro _; with_reducible assumption) | omega | (simp only [reduceCtorEq, ints_len, bools_len, Bool.not_false, Bool.not_true, List.length_map, decide_eq_true_eq, decide_eq_false_iff_not, Bool.not_eq_true', Bool.not_eq_false', Bool.and_eq_true, Bool.or_eq_true, Bool.and_eq_false_iff, Bool.or_eq_false_iff, beq_iff_eq, bne_iff_ne, beq_eq_false_iff_ne, bne_eq_false_iff_eq, Int.not_lt, Int.not_le, ge_iff_le, gt_iff_lt, not_or, not_and, Bool.cond_true_right, Bool.cond_true_left, Bool.cond_false_right, Bool.cond_false_left, bif_t, bif_f] at *; omega) | (intro hg; (try simp only [reduceCtorEq, ints_len, bools_len, Bool.not_false, Bool.not_true, List.length_map, decide_eq_true_eq, decide_eq_false_iff_not, Bool.not_eq_true', Bool.not_eq_false', Bool.and_eq_true, Bool.or_eq_true, Bool.and_eq_false_iff, Bool.or_eq_false_iff, beq_iff_eq, bne_iff_ne, beq_eq_false_iff_ne, bne_eq_false_iff_eq, Int.not_lt, Int.not_le, ge_iff_le, gt_iff_lt, not_or, not_and, Bool.cond_true_right, Bool.cond_true_left, Bool.cond_false_right, Bool.cond_false_left, bif_t, bif_f] at hg); first | (with_reducible assumption) | omega | (simp only [reduceCtorEq, ints_len, bools_len, Bool.not_false, Bool.not_true, List.length_map, decide_eq_true_eq, decide_eq_false_iff_not, Bool.not_eq_true', Bool.not_eq_false', Bool.and_eq_true, Bool.or_eq_true, Bool.and_eq_false_iff, Bool.or_eq_false_iff, beq_iff_eq, bne_iff_ne, beq_eq_false_iff_ne, bne_eq_false_iff_eq, Int.not_lt, Int.not_le, ge_iff_le, gt_iff_lt, not_or, not_and, Bool.cond_true_right, Bool.cond_true_left, Bool.cond_false_right, Bool.cond_false_left, bif_t, bif_f] at *; omega) | (refine ⟨?_, ?_⟩ <;> omega)) | (refine ⟨?_, ?_⟩ <;> omega) | (simp [*]; done) | grind)); (conv => whnf))
                      refine ⟨P.length - (j + 1), by omega, [], ?_⟩
                      conv => whnf
                      refine ⟨j + 1, .one (.d (.sl 1 ((((P ++ seg P s (k - 1) ++ (P.take j).map (· + k * s)).map inC).drop 0).take (P.map inC).length))), by omega, rfl, .inr (by rw [hcut]), ?_⟩
                      rw [h1]; rfl
                  · have hj' : j = P.length := by omega
                    have hrow : P ++ seg P s (k - 1) ++ (P.take j).map (· + k * s) = P ++ seg P s k := by
                      subst hj'
                      obtain ⟨k0, rfl⟩ : ∃ k0, k = k0 + 1 := ⟨k - 1, by omega⟩
                      rw [List.take_length, List.append_assoc]; rfl
                    (refine And.intro ?_ ?_; ((first | (with_reducible assumption) | (intro _; with_reducible assumption) | omega | (simp only [reduceCtorEq, ints_len, bools_len, Bool.not_false, Bool.not_true, List.length_map, decide_eq_true_eq, decide_eq_false_iff_not, Bool.not_eq_true', Bool.not_eq_false', Bool.and_eq_true, Bool.or_eq_true, Bool.and_eq_false_iff, Bool.or_eq_false_iff, beq_iff_eq, bne_iff_ne, beq_eq_false_iff_ne, bne_eq_false_iff_eq, Int.not_lt, Int.not_le, ge_iff_le, gt_iff_lt, not_or, not_and, Bool.cond_true_right, Bool.cond_true_left, Bool.cond_false_right, Bool.cond_false_left, bif_t, bif_f] at *; omega) | (intro hg; (try simp only [reduceCtorEq, ints_len, bools_len, Bool.not_false, Bool.not_true, List.length_map, decide_eq_true_eq, decide_eq_false_iff_not, Bool.not_eq_true', Bool.not_eq_false', Bool.and_eq_true, Bool.or_eq_true, Bool.and_eq_false_iff, Bool.or_eq_false_iff, beq_iff_eq, bne_iff_ne, beq_eq_false_iff_ne, bne_eq_false_iff_eq, Int.not_lt, Int.not_le, ge_iff_le, gt_iff_lt, not_or, not_and, Bool.cond_true_right, Bool.cond_true_left, Bool.cond_false_right, Bool.cond_false_left, bif_t, bif_f] at hg); first | (with_reducible assumption) | omega | (simp only [reduceCtorEq, ints_len, bools_len, Bool.not_false, Bool.not_true, List.length_map, decide_eq_true_eq, decide_eq_false_iff_not, Bool.not_eq_true', Bool.not_eq_false', Bool.and_eq_true, Bool.or_eq_true, Bool.and_eq_false_iff, Bool.or_eq_false_iff, beq_iff_eq, bne_iff_ne, beq_eq_false_iff_ne, bne_eq_false_iff_eq, Int.not_lt, Int.not_le, ge_iff_le, gt_iff_lt, not_or, not_and, Bool.cond_true_right, Bool.cond_true_left, Bool.cond_false_right, Bool.cond_false_left, bif_t, bif_f] at *; omega) | (refine ⟨?_, ?_⟩ <;> omega)) | (refine ⟨?_, ?_⟩ <;> omega) | (simp [*]; done) | grind)); (conv => whnf))
                    refine ⟨(n - (k + 1)).toNat, by omega, [], ?_⟩
                    conv => whnf
                    refine ⟨k + 1, .v (.c (.win 1 1 0 (P.map inC).length)), by omega, by omega, by omega, .inl rfl, ?_⟩
                    rw [hrow]; rfl
                · conv => whnf
                  ((with_reducible refine And.intro (fun (e : (_ : Bool) = true) => ?_) (fun (e : (_ : Bool) = false) => ?_)) <;> (try simp only [reduceCtorEq, ints_len, bools_len, Bool.not_false, Bool.not_true, List.length_map, decide_eq_true_eq, decide_eq_false_iff_not, Bool.not_eq_true', Bool.not_eq_false', Bool.and_eq_true, Bool.or_eq_true, Bool.and_eq_false_iff, Bool.or_eq_false_iff, beq_iff_eq, bne_iff_ne, beq_eq_false_iff_ne, bne_eq_false_iff_eq, Int.not_lt, Int.not_le, ge_iff_le, gt_iff_lt, not_or, not_and, Bool.cond_true_right, Bool.cond_true_left, Bool.cond_false_right, Bool.cond_false_left, bif_t, bif_f] at e) <;> (conv => whnf))
                  · obtain ⟨y, hy⟩ := get_lt (l := P) (i := j) (by omega)
                    have hyv := hpv y (List.mem_of_getElem? hy)
                    have h1 : (P ++ seg P s (k - 1) ++ (P.take (j + 1)).map (· + k * s)).map inC = (P ++ seg P s (k - 1) ++ (P.take j).map (· + k * s)).map inC ++ [inC (y + k * s)] := by rw [hstep y hy, List.map_append]; rfl
                    refine ⟨_, And.intro ⟨?_, enc_get hy⟩ ?_⟩
                    · omega
                    conv => whnf
                    refine ⟨_, And.intro ⟨?_, enc_get hs⟩ ?_⟩
                    · omega
                    conv => whnf
                    (refine And.intro ?_ ?_; ((first | (with_reducible assumption) | (intro _; with_reducible assumption) | omega | (simp only [reduceCtorEq, ints_len, bools_len, Bool.not_false, Bool.not_true, List.length_map, decide_eq_true_eq, decide_eq_false_iff_not, Bool.not_eq_true', Bool.not_eq_false', Bool.and_eq_true, Bool.or_eq_true, Bool.and_eq_false_iff, Bool.or_eq_false_iff, beq_iff_eq, bne_iff_ne, beq_eq_false_iff_ne, bne_eq_false_iff_eq, Int.not_lt, Int.not_le, ge_iff_le, gt_iff_lt, not_or, not_and, Bool.cond_true_right, Bool.cond_true_left, Bool.cond_false_right, Bool.cond_false_left, bif_t, bif_f] at *; omega) | (intro hg; (try simp only [reduceCtorEq, ints_len, bools_len, Bool.not_false, Bool.not_true, List.length_map, decide_eq_true_eq, decide_eq_false_iff_not, Bool.not_eq_true', Bool.not_eq_false', Bool.and_eq_true, Bool.or_eq_true, Bool.and_eq_false_iff, Bool.or_eq_false_iff, beq_iff_eq, bne_iff_ne, beq_eq_false_iff_ne, bne_eq_false_iff_eq, Int.not_lt, Int.not_le, ge_iff_le, gt_iff_lt, not_or, not_and, Bool.cond_true_right, Bool.cond_true_left, Bool.cond_false_right, Bool.cond_false_left, bif_t, bif_f] at hg); first | (with_reducible assumption) | omega | (simp only [reduceCtorEq, ints_len, bools_len, Bool.not_false, Bool.not_true, List.length_map, decide_eq_true_eq, decide_eq_false_iff_not, Bool.not_eq_true', Bool.not_eq_false', Bool.and_eq_true, Bool.or_eq_true, Bool.and_eq_false_iff, Bool.or_eq_false_iff, beq_iff_eq, bne_iff_ne, beq_eq_false_iff_ne, bne_eq_false_iff_eq, Int.not_lt, Int.not_le, ge_iff_le, gt_iff_lt, not_or, not_and, Bool.cond_true_right, Bool.cond_true_left, Bool.cond_false_right, Bool.cond_false_left, bif_t, bif_f] at *; omega) | (refine ⟨?_, ?_⟩ <;> omega)) | (refine ⟨?_, ?_⟩ <;> omega) | (simp [*]; done) | grind)); (conv => whnf))
                    (refine And.intro ?_ ?_; ((first | (with_reducible assumption) | (intro _; with_reducible assumption) | omega | (simp only [reduceCtorEq, ints_len, bools_len, Bool.not_false, Bool.not_true, List.length_map, decide_eq_true_eq, decide_eq_false_iff_not, Bool.not_eq_true', Bool.not_eq_false', Bool.and_eq_true, Bool.or_eq_true, Bool.and_eq_false_iff, Bool.or_eq_false_iff, beq_iff_eq, bne_iff_ne, beq_eq_false_iff_ne, bne_eq_false_iff_eq, Int.not_lt, Int.not_le, ge_iff_le, gt_iff_lt, not_or, not_and, Bool.cond_true_right, Bool.cond_true_left, Bool.cond_false_right, Bool.cond_false_left, bif_t, bif_f] at *; omega) | (intro hg; (try simp only [reduceCtorEq, ints_len, bools_len, Bool.not_false, Bool.not_true, List.length_map, decide_eq_true_eq, decide_eq_false_iff_not, Bool.not_eq_true', Bool.not_eq_false', Bool.and_eq_true, Bool.or_eq_true, Bool.and_eq_false_iff, Bool.or_eq_false_iff, beq_iff_eq, bne_iff_ne, beq_eq_false_iff_ne, bne_eq_false_iff_eq, Int.not_lt, Int.not_le, ge_iff_le, gt_iff_lt, not_or, not_and, Bool.cond_true_right, Bool.cond_true_left, Bool.cond_false_right, Bool.cond_false_left, bif_t, bif_f] at hg); first | (with_reducible assumption) | omega | (simp only [reduceCtorEq, ints_len, bools_len, Bool.not_false, Bool.not_true, List.length_map, decide_eq_true_eq, decide_eq_false_iff_not, Bool.not_eq_true', Bool.not_eq_false', Bool.and_eq_true, Bool.or_eq_true, Bool.and_eq_false_iff, Bool.or_eq_false_iff, beq_iff_eq, bne_iff_ne, beq_eq_false_iff_ne, bne_eq_false_iff_eq, Int.not_lt, Int.not_le, ge_iff_le, gt_iff_lt, not_or, not_and, Bool.cond_true_right, Bool.cond_true_left, Bool.cond_false_right, Bool.cond_false_left, bif_t, bif_f] at *; omega) | (refine ⟨?_, ?_⟩ <;> omega)) | (refine ⟨?_, ?_⟩ <;> omega) | (simp [*]; done) | grind)); (conv => whnf))
                    refine ⟨by rw [map_len]; simp only [List.length_cons, List.length_nil]; omega, ?_⟩
                    conv => whnf
                    (refine And.intro ?_ ?_; ((first | (with_reducible assumption) | (intro _; with_reducible assumption) | omega | (simp only [reduceCtorEq, ints_len, bools_len, Bool.not_false, Bool.not_true, List.length_map, decide_eq_true_eq, decide_eq_false_iff_not, Bool.not_eq_true', Bool.not_eq_false', Bool.and_eq_true, Bool.or_eq_true, Bool.and_eq_false_iff, Bool.or_eq_false_iff, beq_iff_eq, bne_iff_ne, beq_eq_false_iff_ne, bne_eq_false_iff_eq, Int.not_lt, Int.not_le, ge_iff_le, gt_iff_lt, not_or, not_and, Bool.cond_true_right, Bool.cond_true_left, Bool.cond_false_right, Bool.cond_false_left, bif_t, bif_f] at *; omega) | (intro hg; (try simp only [reduceCtorEq, ints_len, bools_len, Bool.not_false, Bool.not_true, List.length_map, decide_eq_true_eq, decide_eq_false_iff_not, Bool.not_eq_true', Bool.not_eq_false', Bool.and_eq_true, Bool.or_eq_true, Bool.and_eq_false_iff, Bool.or_eq_false_iff, beq_iff_eq, bne_iff_ne, beq_eq_false_iff_ne, bne_eq_false_iff_eq, Int.not_lt, Int.not_le, ge_iff_le, gt_iff_lt, not_or, not_and, Bool.cond_true_right, Bool.cond_true_left, Bool.cond_false_right, Bool.cond_false_left, bif_t, bif_f] at hg); first | (with_reducible assumption) | omega | (simp only [reduceCtorEq, ints_len, bools_len, Bool.not_false, Bool.not_true, List.length_map, decide_eq_true_eq, decide_eq_false_iff_not, Bool.not_eq_true', Bool.not_eq_false', Bool.and_eq_true, Bool.or_eq_true, Bool.and_eq_false_iff, Bool.or_eq_false_iff, beq_iff_eq, bne_iff_ne, beq_eq_false_iff_ne, bne_eq_false_iff_eq, Int.not_lt, Int.not_le, ge_iff_le, gt_iff_lt, not_or, not_and, Bool.cond_true_right, Bool.cond_true_left, Bool.cond_false_right, Bool.cond_false_left, bif_t, bif_f] at *; omega) | (refine ⟨?_, ?_⟩ <;> omega)) | (refine ⟨?_, ?_⟩ <;> omega) | (simp [*]; done) | grind)); (conv => whnf))
                    refine ⟨P.length - (j + 1), by omega, [], ?_⟩
                    conv => whnf
                    refine ⟨j + 1, .one (.d (.sl 1 (P.map inC))), by omega, rfl, .inr rfl, ?_⟩
                    rw [h1]; rfl
                  · have hj' : j = P.length := by omega
                    have hrow : P ++ seg P s (k - 1) ++ (P.take j).map (· + k * s) = P ++ seg P s k := by
                      subst hj'
                      obtain ⟨k0, rfl⟩ : ∃ k0, k = k0 + 1 := ⟨k - 1, by omega⟩
                      rw [List.take_length, List.append_assoc]; rfl
                    (refine And.intro ?_ ?_; ((first | (with_reducible assumption) | (intro _; with_reducible assumption) | omega | (simp only [reduceCtorEq, ints_len, bools_len, Bool.not_false, Bool.not_true, List.length_map, decide_eq_true_eq, decide_eq_false_iff_not, Bool.not_eq_true', Bool.not_eq_false', Bool.and_eq_true, Bool.or_eq_true, Bool.and_eq_false_iff, Bool.or_eq_false_iff, beq_iff_eq, bne_iff_ne, beq_eq_false_iff_ne, bne_eq_false_iff_eq, Int.not_lt, Int.not_le, ge_iff_le, gt_iff_lt, not_or, not_and, Bool.cond_true_right, Bool.cond_true_left, Bool.cond_false_right, Bool.cond_false_left, bif_t, bif_f] at *; omega) | (intro hg; (try simp only [reduceCtorEq, ints_len, bools_len, Bool.not_false, Bool.not_true, List.length_map, decide_eq_true_eq, decide_eq_false_iff_not, Bool.not_eq_true', Bool.not_eq_false', Bool.and_eq_true, Bool.or_eq_true, Bool.and_eq_false_iff, Bool.or_eq_false_iff, beq_iff_eq, bne_iff_ne, beq_eq_false_iff_ne, bne_eq_false_iff_eq, Int.not_lt, Int.not_le, ge_iff_le, gt_iff_lt, not_or, not_and, Bool.cond_true_right, Bool.cond_true_left, Bool.cond_false_right, Bool.cond_false_left, bif_t, bif_f] at hg); first | (with_reducible assumption) | omega | (simp only [reduceCtorEq, ints_len, bools_len, Bool.not_false, Bool.not_true, List.length_map, decide_eq_true_eq, decide_eq_false_iff_not, Bool.not_eq_true', Bool.not_eq_false', Bool.and_eq_true, Bool.or_eq_true, Bool.and_eq_false_iff, Bool.or_eq_false_iff, beq_iff_eq, bne_iff_ne, beq_eq_false_iff_ne, bne_eq_false_iff_eq, Int.not_lt, Int.not_le, ge_iff_le, gt_iff_lt, not_or, not_and, Bool.cond_true_right, Bool.cond_true_left, Bool.cond_false_right, Bool.cond_false_left, bif_t, bif_f] at *; omega) | (refine ⟨?_, ?_⟩ <;> omega)) | (refine ⟨?_, ?_⟩ <;> omega) | (simp [*]; done) | grind)); (conv => whnf))
                    refine ⟨(n - (k + 1)).toNat, by omega, [], ?_⟩
                    conv => whnf
                    refine ⟨k + 1, .one (.d (.sl 1 (P.map inC))), by omega, by omega, by omega, .inr rfl, ?_⟩
                    rw [hrow]; rfl
            · (refine And.intro ?_ ?_; ((first | (with_reducible assumption) | (intro _; with_reducible assumption) | omega | (simp only [reduceCtorEq, ints_len, bools_len, Bool.not_false, Bool.not_true, List.length_map, decide_eq_true_eq, decide_eq_false_iff_not, Bool.not_eq_true', Bool.not_eq_false', Bool.and_eq_true, Bool.or_eq_true, Bool.and_eq_false_iff, Bool.or_eq_false_iff, beq_iff_eq, bne_iff_ne, beq_eq_false_iff_ne, bne_eq_false_iff_eq, Int.not_lt, Int.not_le, ge_iff_le, gt_iff_lt, not_or, not_and, Bool.cond_true_right, Bool.cond_true_left, Bool.cond_false_right, Bool.cond_false_left, bif_t, bif_f] at *; omega) | (intro hg; (try simp only [reduceCtorEq, ints_len, bools_len, Bool.not_false, Bool.not_true, List.length_map, decide_eq_true_eq, decide_eq_false_iff_not, Bool.not_eq_true', Bool.not_eq_false', Bool.and_eq_true, Bool.or_eq_true, Bool.and_eq_false_iff, Bool.or_eq_false_iff, beq_iff_eq, bne_iff_ne, beq_eq_false_iff_ne, bne_eq_false_iff_eq, Int.not_lt, Int.not_le, ge_iff_le, gt_iff_lt, not_or, not_and, Bool.cond_true_right, Bool.cond_true_left, Bool.cond_false_right, Bool.cond_false_left, bif_t, bif_f] at hg); first | (with_reducible assumption) | omega | (simp only [reduceCtorEq, ints_len, bools_len, Bool.not_false, Bool.not_true, List.length_map, decide_eq_true_eq, decide_eq_false_iff_not, Bool.not_eq_true', Bool.not_eq_false', Bool.and_eq_true, Bool.or_eq_true, Bool.and_eq_false_iff, Bool.or_eq_false_iff, beq_iff_eq, bne_iff_ne, beq_eq_false_iff_ne, bne_eq_false_iff_eq, Int.not_lt, Int.not_le, ge_iff_le, gt_iff_lt, not_or, not_and, Bool.cond_true_right, Bool.cond_true_left, Bool.cond_false_right, Bool.cond_false_left, bif_t, bif_f] at *; omega) | (refine ⟨?_, ?_⟩ <;> omega)) | (refine ⟨?_, ?_⟩ <;> omega) | (simp [*]; done) | grind)); (conv => whnf))
              refine ⟨l.length - (i + 1), by omega, [], ?_⟩
              conv => whnf
              refine ⟨i + 1, by omega, rfl, ?_⟩
              rw [hnext, show (n - 1).toNat = k - 1 by omega]; rfl
      · have hi' : i = l.length := by omega
        subst hi'
        refine ⟨[], ?_⟩
        conv => whnf
        exact ⟨[1], by simp, .cons ⟨_, rfl, rfl, rfl⟩ .nil, rfl⟩
end Go.Proofs.Ytahdihhhankhdaa.V

