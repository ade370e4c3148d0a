/-
  V: contracts of functions, texts of the session's own hand, in one file.
-/
import Derived.Test.YtahdihhhankhdaaGreatGKernelSafe2
import Derived.Test.YtahdihhhankhdaaGreatGKernelSafe1
import Derived.Test.YtahdihhhankhdaaGreatRows
import Derived.Below
import Derived.RowKit
set_option linter.unusedVariables false
set_option linter.unusedSimpArgs false
set_option maxRecDepth 100000
set_option linter.all false
set_option linter.unnecessarySimpa false
set_option linter.deprecated false
-- Zu
namespace Go.Proofs.YtahdihhhankhdaaGreat.V
open Go.Proofs.YtahdihhhankhdaaGreatVY Go.RowKit
def valC (x : Int) : List D := [.int .i64 1, .int .i64 x]
/-- the memory behind so many stores -/
def stN : Nat → List Int
  | 0 => upN 5
  | j + 1 => (stN j).set (1 + j) ((j : Int) + 1)
def stB : Nat → List Bool
  | 0 => trues 5
  | j + 1 => (stB j).set (1 + j) true
theorem stN_len : ∀ j, (stN j).length = 5
  | 0 => upN_len 5
  | j + 1 => by rw [stN, List.length_set, stN_len j]
theorem stB_len : ∀ j, (stB j).length = 5
  | 0 => trues_len 5
  | j + 1 => by rw [stB, List.length_set, stB_len j]
theorem upN_get {n i : Nat} (h : i < n) : (upN n)[i]? = some ((i : Int) + 1) := by
  unfold upN; rw [List.getElem?_map, List.getElem?_range h]; rfl
theorem trues_get {n i : Nat} (h : i < n) : (trues n)[i]? = some true := by
  unfold trues; rw [List.getElem?_replicate, if_pos h]
def its (n : Nat) : List Int := (List.range n).map fun (i : Nat) => (i : Int)
theorem its_len (n : Nat) : (its n).length = n := by simp [its]
theorem its_get {n i : Nat} (h : i < n) : (its n)[i]? = some (i : Int) := by
  unfold its; rw [List.getElem?_map, List.getElem?_range h]; rfl
theorem its_succ (i : Nat) : its (i + 1) = its i ++ [(i : Int)] := by unfold its; rw [List.range_succ, List.map_append]; rfl
def R32 : Ct := fun ss hp r out => ∃ (v0 v1 v2 v3 : Value), ss = [.one (.ptr 0 0), .di .i64 0, .one (.d (.sl 1 ((its 4).map inC)))] ∧
  hp = [.box (runB 1), .rowt 3 [] [.d (.int .i64 1), .own 2, .own 3], .row 1 ((stN 0).map inC), .row 1 (bools (stB 0)), .mem v0 (.ptr 0 0), .mem v1 (.own 1), .mem v2 (.own 2), .mem v3 (.own 3)] ∧ r = .tup [] ∧
  out = [.box (runB 1), .rowt 3 [] [.d (.int .i64 1), .own 2, .own 3], .row 1 ((stN 4).map inC), .row 1 (bools (stB 4)), .mem v0 (.ptr 0 0), .mem v1 (.own 1), .mem v2 (.own 2), .mem v3 (.own 3)]
set_option maxHeartbeats 4000000 in
theorem ok32 : VSound Tryz.prog (32, R32) := by
  refine vsound (T := ty) (F := [(51, R51), (52, R52)]) (pl := []) (nw := true) (cuts := []) mix tyOk (.cons (ok51) (.cons (ok52) .nil)) Tryz.func32 (by kernel_rfl) (by kernel_rfl) ?_
  rintro _ _ _ _ ⟨v0, v1, v2, v3, rfl, rfl, rfl, rfl⟩
  conv => whnf
  refine ⟨[.slot 6 true, .slot 7 true], [0, 1, 2, 6, 7, 14, 15, 16], 10, fun n1 σ => ∃ i : Nat, i ≤ 4 ∧ n1 = 4 - i ∧ σ = (⟨[.one (.ptr 0 0), .di .i64 0, .one (.d (.sl 1 ((its 4).map inC))), .junk, .junk, .junk, .one (.own 8), .one (.own 9), .junk, .junk, .junk, .junk, .junk, .junk, .one (.d (.sl 1 ((its 4).map inC))), .di .i64 4, .di .i64 i, .junk, .junk, .junk, .junk, .junk, .junk, .junk, .junk, .junk, .junk, .junk, .junk, .junk, .junk, .junk, .junk, .junk, .junk, .junk, .junk, .junk, .junk, .junk, .junk, .junk, .junk, .junk, .junk, .junk, .junk, .junk, .junk, .junk, .junk, .junk, .junk, .junk, .junk, .junk], [.box (runB 1), .rowt 3 [] [.d (.int .i64 1), .own 2, .own 3], .row 1 ((stN 0).map inC), .row 1 (bools (stB 0)), .mem v0 (.ptr 0 0), .mem v1 (.own 1), .mem v2 (.own 2), .mem v3 (.own 3), .row 2 ((upN i).map valC), .row 1 (bools (trues i))]⟩ : St), ?_, ?_⟩
  · refine ⟨4, ?_⟩
    conv => whnf
    exact ⟨0, by omega, by omega, rfl⟩
  · rintro n1 _ ⟨i, hi, rfl, rfl⟩
    conv => whnf
    ((with_reducible refine And.intro (fun (e : (_ : Bool) = true) => ?_) (fun (e : (_ : Bool) = false) => ?_)) <;> (try simp only [reduceCtorEq, ints_len, bools_len, bif_t, bif_f, zv0, zv1, zv2, zv3, zv4, zv5, zv6, zv7, zv8, zv9, zv10, zv11, zv12, zv13, zv14, zv15, zv16, zv17, zv18, zv19, zv20, zv21, zv22, zv23, zv24] at e) <;> (conv => whnf))
    · have hx := its_get (n := 4) (i := i) (by omega)
      (refine ⟨_, And.intro ⟨by omega, enc_get hx⟩ ?_⟩; (conv => whnf))
      (refine ⟨[], false, false, ?_⟩; (conv => whnf); refine ⟨_, _, ⟨upN 5, trues 5, i, (i : Int) + 1, rfl, rfl, by rw [upN_len], by omega, upN_get (by omega), trues_get (by omega), rfl, rfl⟩, ?_⟩; (conv => whnf))
      repeat' (first | (refine And.intro ?_ ?_; (rw [map_len, upN_len]; simp only [List.length_cons, List.length_nil]; omega); (conv => whnf)) | (refine And.intro ?_ ?_; (rw [bools_len, trues_len]; simp only [List.length_cons, List.length_nil]; omega); (conv => whnf)) | (refine And.intro ?_ ?_; ((first | (with_reducible assumption) | (intro _; with_reducible assumption) | omega | (simp only [reduceCtorEq, ints_len, bools_len, bif_t, bif_f, zv0, zv1, zv2, zv3, zv4, zv5, zv6, zv7, zv8, zv9, zv10, zv11, zv12, zv13, zv14, zv15, zv16, zv17, zv18, zv19, zv20, zv21, zv22, zv23, zv24] at *; omega) | (intro hg; (try simp only [reduceCtorEq, ints_len, bools_len, bif_t, bif_f, zv0, zv1, zv2, zv3, zv4, zv5, zv6, zv7, zv8, zv9, zv10, zv11, zv12, zv13, zv14, zv15, zv16, zv17, zv18, zv19, zv20, zv21, zv22, zv23, zv24] at hg); first | (with_reducible assumption) | omega | (simp only [reduceCtorEq, ints_len, bools_len, bif_t, bif_f, zv0, zv1, zv2, zv3, zv4, zv5, zv6, zv7, zv8, zv9, zv10, zv11, zv12, zv13, zv14, zv15, zv16, zv17, zv18, zv19, zv20, zv21, zv22, zv23, zv24] at *; omega) | (refine ⟨?_, ?_⟩ <;> omega)) | (refine ⟨?_, ?_⟩ <;> omega) | (simp [*]; done) | grind)); (conv => whnf)) | (refine And.intro ?_ ?_ <;> (conv => whnf)))
      all_goals
        refine ⟨4 - (i + 1), by omega, [], ?_⟩
        conv => whnf
        refine ⟨i + 1, by omega, rfl, ?_⟩
        rw [upN_succ, trues_succ, List.map_append]; unfold bools; rw [List.map_append]; rfl
    · have hi' : i = 4 := by omega
      subst hi'
      refine ⟨[], [0, 1, 6, 7, 36, 37, 38], 10, fun n1 σ => ∃ j : Nat, j ≤ 4 ∧ n1 = 4 - j ∧ σ = (⟨[.one (.ptr 0 0), .di .i64 0, .junk, .junk, .junk, .junk, .one (.own 8), .one (.own 9), .junk, .junk, .junk, .junk, .junk, .junk, .junk, .junk, .junk, .junk, .junk, .junk, .junk, .junk, .junk, .junk, .junk, .junk, .junk, .junk, .junk, .junk, .junk, .junk, .junk, .junk, .junk, .junk, .one (.d (.sl 1 ((its 4).map inC))), .di .i64 4, .di .i64 j, .junk, .junk, .junk, .junk, .junk, .junk, .junk, .junk, .junk, .junk, .junk, .junk, .junk, .junk, .junk, .junk, .junk], [.box (runB 1), .rowt 3 [] [.d (.int .i64 1), .own 2, .own 3], .row 1 ((stN j).map inC), .row 1 (bools (stB j)), .mem v0 (.ptr 0 0), .mem v1 (.own 1), .mem v2 (.own 2), .mem v3 (.own 3), .row 2 ((upN 4).map valC), .row 1 (bools (trues 4))]⟩ : St), ?_, ?_⟩
      · refine ⟨4, ?_⟩
        conv => whnf
        exact ⟨0, by omega, by omega, rfl⟩
      · rintro n1 _ ⟨j, hj, rfl, rfl⟩
        conv => whnf
        ((with_reducible refine And.intro (fun (e : (_ : Bool) = true) => ?_) (fun (e : (_ : Bool) = false) => ?_)) <;> (try simp only [reduceCtorEq, ints_len, bools_len, bif_t, bif_f, zv0, zv1, zv2, zv3, zv4, zv5, zv6, zv7, zv8, zv9, zv10, zv11, zv12, zv13, zv14, zv15, zv16, zv17, zv18, zv19, zv20, zv21, zv22, zv23, zv24] at e) <;> (conv => whnf))
        · have hx := its_get (n := 4) (i := j) (by omega)
          (refine ⟨_, And.intro ⟨by omega, enc_get hx⟩ ?_⟩; (conv => whnf))
          have hbt : (bools (trues 4))[(j : Int).toNat]? = some [.bool true] := by
            rw [Int.toNat_natCast]; unfold bools; rw [List.getElem?_map, trues_get (by omega)]; rfl
          refine And.intro ⟨by omega, by rw [bools_len, trues_len]; omega⟩ ?_
          conv => whnf
          refine ⟨_, And.intro hbt ?_⟩
          conv => whnf
          refine ⟨fun _ => ?_, fun h => absurd h (by decide)⟩
          conv => whnf
          refine And.intro ⟨by omega, by rw [map_len, upN_len]; omega⟩ ?_
          conv => whnf
          refine ⟨_, And.intro (enc_get (upN_get (by omega))) ?_⟩
          conv => whnf
          refine ⟨[0, 1, 2, 3], false, false, ?_⟩
          conv => whnf
          intro u0 u1 u2 u3
          conv => whnf
          refine ⟨_, _, ⟨stN j, stB j, j, (j : Int) + 1, u0, u1, u2, u3, rfl, rfl, stN_len j, stB_len j, by omega, rfl, rfl⟩, ?_⟩
          conv => whnf
          refine ⟨rfl, ?_⟩
          conv => whnf
          refine ⟨rfl, ?_⟩
          conv => whnf
          refine ⟨rfl, ?_⟩
          conv => whnf
          refine ⟨rfl, ?_⟩
          conv => whnf
          (refine And.intro ?_ ?_; ((first | (with_reducible assumption) | (intro _; with_reducible assumption) | omega | (simp only [reduceCtorEq, ints_len, bools_len, bif_t, bif_f, zv0, zv1, zv2, zv3, zv4, zv5, zv6, zv7, zv8, zv9, zv10, zv11, zv12, zv13, zv14, zv15, zv16, zv17, zv18, zv19, zv20, zv21, zv22, zv23, zv24] at *; omega) | (intro hg; (try simp only [reduceCtorEq, ints_len, bools_len, bif_t, bif_f, zv0, zv1, zv2, zv3, zv4, zv5, zv6, zv7, zv8, zv9, zv10, zv11, zv12, zv13, zv14, zv15, zv16, zv17, zv18, zv19, zv20, zv21, zv22, zv23, zv24] at hg); first | (with_reducible assumption) | omega | (simp only [reduceCtorEq, ints_len, bools_len, bif_t, bif_f, zv0, zv1, zv2, zv3, zv4, zv5, zv6, zv7, zv8, zv9, zv10, zv11, zv12, zv13, zv14, zv15, zv16, zv17, zv18, zv19, zv20, zv21, zv22, zv23, zv24] at *; omega) | (refine ⟨?_, ?_⟩ <;> omega)) | (refine ⟨?_, ?_⟩ <;> omega) | (simp [*]; done) | grind)); (conv => whnf))
          refine ⟨4 - (j + 1), by omega, [], ?_⟩
          conv => whnf
          exact ⟨j + 1, by omega, rfl, rfl⟩
        · have hj' : j = 4 := by omega
          subst hj'
          refine ⟨[], ?_⟩
          conv => whnf
          refine ⟨[0, 1, 2, 3, 4, 5, 6, 7], by simp, .cons ⟨_, rfl, ?_⟩ (.cons ⟨_, rfl, rfl, rfl, .cons rfl (.cons rfl (.cons rfl .nil))⟩ (.cons ⟨_, rfl, rfl, rfl⟩ (.cons ⟨_, rfl, rfl, rfl⟩ (.cons ⟨_, rfl, rfl, rfl, rfl⟩ (.cons ⟨_, rfl, rfl, rfl⟩ (.cons ⟨_, rfl, rfl, rfl⟩ (.cons ⟨_, rfl, rfl, rfl⟩ .nil))))))), .nil⟩
          unfold runB
          repeat' (first | exact All2.nil | refine All2.cons rfl ?_)
end Go.Proofs.YtahdihhhankhdaaGreat.V
-- Zv
namespace Go.Proofs.YtahdihhhankhdaaGreat.V
open Go.Proofs.YtahdihhhankhdaaGreatVY Go.RowKit
def missC : List C := [.d (.int .i64 0), .d (.int .i64 0), .d (.int .i64 0), .d (.int .i64 0)]
def R35 : Ct := fun ss hp r out => ∃ (v0 v1 v2 v3 : Value), ss = [.one (.ptr 0 0)] ∧
  hp = [.box (runB 1), .rowt 3 [] [.d (.int .i64 1), .own 2, .own 3], .row 1 ((stN 4).map inC), .row 1 (bools (stB 4)), .mem v0 (.ptr 0 0), .mem v1 (.own 1), .mem v2 (.own 2), .mem v3 (.own 3)] ∧ r = .tup [.c (.own 1), .ag missC, .c (.d (.int .i64 0))] ∧
  out = [.box (runB 1), .rowt 3 [] [.d (.int .i64 1), .own 2, .own 3], .row 1 ((stN 4).map inC), .row 1 (bools (stB 4)), .mem v0 (.ptr 0 0), .mem v1 (.own 1), .mem v2 (.own 2), .mem v3 (.own 3)]
set_option maxHeartbeats 4000000 in
theorem ok35 : VSound Tryz.prog (35, R35) := by
  refine vsound (T := ty) (F := []) (pl := [(2, [[], [0], [0, 1], [0, 1, 2], [], [0, 1, 2, 3, 4], [0, 1, 2, 3, 4, 5]], .look 0 (.look 1 (.look 2 (.look 3 (.look 4 (.act 5 [] (.look 6 .done) .stop))))))]) (nw := true) (cuts := []) mix tyOk .nil Tryz.func35 (by kernel_rfl) (by kernel_rfl) ?_
  rintro _ _ _ _ ⟨v0, v1, v2, v3, rfl, rfl, rfl, rfl⟩
  conv => whnf
  refine ⟨fun h => absurd h (by decide), fun _ => ?_⟩
  conv => whnf
  refine ⟨[], ?_⟩
  conv => whnf
  refine ⟨[0, 1, 2, 3, 4, 5, 6, 7], by simp, .cons ⟨_, rfl, ?_⟩ (.cons ⟨_, rfl, rfl, rfl, .cons rfl (.cons rfl (.cons rfl .nil))⟩ (.cons ⟨_, rfl, rfl, rfl⟩ (.cons ⟨_, rfl, rfl, rfl⟩ (.cons ⟨_, rfl, rfl, rfl, rfl⟩ (.cons ⟨_, rfl, rfl, rfl⟩ (.cons ⟨_, rfl, rfl, rfl⟩ (.cons ⟨_, rfl, rfl, rfl⟩ .nil))))))), .cons rfl (.cons (.cons rfl (.cons rfl (.cons rfl (.cons rfl .nil)))) (.cons rfl .nil))⟩
  unfold runB
  repeat' (first | exact All2.nil | refine All2.cons rfl ?_)
def R33 : Ct := fun ss hp r out => ss = [.di .i64 4] ∧ hp = [] ∧ r = .one (.own 0) ∧ out = [.row 1 ((its 4).map inC)]
set_option maxHeartbeats 4000000 in
theorem ok33 : VSound Tryz.prog (33, R33) := by
  refine vsound (T := ty) (F := []) (pl := []) (nw := true) (cuts := []) mix tyOk .nil Tryz.func33 (by kernel_rfl) (by kernel_rfl) ?_
  rintro _ _ _ _ ⟨rfl, rfl, rfl, rfl⟩
  conv => whnf
  refine ⟨[.slot 3 true], [3, 5, 6], 1, fun n1 σ => ∃ i : Nat, i ≤ 4 ∧ n1 = 4 - i ∧ σ = (⟨[.junk, .junk, .junk, .one (.own 0), .junk, .di .i64 4, .di .i64 i, .junk, .junk, .junk, .junk, .junk, .junk, .junk, .junk], [.row 1 ((its i).map inC)]⟩ : St), ?_, ?_⟩
  · refine ⟨4, ?_⟩
    conv => whnf
    exact ⟨0, by omega, by omega, rfl⟩
  · rintro n1 _ ⟨i, hi, rfl, rfl⟩
    conv => whnf
    ((with_reducible refine And.intro (fun (e : (_ : Bool) = true) => ?_) (fun (e : (_ : Bool) = false) => ?_)) <;> (try simp only [reduceCtorEq, ints_len, bools_len, bif_t, bif_f, zv0, zv1, zv2, zv3, zv4, zv5, zv6, zv7, zv8, zv9, zv10, zv11, zv12, zv13, zv14, zv15, zv16, zv17, zv18, zv19, zv20, zv21, zv22, zv23, zv24] at e) <;> (conv => whnf))
    · repeat' (first | (refine And.intro ?_ ?_; (rw [map_len, its_len]; simp only [List.length_cons, List.length_nil]; omega); (conv => whnf)) | (refine And.intro ?_ ?_; ((first | (with_reducible assumption) | (intro _; with_reducible assumption) | omega | (simp only [reduceCtorEq, ints_len, bools_len, bif_t, bif_f, zv0, zv1, zv2, zv3, zv4, zv5, zv6, zv7, zv8, zv9, zv10, zv11, zv12, zv13, zv14, zv15, zv16, zv17, zv18, zv19, zv20, zv21, zv22, zv23, zv24] at *; omega) | (intro hg; (try simp only [reduceCtorEq, ints_len, bools_len, bif_t, bif_f, zv0, zv1, zv2, zv3, zv4, zv5, zv6, zv7, zv8, zv9, zv10, zv11, zv12, zv13, zv14, zv15, zv16, zv17, zv18, zv19, zv20, zv21, zv22, zv23, zv24] at hg); first | (with_reducible assumption) | omega | (simp only [reduceCtorEq, ints_len, bools_len, bif_t, bif_f, zv0, zv1, zv2, zv3, zv4, zv5, zv6, zv7, zv8, zv9, zv10, zv11, zv12, zv13, zv14, zv15, zv16, zv17, zv18, zv19, zv20, zv21, zv22, zv23, zv24] at *; omega) | (refine ⟨?_, ?_⟩ <;> omega)) | (refine ⟨?_, ?_⟩ <;> omega) | (simp [*]; done) | grind)); (conv => whnf)) | (refine And.intro ?_ ?_ <;> (conv => whnf)))
      all_goals
        refine ⟨4 - (i + 1), by omega, [], ?_⟩
        conv => whnf
        refine ⟨i + 1, by omega, rfl, ?_⟩
        rw [its_succ, List.map_append]; rfl
    · have hi' : i = 4 := by omega
      subst hi'
      refine ⟨[], ?_⟩
      conv => whnf
      exact ⟨[0], by simp, .cons ⟨_, rfl, rfl, rfl⟩ .nil, rfl⟩
def R16 : Ct := fun ss hp r out => ss = [.one (.d (.sl 3 [storeC (upN 5) (trues 5)])), .v (.ag (K0.c.map .d))] ∧ hp = [] ∧ r = .tup [.c (.d (.sl 3 [storeC (stN 4) (stB 4)])), .ag missC, .c (.d (.int .i64 0))] ∧ out = []
set_option maxHeartbeats 4000000 in
theorem ok16 : VSound Tryz.prog (16, R16) := by
  refine vsound (T := ty) (F := [(30, R30), (31, R31), (32, R32), (33, R33), (34, R34), (35, R35)]) (pl := [(5, [[], [0], [], [0, 1, 2], [0, 1, 2, 3], [0, 1, 2, 3, 4]], .look 0 (.look 2 (.act 1 [2] (.look 3 (.act 4 [] (.look 5 .done) .stop)) .stop)))]) (nw := true) (cuts := []) mix tyOk (.cons (ok30) (.cons (ok31) (.cons (ok32) (.cons (ok33) (.cons (ok34) (.cons (ok35) .nil)))))) Tryz.func16 (by kernel_rfl) (by kernel_rfl) ?_
  rintro _ _ _ _ ⟨rfl, rfl, rfl, rfl⟩
  conv => whnf
  (refine ⟨[], false, false, ?_⟩; (conv => whnf); refine ⟨_, _, ⟨upN 5, trues 5, rfl, rfl, ⟨rfl, rfl, by decide⟩, rfl, rfl⟩, ?_⟩; (conv => whnf))
  refine ⟨fun h => absurd h (by decide), fun _ => ?_⟩
  conv => whnf
  refine ⟨fun h => absurd h (by decide +kernel), fun _ => ?_⟩
  conv => whnf
  (first | (refine And.intro ?_ ?_ <;> (conv => whnf)) | skip)
  all_goals
    (refine ⟨[], false, false, ?_⟩; (conv => whnf); refine ⟨_, _, ⟨upN 5, trues 5, rfl, rfl, rfl, rfl, rfl, rfl⟩, ?_⟩; (conv => whnf))
    (refine ⟨[], false, false, ?_⟩; (conv => whnf); refine ⟨_, _, ⟨[4], rfl, rfl, by decide, rfl, rfl⟩, ?_⟩; (conv => whnf))
    rw [show many [4] = 4 by decide +kernel]
    (refine ⟨[], false, false, ?_⟩; (conv => whnf); refine ⟨_, _, ⟨rfl, rfl, rfl, rfl⟩, ?_⟩; (conv => whnf))
    refine ⟨[5, 2, 3, 4], false, true, ?_⟩
    conv => whnf
    intro u0 u1 u2 u3
    conv => whnf
    refine ⟨_, _, ⟨u0, u1, u2, u3, rfl, rfl, rfl, rfl⟩, ?_⟩
    conv => whnf
    refine ⟨rfl, ?_⟩
    conv => whnf
    refine ⟨rfl, ?_⟩
    conv => whnf
    refine ⟨rfl, ?_⟩
    conv => whnf
    refine ⟨rfl, ?_⟩
    conv => whnf
    refine ⟨[5, 2, 3, 4], false, false, ?_⟩
    conv => whnf
    intro u0 u1 u2 u3
    conv => whnf
    refine ⟨_, _, ⟨u0, u1, u2, u3, rfl, rfl, rfl, rfl⟩, ?_⟩
    conv => whnf
    refine ⟨rfl, ?_⟩
    conv => whnf
    refine ⟨rfl, ?_⟩
    conv => whnf
    refine ⟨rfl, ?_⟩
    conv => whnf
    refine ⟨rfl, ?_⟩
    conv => whnf
    refine ⟨[.close 2], ?_⟩
    conv => whnf
    refine ⟨[], by simp, .nil, .cons (.inl ⟨rfl, by simp⟩) (.cons (.cons rfl (.cons rfl (.cons rfl (.cons rfl .nil)))) (.cons rfl .nil))⟩
end Go.Proofs.YtahdihhhankhdaaGreat.V
-- Zw
namespace Go.Proofs.YtahdihhhankhdaaGreat.V
open Go.Proofs.YtahdihhhankhdaaGreatVY Go.RowKit
theorem aw1 : (formed K0 && safeK K0) = false := by decide +kernel
theorem aw2 : safeErr K0 = 0 := by decide +kernel
theorem aw3 : revErr K0 = 0 := by decide +kernel
theorem aw4 : (formed (revK K0) && safeK (revK K0)) = true := by decide +kernel
theorem aw5 : safeErr (revK K0) = 0 := by decide +kernel
theorem aw6 : (stN 4)[4]? = some 4 := by decide +kernel
theorem aw7 : (stN 4)[1]? = some 1 := by decide +kernel
def R5 : Ct := fun ss hp r out => ss = [] ∧ hp = [] ∧ r = .db true ∧ out = []
set_option maxHeartbeats 4000000 in
theorem ok5 : VSound Tryz.prog (5, R5) := by
  refine vsound (T := ty) (F := [(6, R6), (8, R8), (15, R15), (16, R16)]) (pl := []) (nw := true) (cuts := []) mix tyOk (.cons (ok6) (.cons (ok8) (.cons (ok15) (.cons (ok16) .nil)))) Tryz.func5 (by kernel_rfl) (by kernel_rfl) ?_
  rintro _ _ _ _ ⟨rfl, rfl, rfl, rfl⟩
  conv => whnf
  (refine ⟨[], false, false, ?_⟩; (conv => whnf); refine ⟨_, _, ⟨rfl, rfl, rfl, rfl⟩, ?_⟩; (conv => whnf))
  refine ⟨[], false, false, ?_⟩
  conv => whnf
  refine ⟨_, _, ⟨K0, rfl, rfl, by decide +kernel, rfl, rfl⟩, ?_⟩
  rw [aw1, aw2]
  conv => whnf
  refine ⟨[], false, false, ?_⟩
  conv => whnf
  refine ⟨_, _, ⟨K0, rfl, rfl, by decide +kernel, rfl, rfl⟩, ?_⟩
  rw [aw3]
  conv => whnf
  refine ⟨[], false, false, ?_⟩
  conv => whnf
  refine ⟨_, _, ⟨revK K0, rfl, rfl, by decide +kernel, rfl, rfl⟩, ?_⟩
  rw [aw4, aw5]
  conv => whnf
  refine ⟨[], false, true, ?_⟩
  conv => whnf
  refine ⟨_, _, ⟨rfl, rfl, rfl, rfl⟩, ?_⟩
  conv => whnf

  repeat' (first | (refine ⟨_, And.intro (fun _ => ⟨by omega, rfl⟩) ?_⟩; (conv => whnf)) | (refine And.intro ?_ ?_; ((first | (with_reducible assumption) | (intro _; with_reducible assumption) | omega | (simp only [reduceCtorEq, ints_len, bools_len, bif_t, bif_f, zv0, zv1, zv2, zv3, zv4, zv5, zv6, zv7, zv8, zv9, zv10, zv11, zv12, zv13, zv14, zv15, zv16, zv17, zv18, zv19, zv20, zv21, zv22, zv23, zv24] at *; omega) | (intro hg; (try simp only [reduceCtorEq, ints_len, bools_len, bif_t, bif_f, zv0, zv1, zv2, zv3, zv4, zv5, zv6, zv7, zv8, zv9, zv10, zv11, zv12, zv13, zv14, zv15, zv16, zv17, zv18, zv19, zv20, zv21, zv22, zv23, zv24] at hg); first | (with_reducible assumption) | omega | (simp only [reduceCtorEq, ints_len, bools_len, bif_t, bif_f, zv0, zv1, zv2, zv3, zv4, zv5, zv6, zv7, zv8, zv9, zv10, zv11, zv12, zv13, zv14, zv15, zv16, zv17, zv18, zv19, zv20, zv21, zv22, zv23, zv24] at *; omega) | (refine ⟨?_, ?_⟩ <;> omega)) | (refine ⟨?_, ?_⟩ <;> omega) | (simp [*]; done) | grind)); (conv => whnf)) | (refine And.intro (fun h => h) ?_; (conv => whnf)) | (refine And.intro (fun _ => rfl) ?_; (conv => whnf)))
  refine ⟨[], ?_⟩
  conv => whnf
  refine ⟨[], by simp, .nil, ?_⟩
  first | rfl | decide +kernel | (show D.bool _ = D.bool _; decide +kernel)
end Go.Proofs.YtahdihhhankhdaaGreat.V
-- Zt
namespace Go.Proofs.YtahdihhhankhdaaGreat.V
open Go.Proofs.YtahdihhhankhdaaGreatVY Go.RowKit
theorem negs_negs (l : List Int) : negs (negs l) = l := by
  unfold negs; rw [List.map_map]
  conv => rhs; rw [← List.map_id l]
  exact List.map_congr_left fun x _ => Int.neg_neg x
theorem turnB_negs : ∀ E S : List Int, turnB E (negs S) = -turnB E S
  | [], _ => by simp [turnB]
  | _ :: _, [] => by simp [turnB, negs]
  | e :: E, s :: S => by
    have ih := turnB_negs E S
    show (if 0 < e then -s * (e - 1) else 0) + turnB E (negs S) = -((if 0 < e then s * (e - 1) else 0) + turnB E S)
    rw [ih]
    split
    · rw [Int.neg_mul]; omega
    · omega
theorem turnR_twice (ext : List Int) (x : Ref) : turnR ext (turnR ext x) = x := by
  obtain ⟨a, b, s⟩ := x
  unfold turnR
  simp only [turnB_negs, negs_negs]
  rw [show b + turnB ext s + -turnB ext s = b by omega]
mutual
theorem turnT_twice (ext : List Int) : ∀ t : Tree, turnT ext (turnT ext t) = t
  | .mk op kind n ref kids => by
    rw [turnT, turnT, turnTs_twice ext kids]
    split
    · rw [turnR_twice]
    · rfl
theorem turnTs_twice (ext : List Int) : ∀ l : List Tree, turnTs ext (turnTs ext l) = l
  | [] => rfl
  | t :: l => by rw [turnTs, turnTs, turnT_twice ext t, turnTs_twice ext l]
end
theorem turnK_twice (k : Kern) : turnK (turnK k) = k := by
  obtain ⟨e, l⟩ := k
  unfold turnK
  simp only [List.map_map]
  congr 1
  conv => rhs; rw [← List.map_id l]
  refine List.map_congr_left fun s _ => ?_
  obtain ⟨to, mask, val⟩ := s
  simp only [Function.comp, turnS, turnR_twice, turnT_twice, turnTs_twice, id]
theorem revOk_turn {k : Kern} (h : revOk k = true) : revOk (turnK k) = true := by
  unfold revOk at h ⊢
  rw [turnK_twice, Bool.and_comm]; exact h
theorem revK_twice {k : Kern} (h : revErr k = 0) : revErr (revK k) = 0 ∧ revK (revK k) = k := by
  have hk : revOk k = true := by
    unfold revErr at h
    split at h
    · assumption
    · cases h
  unfold revErr revK
  rw [if_pos hk, if_pos (revOk_turn hk), if_pos (revOk_turn hk), turnK_twice]
  exact ⟨rfl, rfl⟩
theorem revK_bulk {k : Kern} : (revK k).bulk ≤ k.bulk := by
  unfold revK
  split
  · rw [turnK_bulk]; exact Nat.le_refl _
  · show Kern.bulk ⟨[], []⟩ ≤ _
    unfold Kern.bulk; simp [setsBulk]
end Go.Proofs.YtahdihhhankhdaaGreat.V
-- Zx
namespace Go.Proofs.YtahdihhhankhdaaGreat.V
open Go.Proofs.YtahdihhhankhdaaGreatVY Go.RowKit
theorem loadsOf_bd (k : Kern) (set : Int) : (loadsOf k set).length ≤ k.bulk ∧ ∀ x ∈ loadsOf k set, x.str.length ≤ k.bulk := by
  unfold loadsOf
  split
  · cases h : k.sets[set.toNat]? with
    | none => exact ⟨Nat.zero_le _, fun x hx => by simp at hx⟩
    | some s =>
      have h2 := setsBulk_get h
      have h3 : s.bulk ≤ k.bulk := by rw [Kern.bulk]; omega
      refine ⟨?_, fun x hx => Nat.le_trans (ASet.loads_str hx) h3⟩
      show s.loads.length ≤ _
      have := ASet.loads_len s
      omega
  · exact ⟨Nat.zero_le _, fun x hx => by simp at hx⟩
def R3 : Ct := fun ss hp r out => ∃ (k : Kern) (set : Int), ss = [.v (.ag (k.c.map .d)), .di .i64 set] ∧ hp = [] ∧ k.bulk ≤ 2097152 ∧ r = .db true ∧ out = []
set_option maxHeartbeats 4000000 in
theorem ok3 : VSound Tryz.prog (3, R3) := by
  refine vsound (T := ty) (F := [(4, R4), (5, R5), (6, R6), (7, R7), (8, R8), (9, R9), (10, R10), (11, R11), (12, R12), (13, R13)]) (pl := [(14, [[], [], [0, 1], [0, 1, 2], [], [], [4, 5], [4, 5, 6], [0, 1, 2, 3, 4, 5, 6, 7], [0, 1, 2, 3, 4, 5, 6, 7, 8]], .look 0 (.look 1 (.look 2 (.look 3 (.look 4 (.look 5 (.look 6 (.look 7 (.act 8 [] (.look 9 .done) .stop)))))))))]) (nw := true) (cuts := []) mix tyOk (.cons (ok4) (.cons (ok5) (.cons (ok6) (.cons (ok7) (.cons (ok8) (.cons (ok9) (.cons (ok10) (.cons (ok11) (.cons (ok12) (.cons (ok13) .nil)))))))))) Tryz.func3 (by kernel_rfl) (by kernel_rfl) ?_
  rintro _ _ _ _ ⟨⟨ext, sets⟩, set, rfl, rfl, hm, rfl, rfl⟩
  conv => whnf
  (refine ⟨[], false, false, ?_⟩; (conv => whnf); refine ⟨_, _, ⟨⟨ext, sets⟩, rfl, rfl, by omega, rfl, rfl⟩, ?_⟩; (conv => whnf))
  ((with_reducible refine And.intro (fun (e : (_ : Bool) = true) => ?_) (fun (e : (_ : Bool) = false) => ?_)) <;> (try simp only [reduceCtorEq, ints_len, bools_len, bif_t, bif_f, zv0, zv1, zv2, zv3, zv4, zv5, zv6, zv7, zv8, zv9, zv10, zv11, zv12, zv13, zv14, zv15, zv16, zv17, zv18, zv19, zv20, zv21, zv22, zv23, zv24] at e) <;> (conv => whnf))
  · (refine ⟨[], false, false, ?_⟩; (conv => whnf); refine ⟨_, _, ⟨rfl, rfl, rfl, rfl⟩, ?_⟩; (conv => whnf))
    (refine ⟨[], ?_⟩; (conv => whnf); refine ⟨[], .nil, .nil, ?_⟩; (conv => whnf))
  · (refine ⟨[], false, false, ?_⟩; (conv => whnf); refine ⟨_, _, ⟨⟨ext, sets⟩, rfl, rfl, by omega, rfl, rfl⟩, ?_⟩; (conv => whnf))
    (refine ⟨[], false, false, ?_⟩; (conv => whnf); refine ⟨_, _, ⟨⟨ext, sets⟩, rfl, rfl, by omega, rfl, rfl⟩, ?_⟩; (conv => whnf))
    (refine ⟨[], false, false, ?_⟩; (conv => whnf); refine ⟨_, _, ⟨⟨ext, sets⟩, rfl, rfl, by omega, rfl, rfl⟩, ?_⟩; (conv => whnf))
    (refine ⟨[], false, false, ?_⟩; (conv => whnf); refine ⟨_, _, ⟨⟨ext, sets⟩, rfl, rfl, by omega, rfl, rfl⟩, ?_⟩; (conv => whnf))
    (refine ⟨[], false, false, ?_⟩; (conv => whnf); refine ⟨_, _, ⟨⟨ext, sets⟩, set, rfl, rfl, by omega, rfl, rfl⟩, ?_⟩; (conv => whnf))
    (refine ⟨[], false, false, ?_⟩; (conv => whnf); refine ⟨_, _, ⟨⟨ext, sets⟩, set, rfl, rfl, by omega, rfl, rfl⟩, ?_⟩; (conv => whnf))
    have hrb := revK_bulk (k := ⟨ext, sets⟩)
    have htw := @revK_twice ⟨ext, sets⟩
    have hbd := loadsOf_bd ⟨ext, sets⟩ set
    generalize (formed ⟨ext, sets⟩ && safeK ⟨ext, sets⟩) = A at *
    generalize safeErr ⟨ext, sets⟩ = E1 at *
    generalize hKr : revK ⟨ext, sets⟩ = K1 at *
    generalize revErr ⟨ext, sets⟩ = E2 at *
    generalize loadsOf ⟨ext, sets⟩ set = L at *
    generalize loadsErr ⟨ext, sets⟩ set = E3 at *
    obtain ⟨ext1, sets1⟩ := K1
    (repeat ((first | with_reducible refine And.intro (fun h => h) ?_ | with_reducible refine And.intro (fun _ => rfl) ?_ | with_reducible refine And.intro rfl ?_); conv => whnf))
    refine ⟨fun hg1 => ?_, ?_⟩
    rotate_left
    · conv => whnf
      intro h
      exfalso
      simp at h
    conv => whnf
    (repeat ((first | with_reducible refine And.intro (fun h => h) ?_ | with_reducible refine And.intro (fun _ => rfl) ?_ | with_reducible refine And.intro rfl ?_); conv => whnf))
    (refine ⟨[], false, false, ?_⟩; (conv => whnf); refine ⟨_, _, ⟨⟨ext1, sets1⟩, rfl, rfl, by omega, rfl, rfl⟩, ?_⟩; (conv => whnf))
    (repeat ((first | with_reducible refine And.intro (fun h => h) ?_ | with_reducible refine And.intro (fun _ => rfl) ?_ | with_reducible refine And.intro rfl ?_); conv => whnf))
    refine ⟨fun h => ?_, fun _ => ?_⟩
    · exfalso; simp at h
    conv => whnf
    refine ⟨[], [2, 9, 10, 13, 15, 17], 5, fun n1 σ => ∃ i : Nat, i ≤ L.length ∧ n1 = L.length - i ∧ σ = (⟨[.junk, .junk, .one (.ptr 0 0), .junk, .junk, .junk, .junk, .junk, .junk, .one (.ptr 1 0), .di .i64 E2, .junk, .junk, .one (.own 3), .junk, .one (.own 4), .junk, .di .i64 i, .junk, .junk, .junk, .junk, .junk, .junk, .junk, .junk, .junk, .junk, .junk, .junk, .junk, .junk, .junk, .junk, .junk, .junk, .junk, .junk, .junk, .junk, .junk, .junk, .junk, .junk, .junk, .junk, .junk, .junk, .junk, .junk, .junk, .junk, .junk, .junk, .junk, .junk, .junk, .junk, .junk, .junk, .junk, .junk, .junk, .junk, .junk, .junk, .junk, .junk, .junk, .junk, .junk, .junk, .junk, .junk, .junk, .junk, .junk, .junk, .junk, .junk, .junk, .junk, .junk, .junk, .junk, .junk, .junk, .junk, .junk, .junk, .junk, .junk, .junk, .junk, .junk, .junk, .junk, .junk, .junk, .junk, .junk, .junk, .junk, .junk, .junk, .junk, .junk, .junk, .junk, .junk, .junk, .junk, .junk, .junk, .junk, .junk, .junk, .junk, .junk, .junk], [.box (List.map .d (Kern.mk ext sets).c), .box (List.map .d (Kern.mk ext1 sets1).c), .box (List.map .d (Kern.mk ext1 sets1).c), .row 3 (L.map Ref.c), .row 3 (L.map Ref.c)]⟩ : St), ?_, ?_⟩
    · refine ⟨L.length, ?_⟩
      conv => whnf
      exact ⟨0, by omega, by omega, rfl⟩
    · rintro n1 _ ⟨i, hi, rfl, rfl⟩
      conv => whnf
      rw [map_len]
      ((with_reducible refine And.intro (fun (e : (_ : Bool) = true) => ?_) (fun (e : (_ : Bool) = false) => ?_)) <;> (try simp only [reduceCtorEq, ints_len, bools_len, bif_t, bif_f, zv0, zv1, zv2, zv3, zv4, zv5, zv6, zv7, zv8, zv9, zv10, zv11, zv12, zv13, zv14, zv15, zv16, zv17, zv18, zv19, zv20, zv21, zv22, zv23, zv24] at e) <;> (conv => whnf))
      · obtain ⟨x, hx⟩ := get_lt (l := L) (i := i) (by omega)
        have hxb := hbd.2 x (List.mem_of_getElem? hx)
        obtain ⟨a, b, str⟩ := x
        (refine And.intro ⟨by omega, by rw [map_len]; omega⟩ ?_; (conv => whnf); refine ⟨_, And.intro (enc_get hx) ?_⟩; (conv => whnf))
        (refine And.intro ⟨by omega, by rw [map_len]; omega⟩ ?_; (conv => whnf); refine ⟨_, And.intro (enc_get hx) ?_⟩; (conv => whnf))
        (first | (refine And.intro ?_ ?_ <;> (conv => whnf)) | skip)
        all_goals
          (refine ⟨[], false, false, ?_⟩; (conv => whnf); refine ⟨_, _, ⟨⟨a, b, str⟩, rfl, rfl, Nat.lt_of_le_of_lt (Nat.le_trans hxb hm) (by decide), rfl, rfl⟩, ?_⟩; (conv => whnf))
          refine ⟨fun h => absurd h (by decide), fun _ => ?_⟩
          conv => whnf
          (refine And.intro ?_ ?_; ((first | (with_reducible assumption) | (intro _; with_reducible assumption) | omega | (simp only [reduceCtorEq, ints_len, bools_len, bif_t, bif_f, zv0, zv1, zv2, zv3, zv4, zv5, zv6, zv7, zv8, zv9, zv10, zv11, zv12, zv13, zv14, zv15, zv16, zv17, zv18, zv19, zv20, zv21, zv22, zv23, zv24] at *; omega) | (intro hg; (try simp only [reduceCtorEq, ints_len, bools_len, bif_t, bif_f, zv0, zv1, zv2, zv3, zv4, zv5, zv6, zv7, zv8, zv9, zv10, zv11, zv12, zv13, zv14, zv15, zv16, zv17, zv18, zv19, zv20, zv21, zv22, zv23, zv24] at hg); first | (with_reducible assumption) | omega | (simp only [reduceCtorEq, ints_len, bools_len, bif_t, bif_f, zv0, zv1, zv2, zv3, zv4, zv5, zv6, zv7, zv8, zv9, zv10, zv11, zv12, zv13, zv14, zv15, zv16, zv17, zv18, zv19, zv20, zv21, zv22, zv23, zv24] at *; omega) | (refine ⟨?_, ?_⟩ <;> omega)) | (refine ⟨?_, ?_⟩ <;> omega) | (simp [*]; done) | grind)); (conv => whnf))
          refine ⟨L.length - (i + 1), by omega, [], ?_⟩
          conv => whnf
          exact ⟨i + 1, by omega, rfl, rfl⟩
      · ((with_reducible refine And.intro (fun (e : (_ : Bool) = true) => ?_) (fun (e : (_ : Bool) = false) => ?_)) <;> (try simp only [reduceCtorEq, ints_len, bools_len, bif_t, bif_f, zv0, zv1, zv2, zv3, zv4, zv5, zv6, zv7, zv8, zv9, zv10, zv11, zv12, zv13, zv14, zv15, zv16, zv17, zv18, zv19, zv20, zv21, zv22, zv23, zv24] at e) <;> (conv => whnf))
        · (refine ⟨[], false, false, ?_⟩; (conv => whnf); refine ⟨_, _, ⟨rfl, rfl, rfl, rfl⟩, ?_⟩; (conv => whnf))
          (refine ⟨[], ?_⟩; (conv => whnf); refine ⟨[], .nil, .nil, ?_⟩; (conv => whnf))
        · have hE : E2 = 0 := by simpa using e
          obtain ⟨h1, h2⟩ := htw hE
          (refine ⟨[], false, false, ?_⟩; (conv => whnf); refine ⟨_, _, ⟨⟨ext1, sets1⟩, rfl, rfl, by omega, rfl, rfl⟩, ?_⟩; (conv => whnf))
          rw [h1, h2]
          refine ⟨fun hg1 => ?_, ?_⟩
          rotate_left
          · conv => whnf
            intro h
            exfalso
            simp at h
          conv => whnf
          (repeat ((first | with_reducible refine And.intro (fun h => h) ?_ | with_reducible refine And.intro (fun _ => rfl) ?_ | with_reducible refine And.intro rfl ?_); conv => whnf))
          (refine ⟨[], false, false, ?_⟩; (conv => whnf); refine ⟨_, _, ⟨⟨ext, sets⟩, rfl, rfl, by omega, rfl, rfl⟩, ?_⟩; (conv => whnf))
          (repeat ((first | with_reducible refine And.intro (fun h => h) ?_ | with_reducible refine And.intro (fun _ => rfl) ?_ | with_reducible refine And.intro rfl ?_); conv => whnf))
          refine ⟨fun hg2 => ?_, ?_⟩
          rotate_left
          · conv => whnf
            intro h
            exfalso
            simp at h
          conv => whnf
          (refine ⟨[], false, false, ?_⟩; (conv => whnf); refine ⟨_, _, ⟨rfl, rfl, rfl, rfl⟩, ?_⟩; (conv => whnf))
          (repeat ((first | with_reducible refine And.intro (fun h => h) ?_ | with_reducible refine And.intro (fun _ => rfl) ?_ | with_reducible refine And.intro rfl ?_); conv => whnf))
          (refine ⟨[], ?_⟩; (conv => whnf); refine ⟨[], .nil, .nil, ?_⟩; (conv => whnf))
          rfl
end Go.Proofs.YtahdihhhankhdaaGreat.V
-- Vacc
namespace Go.Proofs.YtahdihhhankhdaaGreat.V
open Go.Proofs.YtahdihhhankhdaaGreatVY Go.RowKit
theorem bulkAll_sum {H : Type} : ∀ l : List (DataW H), Rows.uptoBulkAll l = (l.map Rows.uptoBulk).sum
  | [] => by simp [Rows.uptoBulkAll]
  | d :: l => by rw [Rows.uptoBulkAll, bulkAll_sum l, List.map_cons, List.sum_cons]
theorem meas {H : Type} : Meas (H := H) Rows.uptoBulk where
  lit x := by cases x <;> simp [Rows.uptoBulk]
  str b := by simp [Rows.uptoBulk]
  nil := by simp [Rows.uptoBulk]
  slice es sp := by rw [Rows.uptoBulk, bulkAll_sum]; omega
  agg ps := by rw [Rows.uptoBulk, bulkAll_sum]; omega
theorem small_bd {H : Type} {ds : List (DataW H)} (h : Rows.uptoSmall H ds = true) : (ds.map Rows.uptoBulk).sum ≤ 1048576 := by
  rw [← bulkAll_sum]
  exact of_decide_eq_true h
theorem all2_map {α : Type} {enc : α → List D} {Q : List D → Prop} {B : α → Nat} {L : List (List D)} (h : ∀ e ∈ L, ∃ x, e = enc x ∧ B x ≤ dBs e) : ∃ l : List α, L = l.map enc ∧ (l.map B).sum ≤ dBL L := by
  induction L with
  | nil => exact ⟨[], rfl, Nat.zero_le _⟩
  | cons e L ih =>
    obtain ⟨b, rfl, hb⟩ := h e (List.mem_cons_self ..)
    obtain ⟨l, rfl, hl⟩ := ih fun x hx => h x (List.mem_cons_of_mem _ hx)
    exact ⟨b :: l, rfl, by rw [List.map_cons, List.sum_cons, dBL]; omega⟩
theorem sum_one {α : Type} : ∀ l : List α, (l.map fun _ => 1).sum = l.length
  | [] => rfl
  | x :: l => by rw [List.map_cons, List.sum_cons, sum_one l, List.length_cons, Nat.add_comm]
theorem sh_ints {m : Nat} {l : List D} (h : Sh Tryz.prog m 22 l) : ∃ x : List Int, l = [.sl 1 (x.map inC)] ∧ x.length + 1 ≤ dBs l := by
  obtain ⟨m', L, _, rfl, _, hL⟩ := sh_slice Tryz.underlying22 h
  obtain ⟨x, rfl, hx⟩ := all2_map (Q := fun _ => True) (enc := inC) (B := fun _ => 1) fun e he => by
    obtain ⟨n, hn, _⟩ := sh_int Tryz.underlying3 (hL e he)
    exact ⟨n, hn, by rw [hn]; simp [dBs, dB]⟩
  rw [sum_one] at hx
  exact ⟨x, by rw [show Tryz.prog.cellsOf 3 = 1 by kernel_rfl], by simp only [dBs, dB, Nat.add_zero]; omega⟩
end Go.Proofs.YtahdihhhankhdaaGreat.V
-- Vac
namespace Go.Proofs.YtahdihhhankhdaaGreat.V
open Go.Proofs.YtahdihhhankhdaaGreatVY Go.RowKit
theorem sh_ref {m : Nat} {l : List D} (h : Sh Tryz.prog m 39 l) : ∃ x : Ref, l = x.c ∧ x.str.length + 3 ≤ dBs l := by
  obtain ⟨m', parts, _, rfl, hp⟩ := sh_struct Tryz.underlying39 h
  cases hp with
  | cons h1 hp =>
  cases hp with
  | cons h2 hp =>
  cases hp with
  | cons h3 hp =>
  cases hp
  obtain ⟨a, rfl, _⟩ := sh_int Tryz.underlying3 h1
  obtain ⟨b, rfl, _⟩ := sh_int Tryz.underlying3 h2
  obtain ⟨s, rfl, hs⟩ := sh_ints h3
  refine ⟨⟨a, b, s⟩, rfl, ?_⟩
  simp only [List.flatten_cons, List.flatten_nil, List.append_nil, dBs_app]
  have e1 : dBs [D.int .i64 a] = 1 := by simp [dBs, dB]
  have e2 : dBs [D.int .i64 b] = 1 := by simp [dBs, dB]
  simp only [e1, e2]
  omega
theorem treesBulk_sum : ∀ l : List Tree, treesBulk l = (l.map Tree.bulk).sum
  | [] => rfl
  | t :: l => by rw [treesBulk, treesBulk_sum l, List.map_cons, List.sum_cons]
theorem sh_tree : ∀ (m : Nat) {l : List D}, Sh Tryz.prog m 44 l → ∃ t : Tree, l = t.c ∧ t.bulk ≤ dBs l := by
  intro m
  induction m using Nat.strongRecOn with
  | _ m ih =>
  intro l h
  obtain ⟨m', parts, rfl, rfl, hp⟩ := sh_struct Tryz.underlying44 h
  cases hp with
  | cons h1 hp =>
  cases hp with
  | cons h2 hp =>
  cases hp with
  | cons h3 hp =>
  cases hp with
  | cons h4 hp =>
  cases hp with
  | cons h5 hp =>
  cases hp
  obtain ⟨op, rfl, _⟩ := sh_str Tryz.underlying9 h1
  obtain ⟨kind, rfl, _⟩ := sh_int Tryz.underlying3 h2
  obtain ⟨n, rfl, _⟩ := sh_int Tryz.underlying3 h3
  obtain ⟨r, rfl, hr⟩ := sh_ref h4
  obtain ⟨m2, L, rfl, rfl, _, hL⟩ := sh_slice Tryz.underlying42 h5
  obtain ⟨kids, rfl, hk⟩ := all2_map (Q := fun _ => True) (enc := Tree.c) (B := Tree.bulk) fun e he => ih m2 (by omega) (hL e he)
  refine ⟨.mk op kind n r kids, ?_, ?_⟩
  · rw [show Tryz.prog.cellsOf 44 = 7 by kernel_rfl, Tree.c, treesC_map]; rfl
  · rw [← treesBulk_sum] at hk
    simp only [List.flatten_cons, List.flatten_nil, List.append_nil, dBs_app]
    have e1 : dBs [D.int .i64 kind] = 1 := by simp [dBs, dB]
    have e2 : dBs [D.sl (Tryz.prog.cellsOf 44) (kids.map Tree.c)] = dBL (kids.map Tree.c) + 1 := by simp [dBs, dB]
    rw [Tree.bulk]
    simp only [e1, e2]
    omega
theorem sh_trees {m : Nat} {l : List D} (h : Sh Tryz.prog m 42 l) : ∃ x : List Tree, l = [.sl 7 (x.map Tree.c)] ∧ treesBulk x + 1 ≤ dBs l := by
  obtain ⟨m', L, _, rfl, _, hL⟩ := sh_slice Tryz.underlying42 h
  obtain ⟨x, rfl, hx⟩ := all2_map (Q := fun _ => True) (enc := Tree.c) (B := Tree.bulk) fun e he => sh_tree m' (hL e he)
  rw [← treesBulk_sum] at hx
  exact ⟨x, by rw [show Tryz.prog.cellsOf 44 = 7 by kernel_rfl], by simp only [dBs, dB, Nat.add_zero]; omega⟩
theorem sh_set {m : Nat} {l : List D} (h : Sh Tryz.prog m 46 l) : ∃ s : ASet, l = s.c ∧ s.bulk ≤ dBs l := by
  obtain ⟨m', parts, _, rfl, hp⟩ := sh_struct Tryz.underlying46 h
  cases hp with
  | cons h1 hp =>
  cases hp with
  | cons h2 hp =>
  cases hp with
  | cons h3 hp =>
  cases hp
  obtain ⟨to, rfl, ht⟩ := sh_ref h1
  obtain ⟨mask, rfl, hm⟩ := sh_trees h2
  obtain ⟨v, rfl, hv⟩ := sh_tree _ h3
  refine ⟨⟨to, mask, v⟩, ?_, ?_⟩
  · simp [ASet.c]
  · simp only [List.flatten_cons, List.flatten_nil, List.append_nil, dBs_app]
    rw [ASet.bulk]
    simp only
    omega
theorem setsBulk_sum : ∀ l : List ASet, setsBulk l = (l.map ASet.bulk).sum
  | [] => rfl
  | t :: l => by rw [setsBulk, setsBulk_sum l, List.map_cons, List.sum_cons]
theorem sh_kern {m : Nat} {l : List D} (h : Sh Tryz.prog m 25 l) : ∃ k : Kern, l = k.c ∧ k.bulk + 1 ≤ dBs l := by
  obtain ⟨m', parts, _, rfl, hp⟩ := sh_struct Tryz.underlying25 h
  cases hp with
  | cons h1 hp =>
  cases hp with
  | cons h2 hp =>
  cases hp
  obtain ⟨ext, rfl, he⟩ := sh_ints h1
  obtain ⟨m2, L, _, rfl, _, hL⟩ := sh_slice Tryz.underlying23 h2
  obtain ⟨sets, rfl, hs⟩ := all2_map (Q := fun _ => True) (enc := ASet.c) (B := ASet.bulk) fun e he => sh_set (hL e he)
  rw [← setsBulk_sum] at hs
  refine ⟨⟨ext, sets⟩, ?_, ?_⟩
  · rw [show Tryz.prog.cellsOf 46 = 11 by kernel_rfl]; rfl
  · simp only [List.flatten_cons, List.flatten_nil, List.append_nil, dBs_app]
    have e2 : dBs [D.sl (Tryz.prog.cellsOf 46) (sets.map ASet.c)] = dBL (sets.map ASet.c) + 1 := by simp [dBs, dB]
    rw [e2, Kern.bulk]
    simp only
    omega
end Go.Proofs.YtahdihhhankhdaaGreat.V
-- Vrow
namespace Go.Proofs.YtahdihhhankhdaaGreat.V
open Go.Proofs.YtahdihhhankhdaaGreatVY Go.RowKit
theorem law_row {f : Nat} {R : Ct} (h : VSound Tryz.prog (f, R)) (he : enterB Tryz.prog f = true) {W : World} {args : Array Value} {ss : List S} (hG : GP (fun _ => False) W) (ha : All2 (SRel [] (fun _ => False) W) args.toList ss) (hR : R ss [] (.db true) []) :
    Calls Tryz.prog f args W fun e W' => e = .returned (.bool true) ∧ Below W.heap.size W W' := by
  have hn : ∀ b, ¬ Live [] [] b := by rintro b ⟨_, _, _, h, _⟩; simp at h
  have ha' : All2 (SRel [] (Av (fun _ => False) [] []) W) args.toList ss := ha.imp fun _ _ h => SRel.less (fun b hb => hb.elim id (hn b)) h
  have hp0 : HpRel (fun _ => False) [] [] W := ⟨rfl, fun _ _ _ h => by simp at h, fun _ _ _ _ _ _ _ h => by simp at h, fun b h => absurd h (hn b)⟩
  rcases h with ⟨ho, _⟩ | hx
  · refine (ho (fun _ => False) W args ss [] [] (.db true) [] hG (fun _ h => h.elim) hp0 (fun b h => absurd h (hn b)) ha' hR).mono ?_
    rintro e w' ⟨v, ρ, rfl, hs, hh, hg, hst, hsame, _⟩
    exact ⟨by rw [sdb_inv hs], hst.os, hst.tape, hst.output, hg, fun b hb => hsame b hb (hn b)⟩
  · obtain ⟨v, ρ, w', hrun, _⟩ := hx (fun _ => False) W args ss [] [] (.db true) [] hG (fun _ h => h.elim) hp0 ha' hR
    rw [run_enter (enterB_ok he) args] at hrun
    cases hrun
end Go.Proofs.YtahdihhhankhdaaGreat.V
