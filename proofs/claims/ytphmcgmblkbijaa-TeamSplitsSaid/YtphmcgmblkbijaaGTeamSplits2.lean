/-
  V: contracts of functions, texts of the session's own hand, in one file.
-/
import Derived.Test.YtphmcgmblkbijaaGTeamSplits1
import Derived.Test.YtphmcgmblkbijaaRows
import Derived.Below
import Derived.RowKit
set_option linter.unusedVariables false
set_option linter.unusedSimpArgs false
set_option maxRecDepth 100000
set_option linter.all false
set_option linter.unnecessarySimpa false
set_option linter.deprecated false
-- Tj
namespace Go.Proofs.Ytphmcgmblkbijaa.V
open Go.Proofs.YtphmcgmblkbijaaVY Go.RowKit
theorem pm_mem {α : Type} {k : Int} {v : α} {p : Int × α} : ∀ {M : List (Int × α)}, (M.map Prod.fst).Nodup → p ∈ putM M k v → p = (k, v) ∨ (p ∈ M ∧ p.1 ≠ k)
  | [], _, h => by simp [putM] at h; exact .inl h
  | (k', x') :: M, hn, h => by
    rw [List.map_cons, List.nodup_cons] at hn
    unfold putM at h
    split at h
    · rename_i e
      subst e
      rcases List.mem_cons.1 h with h | h
      · exact .inl h
      · exact .inr ⟨List.mem_cons_of_mem _ h, fun e => hn.1 (by have := List.mem_map_of_mem (f := Prod.fst) h; rw [e] at this; exact this)⟩
    · rename_i e
      rcases List.mem_cons.1 h with rfl | h
      · exact .inr ⟨List.mem_cons_self .., e⟩
      · rcases pm_mem hn.2 h with h | ⟨h1, h2⟩
        · exact .inl h
        · exact .inr ⟨List.mem_cons_of_mem _ h1, h2⟩
theorem pm_has {α : Type} {k : Int} {v : α} : ∀ {M : List (Int × α)}, (k, v) ∈ putM M k v
  | [] => by simp [putM]
  | (k', x') :: M => by unfold putM; split <;> simp [pm_has]
theorem pm_keep {α : Type} {k : Int} {v : α} {p : Int × α} : ∀ {M : List (Int × α)}, p ∈ M → p.1 ≠ k → p ∈ putM M k v
  | [], h, _ => by simp at h
  | (k', x') :: M, h, hk => by
    unfold putM
    rcases List.mem_cons.1 h with rfl | h
    · rw [if_neg hk]; exact List.mem_cons_self ..
    · split
      · exact List.mem_cons_of_mem _ h
      · exact List.mem_cons_of_mem _ (pm_keep h hk)
theorem pm_keys {α : Type} {k : Int} {v : α} : ∀ {M : List (Int × α)}, (M.map Prod.fst).Nodup → ((putM M k v).map Prod.fst).Nodup
  | [], _ => by simp [putM]
  | (k', x') :: M, hn => by
    rw [List.map_cons, List.nodup_cons] at hn
    unfold putM
    split
    · rename_i e; subst e; exact List.nodup_cons.2 hn
    · rename_i e
      refine List.nodup_cons.2 ⟨fun hm => ?_, pm_keys hn.2⟩
      obtain ⟨p, hp, he⟩ := List.mem_map.1 hm
      rcases pm_mem hn.2 hp with rfl | ⟨h1, _⟩
      · exact e he.symm
      · exact hn.1 (by rw [← he]; exact List.mem_map_of_mem (f := Prod.fst) h1)
/-- a map tells how often each number came -/
structure Seen (P : List Int) (M : List (Int × D)) : Prop where
  own : ∀ p ∈ M, p.2 = .int .i64 (P.count p.1)
  all : ∀ x ∈ P, ∃ p ∈ M, p.1 = x
  nd : (M.map Prod.fst).Nodup
theorem seen_nil : Seen [] [] := ⟨by simp, by simp, by simp⟩
theorem seen_put {P : List Int} {M : List (Int × D)} (H : Seen P M) (x : Int) : Seen (P ++ [x]) (putM M x (.int .i64 ((P.count x : Int) + 1))) where
  own := fun p hp => by
    rcases pm_mem H.nd hp with rfl | ⟨h, hk⟩
    · show D.int _ _ = D.int _ _
      rw [List.count_append, List.count_singleton_self]; rfl
    · rw [H.own p h, List.count_append, List.count_singleton, if_neg (by simpa using fun e => hk e.symm), Nat.add_zero]
  all := fun y hy => by
    by_cases e : y = x
    · subst e; exact ⟨_, pm_has, rfl⟩
    · have hy' : y ∈ P := by
        rcases List.mem_append.1 hy with h | h
        · exact h
        · simp at h; exact absurd h e
      obtain ⟨p, hp, rfl⟩ := H.all y hy'
      exact ⟨p, pm_keep hp e, rfl⟩
  nd := pm_keys H.nd
theorem seen_no {P : List Int} {M : List (Int × D)} (H : Seen P M) {x : Int} (h : ∀ p ∈ M, p.1 ≠ x) : P.count x = 0 :=
  List.count_eq_zero.2 fun hx => by obtain ⟨p, hp, e⟩ := H.all x hx; exact h p hp e
theorem seen_at {P : List Int} {M : List (Int × D)} (H : Seen P M) {x : Int} {y : D} (h : (x, y) ∈ M) : y = .int .i64 (P.count x) := H.own _ h
def R5 : Ct := fun ss hp r out => ∃ (n : Int) (l : List Ac), ss = [.di .i64 n, .one (.d (.sl 4 (l.map Ac.c)))] ∧ hp = [] ∧ l.length < 4611686018427387904 ∧ r = .db true ∧ out = []
set_option maxHeartbeats 4000000 in
theorem ok5 : VSound Try.prog (5, R5) := by
  refine vsound (T := ty) (F := [(17, R17), (18, R18), (19, R19), (20, R20), (21, R21), (22, R22), (23, R23)]) (pl := [(12, [[], [], [], [1, 2], [1, 2, 3], [1, 2, 3, 4], [], [], [6, 7], [6, 7, 8], [6, 7, 8, 9], [], [], [11, 12], [11, 12, 13], [11, 12, 13, 14], [0, 1, 2, 3, 4, 5, 6, 7, 8, 9, 10, 11, 12, 13, 14, 15], [0, 1, 2, 3, 4, 5, 6, 7, 8, 9, 10, 11, 12, 13, 14, 15, 16], [0, 1, 2, 3, 4, 5, 6, 7, 8, 9, 10, 11, 12, 13, 14, 15, 16, 17], [0, 1, 2, 3, 4, 5, 6, 7, 8, 9, 10, 11, 12, 13, 14, 15, 16, 17], [0, 1, 2, 3, 4, 5, 6, 7, 8, 9, 10, 11, 12, 13, 14, 15, 16, 17, 18], [0, 1, 2, 3, 4, 5, 6, 7, 8, 9, 10, 11, 12, 13, 14, 15, 16, 17, 18, 19, 20]], .look 0 (.look 1 (.look 2 (.look 3 (.look 4 (.look 5 (.look 6 (.look 7 (.look 8 (.look 9 (.look 10 (.look 11 (.look 12 (.look 13 (.look 14 (.look 15 (.act 16 [] (.look 17 (.look 18 (.look 19 (.look 20 (.look 21 .done))))) .stop)))))))))))))))))]) (nw := true) (cuts := []) mix tyOk (.cons (ok17) (.cons (ok18) (.cons (ok19) (.cons (ok20) (.cons (ok21) (.cons (ok22) (.cons (ok23) .nil))))))) Try.func5 (by kernel_rfl) (by kernel_rfl) ?_
  rintro _ _ _ _ ⟨n, l, rfl, rfl, hl, rfl, rfl⟩
  conv => whnf
  (refine ⟨[], false, false, ?_⟩; (conv => whnf); refine ⟨_, _, ⟨l, rfl, rfl, hl, rfl, rfl⟩, ?_⟩; (conv => whnf))
  refine And.intro (fun (e1 : (_ : Bool) = true) => ?_) (fun (e1 : (_ : Bool) = false) => ?_) <;> (conv => whnf)
  · (refine ⟨[], false, false, ?_⟩; (conv => whnf); refine ⟨_, _, ⟨rfl, rfl, rfl, rfl⟩, ?_⟩; (conv => whnf))
    (refine ⟨[], ?_⟩; (conv => whnf); refine ⟨[], .nil, .nil, ?_⟩; (conv => whnf))
  · by_cases hn : 1 ≤ n ∧ n ≤ 8
    rotate_left
    · (refine ⟨[], false, false, ?_⟩; (conv => whnf); refine ⟨_, _, ⟨n, rfl, rfl, .inr ⟨hn, rfl, rfl⟩⟩, ?_⟩; (conv => whnf))
      ((first | refine And.intro (fun _ => ?_) (fun h => absurd h (by decide)) | refine And.intro (fun h => absurd h (by decide)) (fun _ => ?_)); (conv => whnf))
      (refine ⟨[], false, false, ?_⟩; (conv => whnf); refine ⟨_, _, ⟨rfl, rfl, rfl, rfl⟩, ?_⟩; (conv => whnf))
      (refine ⟨[], ?_⟩; (conv => whnf); refine ⟨[], .nil, .nil, ?_⟩; (conv => whnf))
    (refine ⟨[], false, false, ?_⟩; (conv => whnf); refine ⟨_, _, ⟨n, rfl, rfl, .inl ⟨hn.1, hn.2, rfl, rfl⟩⟩, ?_⟩; (conv => whnf))
    ((first | refine And.intro (fun _ => ?_) (fun h => absurd h (by decide)) | refine And.intro (fun h => absurd h (by decide)) (fun _ => ?_)); (conv => whnf))
    refine ⟨[], [1, 5, 7], 3, fun n1 σ => ∃ (i : Nat) (T : List Tm) (F : List Int), i ≤ l.length ∧ n1 = l.length - i ∧ TGood T ∧ σ = (⟨[.junk, .one (.d (.sl 4 (l.map Ac.c))), .junk, .junk, .junk, .one (.ptr 0 0), .junk, .di .i64 i, .junk, .junk, .junk, .junk, .junk, .junk, .junk, .junk, .junk, .junk, .junk, .junk, .junk, .junk, .junk, .junk, .junk, .junk, .junk, .junk, .junk, .junk, .junk, .junk, .junk, .junk, .junk, .junk, .junk, .junk, .junk, .junk, .junk, .junk, .junk, .junk, .junk, .junk, .junk, .junk, .junk, .junk, .junk, .junk, .junk, .junk, .junk, .junk, .junk, .junk, .junk, .junk, .junk, .junk, .junk, .junk, .junk, .junk, .junk, .junk, .junk, .junk, .junk, .junk, .junk, .junk, .junk, .junk, .junk, .junk, .junk, .junk, .junk, .junk, .junk, .junk, .junk, .junk, .junk, .junk, .junk, .junk, .junk, .junk, .junk, .junk, .junk, .junk, .junk, .junk, .junk, .junk, .junk, .junk, .junk, .junk, .junk, .junk, .junk, .junk, .junk, .junk, .junk, .junk, .junk, .junk, .junk, .junk, .junk, .junk, .junk, .junk, .junk, .junk, .junk, .junk, .junk, .junk, .junk, .junk, .junk, .junk, .junk, .junk, .junk, .junk, .junk, .junk, .junk, .junk, .junk, .junk, .junk, .junk, .junk, .junk, .junk, .junk, .junk, .junk, .junk, .junk, .junk, .junk, .junk, .junk, .junk, .junk, .junk, .junk, .junk, .junk, .junk], [.box tB, .row 2 (tRow T), .mapd (mdF F)]⟩ : St), ?_, ?_⟩
    · refine ⟨l.length, ?_⟩
      conv => whnf
      exact ⟨0, newT n, [], by omega, by omega, newT_good hn, rfl⟩
    · rintro n1 _ ⟨i, T, F, hi, rfl, hT, rfl⟩
      conv => whnf
      rw [map_len]
      ((with_reducible refine And.intro (fun (e : (_ : Bool) = true) => ?_) (fun (e : (_ : Bool) = false) => ?_)) <;> (try simp only [reduceCtorEq, ints_len, bools_len, bif_t, bif_f, zv0, zv1, zv2, zv3, zv4, zv5, zv6, zv7, zv8, zv9, zv10, zv11, zv12, zv13, zv14, zv15, zv16, zv17, zv18, zv19, zv20, zv21, zv22, zv23, zv24] at e) <;> (conv => whnf))
      · obtain ⟨a, ha⟩ := get_lt (l := l) (i := i) (by omega)
        (refine ⟨_, And.intro ⟨by omega, enc_get ha⟩ ?_⟩; (conv => whnf))
        obtain ⟨ad, at1, an, aa⟩ := a
        conv => whnf
        refine And.intro (fun (e2 : (_ : Bool) = true) => ?_) (fun (e2 : (_ : Bool) = false) => ?_) <;> (conv => whnf)
        · (refine ⟨_, And.intro ⟨by omega, enc_get ha⟩ ?_⟩; (conv => whnf))
          (refine ⟨[0, 1, 2], false, false, ?_⟩; (conv => whnf); intro u0 u1 u2; (conv => whnf); refine ⟨_, _, ⟨T, F, at1, u0, u1, u2, rfl, rfl, hT.toTOk, rfl, rfl⟩, ?_⟩; (conv => whnf); refine ⟨rfl, ?_⟩; (conv => whnf); refine ⟨rfl, ?_⟩; (conv => whnf); refine ⟨rfl, ?_⟩; (conv => whnf))
          (refine And.intro ?_ ?_; ((first | (with_reducible assumption) | (intro _; with_reducible assumption) | omega | (simp only [reduceCtorEq, ints_len, bools_len, bif_t, bif_f, zv0, zv1, zv2, zv3, zv4, zv5, zv6, zv7, zv8, zv9, zv10, zv11, zv12, zv13, zv14, zv15, zv16, zv17, zv18, zv19, zv20, zv21, zv22, zv23, zv24] at *; omega) | (intro hg; (try simp only [reduceCtorEq, ints_len, bools_len, bif_t, bif_f, zv0, zv1, zv2, zv3, zv4, zv5, zv6, zv7, zv8, zv9, zv10, zv11, zv12, zv13, zv14, zv15, zv16, zv17, zv18, zv19, zv20, zv21, zv22, zv23, zv24] at hg); first | (with_reducible assumption) | omega | (simp only [reduceCtorEq, ints_len, bools_len, bif_t, bif_f, zv0, zv1, zv2, zv3, zv4, zv5, zv6, zv7, zv8, zv9, zv10, zv11, zv12, zv13, zv14, zv15, zv16, zv17, zv18, zv19, zv20, zv21, zv22, zv23, zv24] at *; omega) | (refine ⟨?_, ?_⟩ <;> omega)) | (refine ⟨?_, ?_⟩ <;> omega) | (simp [*]; done) | grind)); (conv => whnf))
          refine ⟨l.length - (i + 1), by omega, [], ?_⟩
          conv => whnf
          exact ⟨i + 1, T, failF T F at1, by omega, rfl, hT, rfl⟩
        · (refine ⟨_, And.intro ⟨by omega, enc_get ha⟩ ?_⟩; (conv => whnf))
          (refine ⟨[0, 1, 2], false, false, ?_⟩; (conv => whnf); intro u0 u1 u2; (conv => whnf); refine ⟨_, _, ⟨T, F, at1, u0, u1, u2, rfl, rfl, hT.toTOk, rfl, rfl⟩, ?_⟩; (conv => whnf); refine ⟨rfl, ?_⟩; (conv => whnf); refine ⟨rfl, ?_⟩; (conv => whnf); refine ⟨rfl, ?_⟩; (conv => whnf))
          (refine ⟨_, And.intro ⟨by omega, enc_get ha⟩ ?_⟩; (conv => whnf))
          (refine ⟨_, And.intro ⟨by omega, enc_get ha⟩ ?_⟩; (conv => whnf))
          (refine ⟨_, And.intro ⟨by omega, enc_get ha⟩ ?_⟩; (conv => whnf))
          (refine ⟨[0, 1, 2], false, false, ?_⟩; (conv => whnf); intro u0 u1 u2; (conv => whnf); refine ⟨_, _, ⟨T, F, at1, an, aa, u0, u1, u2, rfl, rfl, hT.toTOk, rfl, rfl⟩, ?_⟩; (conv => whnf); refine ⟨rfl, ?_⟩; (conv => whnf); refine ⟨rfl, ?_⟩; (conv => whnf); refine ⟨rfl, ?_⟩; (conv => whnf))
          have hT' := frmT_good (F := F) (k := at1) (nums := an) (asked := aa) hT
          refine And.intro (fun (e3 : (_ : Bool) = true) => ?_) (fun (e3 : (_ : Bool) = false) => ?_) <;> (conv => whnf)
          · (refine And.intro ?_ ?_; ((first | (with_reducible assumption) | (intro _; with_reducible assumption) | omega | (simp only [reduceCtorEq, ints_len, bools_len, bif_t, bif_f, zv0, zv1, zv2, zv3, zv4, zv5, zv6, zv7, zv8, zv9, zv10, zv11, zv12, zv13, zv14, zv15, zv16, zv17, zv18, zv19, zv20, zv21, zv22, zv23, zv24] at *; omega) | (intro hg; (try simp only [reduceCtorEq, ints_len, bools_len, bif_t, bif_f, zv0, zv1, zv2, zv3, zv4, zv5, zv6, zv7, zv8, zv9, zv10, zv11, zv12, zv13, zv14, zv15, zv16, zv17, zv18, zv19, zv20, zv21, zv22, zv23, zv24] at hg); first | (with_reducible assumption) | omega | (simp only [reduceCtorEq, ints_len, bools_len, bif_t, bif_f, zv0, zv1, zv2, zv3, zv4, zv5, zv6, zv7, zv8, zv9, zv10, zv11, zv12, zv13, zv14, zv15, zv16, zv17, zv18, zv19, zv20, zv21, zv22, zv23, zv24] at *; omega) | (refine ⟨?_, ?_⟩ <;> omega)) | (refine ⟨?_, ?_⟩ <;> omega) | (simp [*]; done) | grind)); (conv => whnf))
            refine ⟨l.length - (i + 1), by omega, [], ?_⟩
            conv => whnf
            exact ⟨i + 1, _, F, by omega, rfl, hT', rfl⟩
          · have hE : frmE T F at1 an aa = 0 := by simpa using e3
            obtain ⟨hE0, hE1, hE2⟩ := frm_zero hE
            obtain ⟨g1, g2, t, ht⟩ := tErr_at hE0
            have eI : tIm T at1 = t.im := by unfold tIm; rw [if_pos g1, ht]; rfl
            have h8 := hT.im _ (List.mem_of_getElem? ht)
            have hnd := hT.nd _ (List.mem_of_getElem? ht)
            have hall := frm_all hE
            rw [eI] at hall hE1 ⊢
            have hLl : frmL T F at1 an aa = (List.range (fnd an an.length).length).map (fun (i : Nat) => (T.length : Int) + i) := by unfold frmL; rw [if_pos hE]
            have hTT : frmT T F at1 an aa = T ++ (sortI (fnd an an.length)).map (newTm T at1 an aa) := by unfold frmT; rw [if_pos hE]
            have hSl : (sortI (fnd an an.length)).length = (fnd an an.length).length := sortI_len _
            have hgood : ∀ n ∈ sortI (fnd an an.length), (newTm T at1 an aa n).im ≠ [] ∧ (newTm T at1 an aa n).im.length ≤ 8 ∧ (newTm T at1 an aa n).im.Nodup := fun n hn => newTm_good hE hT hn
            rw [hLl, ← hSl]
            generalize hT2 : frmT T F at1 an aa = T2 at *
            generalize hS : sortI (fnd an an.length) = S at *
            have hat : ∀ (q : Nat) (n : Int), S[q]? = some n → tErr T2 ((T.length : Int) + q) = 0 ∧ tIm T2 ((T.length : Int) + q) = (newTm T at1 an aa n).im ∧ tPar T2 ((T.length : Int) + q) = at1 := by
              intro q n hq
              have hql := (List.getElem?_eq_some_iff.1 hq).1
              have hg : T2[((T.length : Int) + q).toNat]? = some (newTm T at1 an aa n) := by
                rw [hTT, show ((T.length : Int) + q).toNat = T.length + q by omega, List.getElem?_append_right (by omega), Nat.add_sub_cancel_left, List.getElem?_map, hq]; rfl
              have hlt2 : T.length + q < T2.length := by rw [hTT, List.length_append, List.length_map]; omega
              refine ⟨?_, ?_, ?_⟩
              · unfold tErr; rw [if_pos (by omega)]
              · unfold tIm; rw [if_pos (by omega), hg]; rfl
              · unfold tPar; rw [if_pos (by omega), hg]; rfl
            have hpre : ∀ q, (S.take q).flatMap (fun n => (newTm T at1 an aa n).im) <+: S.flatMap (fun n => (newTm T at1 an aa n).im) := by
              intro q
              conv => rhs; rw [← List.take_append_drop q S]
              rw [List.flatMap_append]
              exact List.prefix_append _ _
            have hplen : ∀ q, ((S.take q).flatMap (fun n => (newTm T at1 an aa n).im)).length ≤ 8 := fun q => by
              have := (hpre q).length_le
              have := hall.length_eq
              omega
            refine ⟨[], [1, 5, 7, 8, 10, 12, 13, 14], 6, fun n2 σ => ∃ (q : Nat) (M : List (Int × D)), q ≤ S.length ∧ n2 = S.length - q ∧ Seen ((S.take q).flatMap fun n => (newTm T at1 an aa n).im) M ∧ σ = (⟨[.junk, .one (.d (.sl 4 (l.map Ac.c))), .junk, .junk, .junk, .one (.ptr 0 0), .junk, .di .i64 i, .one (.own 3), .junk, .one (.own 4), .junk, .one (.own 5), .di .i64 (((S.take q).flatMap fun n => (newTm T at1 an aa n).im).length), .di .i64 q, .junk, .junk, .junk, .junk, .junk, .junk, .junk, .junk, .junk, .junk, .junk, .junk, .junk, .junk, .junk, .junk, .junk, .junk, .junk, .junk, .junk, .junk, .junk, .junk, .junk, .junk, .junk, .junk, .junk, .junk, .junk, .junk, .junk, .junk, .junk, .junk, .junk, .junk, .junk, .junk, .junk, .junk, .junk, .junk, .junk, .junk, .junk, .junk, .junk, .junk, .junk, .junk, .junk, .junk, .junk, .junk, .junk, .junk, .junk, .junk, .junk, .junk, .junk, .junk, .junk, .junk, .junk, .junk, .junk, .junk, .junk, .junk, .junk, .junk, .junk, .junk, .junk, .junk, .junk, .junk, .junk, .junk, .junk, .junk, .junk, .junk, .junk, .junk, .junk, .junk, .junk, .junk, .junk, .junk, .junk, .junk, .junk, .junk, .junk, .junk, .junk, .junk, .junk, .junk, .junk, .junk, .junk, .junk, .junk, .junk, .junk, .junk, .junk, .junk, .junk, .junk, .junk, .junk, .junk, .junk, .junk, .junk, .junk, .junk, .junk, .junk, .junk, .junk, .junk, .junk, .junk, .junk, .junk, .junk, .junk, .junk, .junk, .junk, .junk, .junk, .junk, .junk, .junk, .junk, .junk, .junk], [.box tB, .row 2 (tRow T2), .mapd (mdF F), .row 1 (t.im.map inC), .row 1 (((List.range S.length).map (fun (i : Nat) => (T.length : Int) + i)).map inC), .mapd M]⟩ : St), ?_, ?_⟩
            · refine ⟨S.length, ?_⟩
              conv => whnf
              exact ⟨0, [], by omega, by omega, seen_nil, rfl⟩
            · rintro n2 _ ⟨q, M, hq, rfl, HM, rfl⟩
              conv => whnf
              rw [map_len, List.length_map, List.length_range]
              ((with_reducible refine And.intro (fun (e : (_ : Bool) = true) => ?_) (fun (e : (_ : Bool) = false) => ?_)) <;> (try simp only [reduceCtorEq, ints_len, bools_len, bif_t, bif_f, zv0, zv1, zv2, zv3, zv4, zv5, zv6, zv7, zv8, zv9, zv10, zv11, zv12, zv13, zv14, zv15, zv16, zv17, zv18, zv19, zv20, zv21, zv22, zv23, zv24] at e) <;> (conv => whnf))
              · obtain ⟨n, hn⟩ := get_lt (l := S) (i := q) (by omega)
                have hnS := List.mem_of_getElem? hn
                obtain ⟨a1, a2, a3⟩ := hat q n hn
                obtain ⟨b1, b2, b3⟩ := hgood n hnS
                have hrow : ((List.range S.length).map (fun (i : Nat) => (T.length : Int) + i))[q]? = some ((T.length : Int) + q) := by
                  rw [List.getElem?_map, List.getElem?_range (by omega)]; rfl
                refine And.intro ⟨by omega, by rw [map_len, List.length_map, List.length_range]; omega⟩ ?_
                conv => whnf
                refine ⟨_, And.intro (enc_get hrow) ?_⟩
                conv => whnf
                (refine ⟨[0, 1, 2], false, false, ?_⟩; (conv => whnf); intro u0 u1 u2; (conv => whnf); refine ⟨_, _, ⟨T2, F, (T.length : Int) + q, u0, u1, u2, rfl, rfl, hT'.toTOk, rfl, rfl⟩, ?_⟩; (conv => whnf); refine ⟨rfl, ?_⟩; (conv => whnf); refine ⟨rfl, ?_⟩; (conv => whnf); refine ⟨rfl, ?_⟩; (conv => whnf))
                rw [a1, a2]
                refine And.intro ⟨by omega, by rw [map_len, List.length_map, List.length_range]; omega⟩ ?_
                conv => whnf
                refine ⟨_, And.intro (enc_get hrow) ?_⟩
                conv => whnf
                (refine ⟨[0, 1, 2], false, false, ?_⟩; (conv => whnf); intro u0 u1 u2; (conv => whnf); refine ⟨_, _, ⟨T2, F, (T.length : Int) + q, u0, u1, u2, rfl, rfl, hT'.pos, rfl, rfl⟩, ?_⟩; (conv => whnf); refine ⟨rfl, ?_⟩; (conv => whnf); refine ⟨rfl, ?_⟩; (conv => whnf); refine ⟨rfl, ?_⟩; (conv => whnf))
                rw [a1, a3]
                (repeat ((first | with_reducible refine And.intro (fun h => h) ?_ | with_reducible refine And.intro (fun _ => rfl) ?_ | with_reducible refine And.intro rfl ?_); conv => whnf))
                (refine ⟨_, And.intro (fun _ => ⟨by omega, enc_get ha⟩) ?_⟩; (conv => whnf))
                (repeat ((first | with_reducible refine And.intro (fun h => h) ?_ | with_reducible refine And.intro (fun _ => rfl) ?_ | with_reducible refine And.intro rfl ?_); conv => whnf))
                refine And.intro (fun (e4 : (_ : Bool) = true) => ?_) (fun (e4 : (_ : Bool) = false) => ?_) <;> (conv => whnf)
                · exfalso
                  simp at e4
                  exact b1 e4
                · have htk : (S.take (q + 1)).flatMap (fun n => (newTm T at1 an aa n).im) = (S.take q).flatMap (fun n => (newTm T at1 an aa n).im) ++ (newTm T at1 an aa n).im := by
                    rw [List.take_add_one, hn, List.flatMap_append]
                    show _ ++ List.flatMap _ [n] = _
                    rw [List.flatMap_cons, List.flatMap_nil, List.append_nil]
                  have hp1 := hplen q
                  have hp2 := hplen (q + 1)
                  rw [htk] at hp2
                  generalize hP : (S.take q).flatMap (fun n => (newTm T at1 an aa n).im) = P at *
                  generalize hI : (newTm T at1 an aa n).im = I at *
                  rw [List.length_append] at hp2
                  refine ⟨[], [1, 5, 7, 8, 10, 12, 13, 14, 15, 19], 7, fun n3 σ => ∃ (j : Nat) (M : List (Int × D)), j ≤ I.length ∧ n3 = I.length - j ∧ Seen (P ++ I.take j) M ∧ σ = (⟨[.junk, .one (.d (.sl 4 (l.map Ac.c))), .junk, .junk, .junk, .one (.ptr 0 0), .junk, .di .i64 i, .one (.own 3), .junk, .one (.own 4), .junk, .one (.own 5), .di .i64 ((P.length : Int) + j), .di .i64 q, .one (.own 6), .junk, .junk, .junk, .di .i64 j, .junk, .junk, .junk, .junk, .junk, .junk, .junk, .junk, .junk, .junk, .junk, .junk, .junk, .junk, .junk, .junk, .junk, .junk, .junk, .junk, .junk, .junk, .junk, .junk, .junk, .junk, .junk, .junk, .junk, .junk, .junk, .junk, .junk, .junk, .junk, .junk, .junk, .junk, .junk, .junk, .junk, .junk, .junk, .junk, .junk, .junk, .junk, .junk, .junk, .junk, .junk, .junk, .junk, .junk, .junk, .junk, .junk, .junk, .junk, .junk, .junk, .junk, .junk, .junk, .junk, .junk, .junk, .junk, .junk, .junk, .junk, .junk, .junk, .junk, .junk, .junk, .junk, .junk, .junk, .junk, .junk, .junk, .junk, .junk, .junk, .junk, .junk, .junk, .junk, .junk, .junk, .junk, .junk, .junk, .junk, .junk, .junk, .junk, .junk, .junk, .junk, .junk, .junk, .junk, .junk, .junk, .junk, .junk, .junk, .junk, .junk, .junk, .junk, .junk, .junk, .junk, .junk, .junk, .junk, .junk, .junk, .junk, .junk, .junk, .junk, .junk, .junk, .junk, .junk, .junk, .junk, .junk, .junk, .junk, .junk, .junk, .junk, .junk, .junk, .junk, .junk], [.box tB, .row 2 (tRow T2), .mapd (mdF F), .row 1 (t.im.map inC), .row 1 (((List.range S.length).map (fun (i : Nat) => (T.length : Int) + i)).map inC), .mapd M, .row 1 (I.map inC)]⟩ : St), ?_, ?_⟩
                  · refine ⟨I.length, ?_⟩
                    conv => whnf
                    exact ⟨0, M, by omega, by omega, by rw [List.take_zero, List.append_nil]; exact HM, by rw [show ((P.length : Int) + (0 : Nat)) = P.length by omega]; rfl⟩
                  · clear HM
                    rintro n3 _ ⟨j, M, hj, rfl, HM, rfl⟩
                    conv => whnf
                    rw [map_len]
                    ((with_reducible refine And.intro (fun (e : (_ : Bool) = true) => ?_) (fun (e : (_ : Bool) = false) => ?_)) <;> (try simp only [reduceCtorEq, ints_len, bools_len, bif_t, bif_f, zv0, zv1, zv2, zv3, zv4, zv5, zv6, zv7, zv8, zv9, zv10, zv11, zv12, zv13, zv14, zv15, zv16, zv17, zv18, zv19, zv20, zv21, zv22, zv23, zv24] at e) <;> (conv => whnf))
                    · obtain ⟨x, hx⟩ := get_lt (l := I) (i := j) (by omega)
                      have htk2 : P ++ I.take (j + 1) = (P ++ I.take j) ++ [x] := by rw [List.take_add_one, hx, List.append_assoc]; rfl
                      have hc : (P ++ I.take j).count x ≤ 16 := Nat.le_trans List.count_le_length (by rw [List.length_append, List.length_take]; omega)
                      (refine And.intro ⟨by omega, by rw [map_len]; omega⟩ ?_; (conv => whnf); refine ⟨_, And.intro (enc_get hx) ?_⟩; (conv => whnf))
                      refine ⟨fun y hy => ?_, fun hno => ?_⟩
                      · have hy2 := seen_at HM hy
                        subst hy2
                        conv => whnf
                        (refine And.intro ?_ ?_; ((first | (with_reducible assumption) | (intro _; with_reducible assumption) | omega | (simp only [reduceCtorEq, ints_len, bools_len, bif_t, bif_f, zv0, zv1, zv2, zv3, zv4, zv5, zv6, zv7, zv8, zv9, zv10, zv11, zv12, zv13, zv14, zv15, zv16, zv17, zv18, zv19, zv20, zv21, zv22, zv23, zv24] at *; omega) | (intro hg; (try simp only [reduceCtorEq, ints_len, bools_len, bif_t, bif_f, zv0, zv1, zv2, zv3, zv4, zv5, zv6, zv7, zv8, zv9, zv10, zv11, zv12, zv13, zv14, zv15, zv16, zv17, zv18, zv19, zv20, zv21, zv22, zv23, zv24] at hg); first | (with_reducible assumption) | omega | (simp only [reduceCtorEq, ints_len, bools_len, bif_t, bif_f, zv0, zv1, zv2, zv3, zv4, zv5, zv6, zv7, zv8, zv9, zv10, zv11, zv12, zv13, zv14, zv15, zv16, zv17, zv18, zv19, zv20, zv21, zv22, zv23, zv24] at *; omega) | (refine ⟨?_, ?_⟩ <;> omega)) | (refine ⟨?_, ?_⟩ <;> omega) | (simp [*]; done) | grind)); (conv => whnf))
                        (refine And.intro ?_ ?_; ((first | (with_reducible assumption) | (intro _; with_reducible assumption) | omega | (simp only [reduceCtorEq, ints_len, bools_len, bif_t, bif_f, zv0, zv1, zv2, zv3, zv4, zv5, zv6, zv7, zv8, zv9, zv10, zv11, zv12, zv13, zv14, zv15, zv16, zv17, zv18, zv19, zv20, zv21, zv22, zv23, zv24] at *; omega) | (intro hg; (try simp only [reduceCtorEq, ints_len, bools_len, bif_t, bif_f, zv0, zv1, zv2, zv3, zv4, zv5, zv6, zv7, zv8, zv9, zv10, zv11, zv12, zv13, zv14, zv15, zv16, zv17, zv18, zv19, zv20, zv21, zv22, zv23, zv24] at hg); first | (with_reducible assumption) | omega | (simp only [reduceCtorEq, ints_len, bools_len, bif_t, bif_f, zv0, zv1, zv2, zv3, zv4, zv5, zv6, zv7, zv8, zv9, zv10, zv11, zv12, zv13, zv14, zv15, zv16, zv17, zv18, zv19, zv20, zv21, zv22, zv23, zv24] at *; omega) | (refine ⟨?_, ?_⟩ <;> omega)) | (refine ⟨?_, ?_⟩ <;> omega) | (simp [*]; done) | grind)); (conv => whnf))
                        (refine And.intro ?_ ?_; ((first | (with_reducible assumption) | (intro _; with_reducible assumption) | omega | (simp only [reduceCtorEq, ints_len, bools_len, bif_t, bif_f, zv0, zv1, zv2, zv3, zv4, zv5, zv6, zv7, zv8, zv9, zv10, zv11, zv12, zv13, zv14, zv15, zv16, zv17, zv18, zv19, zv20, zv21, zv22, zv23, zv24] at *; omega) | (intro hg; (try simp only [reduceCtorEq, ints_len, bools_len, bif_t, bif_f, zv0, zv1, zv2, zv3, zv4, zv5, zv6, zv7, zv8, zv9, zv10, zv11, zv12, zv13, zv14, zv15, zv16, zv17, zv18, zv19, zv20, zv21, zv22, zv23, zv24] at hg); first | (with_reducible assumption) | omega | (simp only [reduceCtorEq, ints_len, bools_len, bif_t, bif_f, zv0, zv1, zv2, zv3, zv4, zv5, zv6, zv7, zv8, zv9, zv10, zv11, zv12, zv13, zv14, zv15, zv16, zv17, zv18, zv19, zv20, zv21, zv22, zv23, zv24] at *; omega) | (refine ⟨?_, ?_⟩ <;> omega)) | (refine ⟨?_, ?_⟩ <;> omega) | (simp [*]; done) | grind)); (conv => whnf))
                        refine ⟨I.length - (j + 1), by omega, [], ?_⟩
                        conv => whnf
                        refine ⟨j + 1, _, by omega, rfl, by rw [htk2]; exact seen_put HM x, ?_⟩
                        rw [show ((P.length : Int) + (j + 1 : Nat)) = (P.length : Int) + j + 1 by omega]; rfl
                      · have h0 := seen_no HM hno
                        have hput := seen_put HM x
                        rw [h0] at hput
                        conv => whnf
                        (refine And.intro ?_ ?_; ((first | (with_reducible assumption) | (intro _; with_reducible assumption) | omega | (simp only [reduceCtorEq, ints_len, bools_len, bif_t, bif_f, zv0, zv1, zv2, zv3, zv4, zv5, zv6, zv7, zv8, zv9, zv10, zv11, zv12, zv13, zv14, zv15, zv16, zv17, zv18, zv19, zv20, zv21, zv22, zv23, zv24] at *; omega) | (intro hg; (try simp only [reduceCtorEq, ints_len, bools_len, bif_t, bif_f, zv0, zv1, zv2, zv3, zv4, zv5, zv6, zv7, zv8, zv9, zv10, zv11, zv12, zv13, zv14, zv15, zv16, zv17, zv18, zv19, zv20, zv21, zv22, zv23, zv24] at hg); first | (with_reducible assumption) | omega | (simp only [reduceCtorEq, ints_len, bools_len, bif_t, bif_f, zv0, zv1, zv2, zv3, zv4, zv5, zv6, zv7, zv8, zv9, zv10, zv11, zv12, zv13, zv14, zv15, zv16, zv17, zv18, zv19, zv20, zv21, zv22, zv23, zv24] at *; omega) | (refine ⟨?_, ?_⟩ <;> omega)) | (refine ⟨?_, ?_⟩ <;> omega) | (simp [*]; done) | grind)); (conv => whnf))
                        (refine And.intro ?_ ?_; ((first | (with_reducible assumption) | (intro _; with_reducible assumption) | omega | (simp only [reduceCtorEq, ints_len, bools_len, bif_t, bif_f, zv0, zv1, zv2, zv3, zv4, zv5, zv6, zv7, zv8, zv9, zv10, zv11, zv12, zv13, zv14, zv15, zv16, zv17, zv18, zv19, zv20, zv21, zv22, zv23, zv24] at *; omega) | (intro hg; (try simp only [reduceCtorEq, ints_len, bools_len, bif_t, bif_f, zv0, zv1, zv2, zv3, zv4, zv5, zv6, zv7, zv8, zv9, zv10, zv11, zv12, zv13, zv14, zv15, zv16, zv17, zv18, zv19, zv20, zv21, zv22, zv23, zv24] at hg); first | (with_reducible assumption) | omega | (simp only [reduceCtorEq, ints_len, bools_len, bif_t, bif_f, zv0, zv1, zv2, zv3, zv4, zv5, zv6, zv7, zv8, zv9, zv10, zv11, zv12, zv13, zv14, zv15, zv16, zv17, zv18, zv19, zv20, zv21, zv22, zv23, zv24] at *; omega) | (refine ⟨?_, ?_⟩ <;> omega)) | (refine ⟨?_, ?_⟩ <;> omega) | (simp [*]; done) | grind)); (conv => whnf))
                        (refine And.intro ?_ ?_; ((first | (with_reducible assumption) | (intro _; with_reducible assumption) | omega | (simp only [reduceCtorEq, ints_len, bools_len, bif_t, bif_f, zv0, zv1, zv2, zv3, zv4, zv5, zv6, zv7, zv8, zv9, zv10, zv11, zv12, zv13, zv14, zv15, zv16, zv17, zv18, zv19, zv20, zv21, zv22, zv23, zv24] at *; omega) | (intro hg; (try simp only [reduceCtorEq, ints_len, bools_len, bif_t, bif_f, zv0, zv1, zv2, zv3, zv4, zv5, zv6, zv7, zv8, zv9, zv10, zv11, zv12, zv13, zv14, zv15, zv16, zv17, zv18, zv19, zv20, zv21, zv22, zv23, zv24] at hg); first | (with_reducible assumption) | omega | (simp only [reduceCtorEq, ints_len, bools_len, bif_t, bif_f, zv0, zv1, zv2, zv3, zv4, zv5, zv6, zv7, zv8, zv9, zv10, zv11, zv12, zv13, zv14, zv15, zv16, zv17, zv18, zv19, zv20, zv21, zv22, zv23, zv24] at *; omega) | (refine ⟨?_, ?_⟩ <;> omega)) | (refine ⟨?_, ?_⟩ <;> omega) | (simp [*]; done) | grind)); (conv => whnf))
                        refine ⟨I.length - (j + 1), by omega, [], ?_⟩
                        conv => whnf
                        refine ⟨j + 1, _, by omega, rfl, by rw [htk2]; exact hput, ?_⟩
                        rw [show ((P.length : Int) + (j + 1 : Nat)) = (P.length : Int) + j + 1 by omega]; rfl
                    · have hj' : j = I.length := by omega
                      subst hj'
                      rw [List.take_length] at HM
                      (refine And.intro ?_ ?_; ((first | (with_reducible assumption) | (intro _; with_reducible assumption) | omega | (simp only [reduceCtorEq, ints_len, bools_len, bif_t, bif_f, zv0, zv1, zv2, zv3, zv4, zv5, zv6, zv7, zv8, zv9, zv10, zv11, zv12, zv13, zv14, zv15, zv16, zv17, zv18, zv19, zv20, zv21, zv22, zv23, zv24] at *; omega) | (intro hg; (try simp only [reduceCtorEq, ints_len, bools_len, bif_t, bif_f, zv0, zv1, zv2, zv3, zv4, zv5, zv6, zv7, zv8, zv9, zv10, zv11, zv12, zv13, zv14, zv15, zv16, zv17, zv18, zv19, zv20, zv21, zv22, zv23, zv24] at hg); first | (with_reducible assumption) | omega | (simp only [reduceCtorEq, ints_len, bools_len, bif_t, bif_f, zv0, zv1, zv2, zv3, zv4, zv5, zv6, zv7, zv8, zv9, zv10, zv11, zv12, zv13, zv14, zv15, zv16, zv17, zv18, zv19, zv20, zv21, zv22, zv23, zv24] at *; omega) | (refine ⟨?_, ?_⟩ <;> omega)) | (refine ⟨?_, ?_⟩ <;> omega) | (simp [*]; done) | grind)); (conv => whnf))
                      refine ⟨S.length - (q + 1), by omega, [], ?_⟩
                      conv => whnf
                      refine ⟨q + 1, M, by omega, rfl, by rw [htk]; exact HM, ?_⟩
                      rw [htk, List.length_append]; rfl
              · have hq' : q = S.length := by omega
                subst hq'
                rw [List.take_length] at HM ⊢
                have hcnt : ∀ x ∈ t.im, (S.flatMap fun n => (newTm T at1 an aa n).im).count x = 1 := fun x hx => by
                  rw [hall.count_eq]
                  rw [hnd.count, if_pos hx]
                have hlen := hall.length_eq
                generalize hP : S.flatMap (fun n => (newTm T at1 an aa n).im) = P at *
                refine ⟨[], [1, 5, 7, 8, 12, 13, 20], 6, fun n3 σ => ∃ j : Nat, j ≤ t.im.length ∧ n3 = t.im.length - j ∧ σ = (⟨[.junk, .one (.d (.sl 4 (l.map Ac.c))), .junk, .junk, .junk, .one (.ptr 0 0), .junk, .di .i64 i, .one (.own 3), .junk, .junk, .junk, .one (.own 5), .di .i64 P.length, .junk, .junk, .junk, .junk, .junk, .junk, .di .i64 j, .junk, .junk, .junk, .junk, .junk, .junk, .junk, .junk, .junk, .junk, .junk, .junk, .junk, .junk, .junk, .junk, .junk, .junk, .junk, .junk, .junk, .junk, .junk, .junk, .junk, .junk, .junk, .junk, .junk, .junk, .junk, .junk, .junk, .junk, .junk, .junk, .junk, .junk, .junk, .junk, .junk, .junk, .junk, .junk, .junk, .junk, .junk, .junk, .junk, .junk, .junk, .junk, .junk, .junk, .junk, .junk, .junk, .junk, .junk, .junk, .junk, .junk, .junk, .junk, .junk, .junk, .junk, .junk, .junk, .junk, .junk, .junk, .junk, .junk, .junk, .junk, .junk, .junk, .junk, .junk, .junk, .junk, .junk, .junk, .junk, .junk, .junk, .junk, .junk, .junk, .junk, .junk, .junk, .junk, .junk, .junk, .junk, .junk, .junk, .junk, .junk, .junk, .junk, .junk, .junk, .junk, .junk, .junk, .junk, .junk, .junk, .junk, .junk, .junk, .junk, .junk, .junk, .junk, .junk, .junk, .junk, .junk, .junk, .junk, .junk, .junk, .junk, .junk, .junk, .junk, .junk, .junk, .junk, .junk, .junk, .junk, .junk, .junk, .junk, .junk], [.box tB, .row 2 (tRow T2), .mapd (mdF F), .row 1 (t.im.map inC), .row 1 (((List.range S.length).map (fun (i : Nat) => (T.length : Int) + i)).map inC), .mapd M]⟩ : St), ?_, ?_⟩
                · refine ⟨t.im.length, ?_⟩
                  conv => whnf
                  exact ⟨0, by omega, by omega, rfl⟩
                · rintro n3 _ ⟨j, hj, rfl, rfl⟩
                  conv => whnf
                  rw [map_len]
                  ((with_reducible refine And.intro (fun (e : (_ : Bool) = true) => ?_) (fun (e : (_ : Bool) = false) => ?_)) <;> (try simp only [reduceCtorEq, ints_len, bools_len, bif_t, bif_f, zv0, zv1, zv2, zv3, zv4, zv5, zv6, zv7, zv8, zv9, zv10, zv11, zv12, zv13, zv14, zv15, zv16, zv17, zv18, zv19, zv20, zv21, zv22, zv23, zv24] at e) <;> (conv => whnf))
                  · obtain ⟨x, hx⟩ := get_lt (l := t.im) (i := j) (by omega)
                    have h1 := hcnt x (List.mem_of_getElem? hx)
                    (refine And.intro ⟨by omega, by rw [map_len]; omega⟩ ?_; (conv => whnf); refine ⟨_, And.intro (enc_get hx) ?_⟩; (conv => whnf))
                    refine ⟨fun y hy => ?_, fun hno => ?_⟩
                    · have hy2 := seen_at HM hy
                      rw [h1] at hy2
                      subst hy2
                      conv => whnf
                      ((first | refine And.intro (fun _ => ?_) (fun h => absurd h (by decide)) | refine And.intro (fun h => absurd h (by decide)) (fun _ => ?_)); (conv => whnf))
                      (refine And.intro ?_ ?_; ((first | (with_reducible assumption) | (intro _; with_reducible assumption) | omega | (simp only [reduceCtorEq, ints_len, bools_len, bif_t, bif_f, zv0, zv1, zv2, zv3, zv4, zv5, zv6, zv7, zv8, zv9, zv10, zv11, zv12, zv13, zv14, zv15, zv16, zv17, zv18, zv19, zv20, zv21, zv22, zv23, zv24] at *; omega) | (intro hg; (try simp only [reduceCtorEq, ints_len, bools_len, bif_t, bif_f, zv0, zv1, zv2, zv3, zv4, zv5, zv6, zv7, zv8, zv9, zv10, zv11, zv12, zv13, zv14, zv15, zv16, zv17, zv18, zv19, zv20, zv21, zv22, zv23, zv24] at hg); first | (with_reducible assumption) | omega | (simp only [reduceCtorEq, ints_len, bools_len, bif_t, bif_f, zv0, zv1, zv2, zv3, zv4, zv5, zv6, zv7, zv8, zv9, zv10, zv11, zv12, zv13, zv14, zv15, zv16, zv17, zv18, zv19, zv20, zv21, zv22, zv23, zv24] at *; omega) | (refine ⟨?_, ?_⟩ <;> omega)) | (refine ⟨?_, ?_⟩ <;> omega) | (simp [*]; done) | grind)); (conv => whnf))
                      refine ⟨t.im.length - (j + 1), by omega, [], ?_⟩
                      conv => whnf
                      exact ⟨j + 1, by omega, rfl, rfl⟩
                    · have h0 := seen_no HM hno
                      omega
                  · refine And.intro (fun (e6 : (_ : Bool) = true) => ?_) (fun (e6 : (_ : Bool) = false) => ?_) <;> (conv => whnf)
                    · exfalso
                      rw [map_len, hlen] at e6
                      simp at e6
                    · (refine And.intro ?_ ?_; ((first | (with_reducible assumption) | (intro _; with_reducible assumption) | omega | (simp only [reduceCtorEq, ints_len, bools_len, bif_t, bif_f, zv0, zv1, zv2, zv3, zv4, zv5, zv6, zv7, zv8, zv9, zv10, zv11, zv12, zv13, zv14, zv15, zv16, zv17, zv18, zv19, zv20, zv21, zv22, zv23, zv24] at *; omega) | (intro hg; (try simp only [reduceCtorEq, ints_len, bools_len, bif_t, bif_f, zv0, zv1, zv2, zv3, zv4, zv5, zv6, zv7, zv8, zv9, zv10, zv11, zv12, zv13, zv14, zv15, zv16, zv17, zv18, zv19, zv20, zv21, zv22, zv23, zv24] at hg); first | (with_reducible assumption) | omega | (simp only [reduceCtorEq, ints_len, bools_len, bif_t, bif_f, zv0, zv1, zv2, zv3, zv4, zv5, zv6, zv7, zv8, zv9, zv10, zv11, zv12, zv13, zv14, zv15, zv16, zv17, zv18, zv19, zv20, zv21, zv22, zv23, zv24] at *; omega) | (refine ⟨?_, ?_⟩ <;> omega)) | (refine ⟨?_, ?_⟩ <;> omega) | (simp [*]; done) | grind)); (conv => whnf))
                      refine ⟨l.length - (i + 1), by omega, [], ?_⟩
                      conv => whnf
                      exact ⟨i + 1, T2, F, by omega, rfl, hT', rfl⟩
      · (refine ⟨[], false, false, ?_⟩; (conv => whnf); refine ⟨_, _, ⟨rfl, rfl, rfl, rfl⟩, ?_⟩; (conv => whnf))
        (refine ⟨[], ?_⟩; (conv => whnf); refine ⟨[], .nil, .nil, ?_⟩; (conv => whnf))
end Go.Proofs.Ytphmcgmblkbijaa.V
-- Vacc
namespace Go.Proofs.Ytphmcgmblkbijaa.V
open Go.Proofs.YtphmcgmblkbijaaVY Go.RowKit
theorem bulkAll_sum {H : Type} : ∀ l : List (DataW H), Rows.uptoBulkAll l = (l.map Rows.uptoBulk).sum
  | [] => by simp [Rows.uptoBulkAll]
  | d :: l => by rw [Rows.uptoBulkAll, bulkAll_sum l, List.map_cons, List.sum_cons]
theorem meas {H : Type} : Meas (H := H) Rows.uptoBulk where
  lit x := by cases x <;> simp [Rows.uptoBulk]
  str b := by simp [Rows.uptoBulk]
  nil := by simp [Rows.uptoBulk]
  slice es sp := by rw [Rows.uptoBulk, bulkAll_sum]; omega
  agg ps := by rw [Rows.uptoBulk, bulkAll_sum]; omega
theorem small_bd {H : Type} {ds : List (DataW H)} (h : Rows.uptoSmall H ds = true) : (ds.map Rows.uptoBulk).sum ≤ 1048576 := by
  rw [← bulkAll_sum]
  exact of_decide_eq_true h
theorem all2_map {α : Type} {enc : α → List D} {Q : List D → Prop} {B : α → Nat} {L : List (List D)} (h : ∀ e ∈ L, ∃ x, e = enc x ∧ B x ≤ dBs e) : ∃ l : List α, L = l.map enc ∧ (l.map B).sum ≤ dBL L := by
  induction L with
  | nil => exact ⟨[], rfl, Nat.zero_le _⟩
  | cons e L ih =>
    obtain ⟨b, rfl, hb⟩ := h e (List.mem_cons_self ..)
    obtain ⟨l, rfl, hl⟩ := ih fun x hx => h x (List.mem_cons_of_mem _ hx)
    exact ⟨b :: l, rfl, by rw [List.map_cons, List.sum_cons, dBL]; omega⟩
theorem sum_one {α : Type} : ∀ l : List α, (l.map fun _ => 1).sum = l.length
  | [] => rfl
  | x :: l => by rw [List.map_cons, List.sum_cons, sum_one l, List.length_cons, Nat.add_comm]
theorem sh_ints {m : Nat} {l : List D} (h : Sh Try.prog m 22 l) : ∃ x : List Int, l = [.sl 1 (x.map inC)] ∧ x.length + 1 ≤ dBs l := by
  obtain ⟨m', L, _, rfl, _, hL⟩ := sh_slice Try.underlying22 h
  obtain ⟨x, rfl, hx⟩ := all2_map (Q := fun _ => True) (enc := inC) (B := fun _ => 1) fun e he => by
    obtain ⟨n, hn, _⟩ := sh_int Try.underlying3 (hL e he)
    exact ⟨n, hn, by rw [hn]; simp [dBs, dB]⟩
  rw [sum_one] at hx
  exact ⟨x, by rw [show Try.prog.cellsOf 3 = 1 by kernel_rfl], by simp only [dBs, dB, Nat.add_zero]; omega⟩
end Go.Proofs.Ytphmcgmblkbijaa.V
-- Tk
namespace Go.Proofs.Ytphmcgmblkbijaa.V
open Go.Proofs.YtphmcgmblkbijaaVY Go.RowKit
theorem sh_acts {m : Nat} {l : List D} (h : Sh Try.prog m 36 l) : ∃ x : List Ac, l = [.sl 4 (x.map Ac.c)] ∧ x.length < 4611686018427387904 := by
  obtain ⟨m', L, _, rfl, hb, hL⟩ := sh_slice Try.underlying36 h
  obtain ⟨x, rfl, _⟩ := all2_map (Q := fun _ => True) (enc := Ac.c) (B := fun _ => 0) (L := L) fun e he => by
    obtain ⟨m2, parts, _, rfl, hp⟩ := sh_struct Try.underlying42 (hL e he)
    cases hp with
    | cons h1 hp =>
    cases hp with
    | cons h2 hp =>
    cases hp with
    | cons h3 hp =>
    cases hp with
    | cons h4 hp =>
    cases hp
    obtain ⟨a, rfl, _⟩ := sh_int Try.underlying3 h1
    obtain ⟨b, rfl, _⟩ := sh_int Try.underlying3 h2
    obtain ⟨c, rfl, _⟩ := sh_ints h3
    obtain ⟨d, rfl, _⟩ := sh_ints h4
    exact ⟨⟨a, b, c, d⟩, rfl, Nat.zero_le _⟩
  refine ⟨x, by rw [show Try.prog.cellsOf 42 = 4 by kernel_rfl], ?_⟩
  rw [show Try.prog.bytesOf 42 = 64 by kernel_rfl, List.length_map] at hb
  have : reachBytes ≤ 140737488355328 := by decide
  omega
end Go.Proofs.Ytphmcgmblkbijaa.V
-- Vrow
namespace Go.Proofs.Ytphmcgmblkbijaa.V
open Go.Proofs.YtphmcgmblkbijaaVY Go.RowKit
theorem law_row {f : Nat} {R : Ct} (h : VSound Try.prog (f, R)) (he : enterB Try.prog f = true) {W : World} {args : Array Value} {ss : List S} (hG : GP (fun _ => False) W) (ha : All2 (SRel [] (fun _ => False) W) args.toList ss) (hR : R ss [] (.db true) []) :
    Calls Try.prog f args W fun e W' => e = .returned (.bool true) ∧ Below W.heap.size W W' := by
  have hn : ∀ b, ¬ Live [] [] b := by rintro b ⟨_, _, _, h, _⟩; simp at h
  have ha' : All2 (SRel [] (Av (fun _ => False) [] []) W) args.toList ss := ha.imp fun _ _ h => SRel.less (fun b hb => hb.elim id (hn b)) h
  have hp0 : HpRel (fun _ => False) [] [] W := ⟨rfl, fun _ _ _ h => by simp at h, fun _ _ _ _ _ _ _ h => by simp at h, fun b h => absurd h (hn b)⟩
  rcases h with ⟨ho, _⟩ | hx
  · refine (ho (fun _ => False) W args ss [] [] (.db true) [] hG (fun _ h => h.elim) hp0 (fun b h => absurd h (hn b)) ha' hR).mono ?_
    rintro e w' ⟨v, ρ, rfl, hs, hh, hg, hst, hsame, _⟩
    exact ⟨by rw [sdb_inv hs], hst.os, hst.tape, hst.output, hg, fun b hb => hsame b hb (hn b)⟩
  · obtain ⟨v, ρ, w', hrun, _⟩ := hx (fun _ => False) W args ss [] [] (.db true) [] hG (fun _ h => h.elim) hp0 ha' hR
    rw [run_enter (enterB_ok he) args] at hrun
    cases hrun
end Go.Proofs.Ytphmcgmblkbijaa.V
