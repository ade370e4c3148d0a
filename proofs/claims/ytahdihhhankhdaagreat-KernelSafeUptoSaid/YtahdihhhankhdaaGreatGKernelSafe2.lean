/-
  V: contracts of functions, texts of the session's own hand, in one file.
-/
import Derived.Test.YtahdihhhankhdaaGreatGKernelSafe1
import Derived.Sort.Grow
set_option linter.unusedVariables false
set_option linter.unusedSimpArgs false
set_option maxRecDepth 100000
set_option linter.all false
set_option linter.unnecessarySimpa false
set_option linter.deprecated false
-- Vsort
namespace Go.Proofs.YtahdihhhankhdaaGreat.V
open Go.Proofs.YtahdihhhankhdaaGreatVY Go.RowKit
def sortI (l : List Int) : List Int := l.mergeSort fun x y => decide (x ≤ y)
theorem sortI_len (l : List Int) : (sortI l).length = l.length := List.length_mergeSort l
theorem sortI_perm (l : List Int) : (sortI l).Perm l := List.mergeSort_perm ..
theorem sortI_sorted (l : List Int) : (sortI l).Pairwise (· ≤ ·) := by
  have := List.pairwise_mergeSort (le := fun x y : Int => decide (x ≤ y)) (by simp; omega) (by simp; omega) l
  exact this.imp fun h => by simpa using h
/-- cells that read as ints -/
theorem ints_cells {A : Nat → Prop} {w : World} {b off : Nat} {l : List Int} (h : RdL A w b off 1 (l.map inC)) {j : Nat} (hj : j < l.length) : w.cell? ⟨b, off + j, none⟩ = some (.int .i64 (l[j]'hj)) := by
  have h1 : (l.map inC)[j]? = some (inC l[j]) := by rw [List.getElem?_map, List.getElem?_eq_getElem hj]; rfl
  have h2 := (h.get h1).2
  simp only [RdC] at h2
  obtain ⟨⟨v, hv, hx⟩, _⟩ := h2
  simp only [Rd] at hx
  subst hx
  rw [Nat.mul_one] at hv
  exact hv
theorem ints_read {A : Nat → Prop} {w : World} {b off : Nat} {l : List Int} (h : ∀ (j : Nat) (hj : j < l.length), w.cell? ⟨b, off + j, none⟩ = some (.int .i64 (l[j]'hj))) : RdL A w b off 1 (l.map inC) := by
  refine RdL_mk fun i e he => ?_
  rw [List.getElem?_map] at he
  obtain ⟨n, hn, rfl⟩ := Option.map_eq_some_iff.1 he
  obtain ⟨hi, rfl⟩ := List.getElem?_eq_some_iff.1 hn
  refine ⟨rfl, RdC_mk fun j x hx => ?_⟩
  cases j with
  | zero => simp at hx; subst hx; exact ⟨_, by rw [Nat.mul_one, Nat.add_zero]; exact h i hi, by simp only [Rd]⟩
  | succ j => simp at hx
def R59 : Ct := fun ss hp r out => ∃ (l : List Int) (v : Value), ss = [.one (.own 0)] ∧ hp = [.row 1 (l.map inC), .mem v (.own 0)] ∧ l.length < 4611686018427387904 ∧ r = .tup [] ∧ out = [.row 1 ((sortI l).map inC), .mem v (.own 0)]
theorem ok59 : VSound Tryz.prog (59, R59) := by
  refine .inl ⟨?_, enterB_ok (by kernel_rfl)⟩
  intro X w args ss hp ρ r out hG hX hH hgl ha hR
  obtain ⟨l, v, rfl, rfl, hl, rfl, rfl⟩ := hR
  obtain ⟨v0, hv0, a, c, rfl, hlc, hz, hrow⟩ := hH.val (h := 0) (r := .row 1 (l.map inC)) rfl
  obtain ⟨v1, hv1, hmem⟩ := hH.val (h := 1) (r := .mem v (.own 0)) rfl
  rw [map_len] at hlc hv0
  obtain ⟨av, rfl⟩ : ∃ av, args = #[av] := by
    obtain ⟨args⟩ := args
    cases ha with
    | cons h1 h2 => cases h2; exact ⟨_, rfl⟩
  obtain ⟨hav, _⟩ : ρ[0]? = some av ∧ Flat av := by
    cases ha with
    | cons h1 h2 => exact h1
  rw [hv0] at hav; cases hav
  have tup : ∀ w', SRel ρ (Av X ρ [.row 1 ((sortI l).map inC), .mem v (.own 0)]) w' (.tuple #[]) (.tup []) := fun w' => ⟨#[], rfl, .nil⟩
  by_cases h0 : l.length = 0
  · have hl0 : l = [] := List.length_eq_zero_iff.1 h0
    subst hl0
    rw [show sortI [] = [] by simp [sortI]] at tup ⊢
    refine (Tryz.slices_Sort_int_none a c w).mono ?_
    rintro e w' ⟨rfl, rfl⟩
    exact ⟨_, ρ, rfl, tup _, hH, Nat.le_refl _, ⟨rfl, rfl, rfl⟩, fun _ _ _ => rfl, fun b hb => .inl hb⟩
  · rcases hrow with rfl | ⟨b, off, T, vs, rfl, hb, hsz, hL⟩
    · omega
    · have hlt : b < w.heap.size := (Array.getElem?_eq_some_iff.1 hb).1
      have hHolds : Sort.Holds (Value.int .i64) w b off l.toArray := fun j hj => by
        have hj' : j < l.length := by simpa using hj
        refine ⟨?_, by simp [World.frozen?, hb]⟩
        rw [ints_cells hL hj']
        simp [hj']
      refine (Tryz.slices_Sort_int b off c l w hHolds hlt hl).mono ?_
      rintro e w' ⟨rfl, n, os, hw⟩
      change w' = Sort.grow (Sort.putRow (Value.int .i64) (Sort.ahead w n) b off (sortI l).toArray) os at hw
      have hs : (sortI l).toArray.size = l.toArray.size := by simp [sortI_len]
      have hold : ∀ k, k < w.heap.size → k ≠ b → w'.heap[k]? = w.heap[k]? := by
        intro k hk hne
        rw [hw, show (Sort.grow (Sort.putRow (Value.int .i64) (Sort.ahead w n) b off (sortI l).toArray) os).heap = (Sort.putRow (Value.int .i64) (Sort.ahead w n) b off (sortI l).toArray).heap ++ os from rfl, Array.getElem?_append_left (by simpa using hk)]
        simp [Sort.putRow, Sort.mapBlock, Sort.ahead, Array.getElem?_modify, Ne.symm hne]
      have hnew : w'.heap[b]? = some (.cells (Sort.putCells (Value.int .i64) off (sortI l).toArray vs) T (0, 0)) := by
        rw [hw, show (Sort.grow (Sort.putRow (Value.int .i64) (Sort.ahead w n) b off (sortI l).toArray) os).heap = (Sort.putRow (Value.int .i64) (Sort.ahead w n) b off (sortI l).toArray).heap ++ os from rfl, Array.getElem?_append_left (by simpa using hlt)]
        simp [Sort.putRow, Sort.mapBlock, Sort.ahead, Array.getElem?_modify, hb, Sort.onCells]
      have hgr : w.heap.size ≤ w'.heap.size := by rw [hw]; simp [Sort.ahead]
      have hst : Str w w' := by rw [hw]; exact ⟨rfl, rfl, rfl⟩
      clear hw
      obtain ⟨c1, rfl⟩ : ∃ c1, c = c1 + 1 := ⟨c - 1, by omega⟩
      obtain ⟨l1, hl1⟩ : ∃ l1, l.length = l1 + 1 := ⟨l.length - 1, by omega⟩
      have hbk : Bk (.slice (some ⟨b, off, none⟩) l.length (c1 + 1)) b := rfl
      have T' : Go.Proofs.YtahdihhhankhdaaGreatVY.Touch X ρ ρ [.row 1 (l.map inC), .mem v (.own 0)] [.row 1 ((sortI l).map inC), .mem v (.own 0)] w w' 0 (.row 1 ((sortI l).map inC)) (.slice (some ⟨b, off, none⟩) l.length (c1 + 1)) none := {
        len' := hH.len
        oth := fun h hne => by
          rw [loseO_none_map]
          refine ⟨?_, rfl⟩
          cases h with
          | zero => exact absurd rfl hne
          | succ h => rfl
        hpt := rfl
        ρt := hv0
        grow := hgr
        inv0 := .inl rfl
        keep := fun _ _ => hv0
        row := fun h => by cases h
        fresh := fun _ b' hb' => .inr ⟨_, _, rfl, rfl, hv0, hb'⟩
        same := fun k hk => by
          by_cases e : k = b
          · subst e; exact .inr ⟨_, _, rfl, rfl, hv0, hbk⟩
          · exact .inl (hold k hk e)
        xlt := hX
        str := hst }
      refine ⟨_, ρ, rfl, tup _, hH.touch T' ?_, hgr, hst, fun k hk hn => ?_, fun k hk => ?_⟩
      · refine ⟨some ⟨b, off, none⟩, c1 + 1, by rw [map_len, sortI_len], by rw [map_len, sortI_len]; exact hlc, hz, .inr ⟨b, off, T, _, rfl, hnew, by simpa [Sort.putCells] using hsz, ints_read fun j hj => ?_⟩⟩
        have hj' : j < l.length := by rw [sortI_len] at hj; exact hj
        have hc := ints_cells hL hj'
        simp only [World.cell?, hb] at hc
        simp only [World.cell?, hnew]
        simp only [Option.isSome_none, Bool.false_eq_true, if_false] at hc ⊢
        have hlt2 : off + j < vs.size := (Array.getElem?_eq_some_iff.1 hc).1
        simp [Sort.putCells, hj, hlt2]
      · by_cases e : k = b
        · subst e; exact absurd ⟨0, _, _, rfl, rfl, hv0, hbk⟩ hn
        · exact hold k hk e
      · exact (T'.live hk).elim .inr .inl
end Go.Proofs.YtahdihhhankhdaaGreat.V
-- Vdi
namespace Go.Proofs.YtahdihhhankhdaaGreat.V
open Go.Proofs.YtahdihhhankhdaaGreatVY Go.RowKit
def gap (p : Int × Int) : Int := p.2 - p.1
def dist (l : List Int) (a b : Ref) : List Int := comp (sortI ((pairs l a b).map gap))
theorem prsTo_mem {A B : List Int} : ∀ i, ∀ p ∈ pairsTo A B i, 0 ≤ p.1 ∧ p.1 < i ∧ 0 ≤ p.2 ∧ p.2 < B.length
  | 0, p, h => by simp [pairsTo] at h
  | i + 1, p, h => by
    rw [pairsTo, List.mem_append] at h
    rcases h with h | h
    · have := prsTo_mem i p h; omega
    · obtain ⟨j, hj, rfl⟩ := List.mem_map.1 h
      have := idxs_mem _ _ _ j hj
      simp only
      omega
theorem prs_bd {l : List Int} {a b : Ref} {p : Int × Int} (h : p ∈ pairs l a b) : 0 ≤ p.1 ∧ p.1 < 400 ∧ 0 ≤ p.2 ∧ p.2 < 400 := by
  unfold pairs at h
  split at h
  · rename_i hc
    have h1 := prsTo_mem _ p h
    have := places_len hc.1
    have := places_len hc.2.1
    omega
  · simp at h
theorem prs_len (l : List Int) (a b : Ref) : (pairs l a b).length ≤ 160000 := by
  unfold pairs
  split
  · rename_i hc
    have h1 := pairsTo_len (places l a) (places l b) (places l a).length
    have h2 := Nat.mul_le_mul (places_len hc.1) (places_len hc.2.1)
    omega
  · simp
def R39 : Ct := fun ss hp r out => ∃ (l : List Int) (a b : Ref), ss = [.one (.d (.sl 1 (l.map inC))), .v (.ag (a.c.map .d)), .v (.ag (b.c.map .d))] ∧ hp = [] ∧ l.length < 4611686018427387904 ∧ a.str.length < 4611686018427387904 ∧ b.str.length < 4611686018427387904 ∧ r = .tup [.c (.own 0), .c (.d (.int .i64 (pairsErr l a b)))] ∧ out = [.row 1 ((dist l a b).map inC)]
set_option maxHeartbeats 4000000 in
theorem ok39 : VSound Tryz.prog (39, R39) := by
  refine vsound (T := ty) (F := [(58, R58), (59, R59), (60, R60)]) (pl := []) (nw := true) (cuts := []) mix tyOk (.cons (ok58) (.cons (ok59) (.cons (ok60) .nil))) Tryz.func39 (by kernel_rfl) (by kernel_rfl) ?_
  rintro _ _ _ _ ⟨l, ⟨aa, ab, sa⟩, ⟨ba, bb, sb⟩, rfl, rfl, hl, ha, hb, rfl, rfl⟩
  conv => whnf
  (refine ⟨[], false, false, ?_⟩; (conv => whnf); refine ⟨_, _, ⟨l, ⟨aa, ab, sa⟩, ⟨ba, bb, sb⟩, rfl, rfl, hl, ha, hb, rfl, rfl⟩, ?_⟩; (conv => whnf))
  have hpl := prs_len l ⟨aa, ab, sa⟩ ⟨ba, bb, sb⟩
  have hpb := fun p h => @prs_bd l ⟨aa, ab, sa⟩ ⟨ba, bb, sb⟩ p h
  have hD : dist l ⟨aa, ab, sa⟩ ⟨ba, bb, sb⟩ = comp (sortI ((pairs l ⟨aa, ab, sa⟩ ⟨ba, bb, sb⟩).map gap)) := rfl
  rw [hD]
  have hE : pairsErr l ⟨aa, ab, sa⟩ ⟨ba, bb, sb⟩ ≠ 0 → pairs l ⟨aa, ab, sa⟩ ⟨ba, bb, sb⟩ = [] := fun h => by
    unfold pairsErr at h
    unfold pairs
    rw [if_neg]
    rintro ⟨h1, h2, h3⟩
    exact h (if_pos ⟨h1, h2⟩)
  generalize pairs l ⟨aa, ab, sa⟩ ⟨ba, bb, sb⟩ = P at *
  generalize pairsErr l ⟨aa, ab, sa⟩ ⟨ba, bb, sb⟩ = E at *
  ((with_reducible refine And.intro (fun (e : (_ : Bool) = true) => ?_) (fun (e : (_ : Bool) = false) => ?_)) <;> (try simp only [reduceCtorEq, ints_len, bools_len, bif_t, bif_f, zv0, zv1, zv2, zv3, zv4, zv5, zv6, zv7, zv8, zv9, zv10, zv11, zv12, zv13, zv14, zv15, zv16, zv17, zv18, zv19, zv20, zv21, zv22, zv23, zv24] at e) <;> (conv => whnf))
  · have hP := hE e
    subst hP
    have hnil : comp (sortI ((([] : List (Int × Int))).map gap)) = [] := by
      have h1 : (sortI ([] : List Int)).length = 0 := sortI_len _
      have h2 : sortI ([] : List Int) = [] := List.length_eq_zero_iff.1 h1
      rw [List.map_nil, h2]; rfl
    refine ⟨[.slot 6 true], ?_⟩
    conv => whnf
    rw [hnil]
    exact ⟨[3], by simp, .cons ⟨_, rfl, rfl, rfl⟩ .nil, .cons rfl (.cons rfl .nil)⟩
  · have hE0 : E = 0 := e
    subst hE0
    refine ⟨[.slot 10 true], [10, 23, 24, 25], 4, fun n1 σ => ∃ i : Nat, i ≤ P.length ∧ n1 = P.length - i ∧ σ = (⟨[.junk, .junk, .junk, .junk, .junk, .junk, .junk, .junk, .junk, .junk, .one (.own 3), .junk, .junk, .junk, .junk, .junk, .junk, .junk, .junk, .junk, .junk, .junk, .junk, .one (.own 2), .di .i64 P.length, .di .i64 i, .junk, .junk, .junk, .junk, .junk, .junk, .junk, .junk, .junk, .junk, .junk, .junk, .junk, .junk, .junk, .junk], [.box ((Ref.mk aa ab sa).c.map .d), .box ((Ref.mk ba bb sb).c.map .d), .row 2 (P.map prC), .row 1 (((P.take i).map gap).map inC)]⟩ : St), ?_, ?_⟩
    · refine ⟨P.length, ?_⟩
      conv => whnf
      refine ⟨0, by omega, by omega, ?_⟩
      rw [map_len]; rfl
    · rintro n1 _ ⟨i, hi, rfl, rfl⟩
      conv => whnf
      ((with_reducible refine And.intro (fun (e : (_ : Bool) = true) => ?_) (fun (e : (_ : Bool) = false) => ?_)) <;> (try simp only [reduceCtorEq, ints_len, bools_len, bif_t, bif_f, zv0, zv1, zv2, zv3, zv4, zv5, zv6, zv7, zv8, zv9, zv10, zv11, zv12, zv13, zv14, zv15, zv16, zv17, zv18, zv19, zv20, zv21, zv22, zv23, zv24] at e) <;> (conv => whnf))
      · obtain ⟨x, hx⟩ := get_lt (l := P) (i := i) (by omega)
        have hxb := hpb x (List.mem_of_getElem? hx)
        have hgl : ((P.take i).map gap).length = i := by rw [List.length_map, List.length_take]; omega
        refine And.intro ⟨by omega, by rw [map_len]; omega⟩ ?_
        conv => whnf
        refine ⟨_, And.intro (enc_get hx) ?_⟩
        have hsn : (P.take (i + 1)).map gap = (P.take i).map gap ++ [gap x] := by rw [List.take_add_one, hx, List.map_append]; rfl
        obtain ⟨xa, xb⟩ := x
        simp only at hxb
        conv => whnf
        (repeat (refine And.intro ?_ ?_; ((first | (with_reducible assumption) | (intro _; with_reducible assumption) | omega | (simp only [reduceCtorEq, ints_len, bools_len, bif_t, bif_f, zv0, zv1, zv2, zv3, zv4, zv5, zv6, zv7, zv8, zv9, zv10, zv11, zv12, zv13, zv14, zv15, zv16, zv17, zv18, zv19, zv20, zv21, zv22, zv23, zv24] at *; omega) | (intro hg; (try simp only [reduceCtorEq, ints_len, bools_len, bif_t, bif_f, zv0, zv1, zv2, zv3, zv4, zv5, zv6, zv7, zv8, zv9, zv10, zv11, zv12, zv13, zv14, zv15, zv16, zv17, zv18, zv19, zv20, zv21, zv22, zv23, zv24] at hg); first | (with_reducible assumption) | omega | (simp only [reduceCtorEq, ints_len, bools_len, bif_t, bif_f, zv0, zv1, zv2, zv3, zv4, zv5, zv6, zv7, zv8, zv9, zv10, zv11, zv12, zv13, zv14, zv15, zv16, zv17, zv18, zv19, zv20, zv21, zv22, zv23, zv24] at *; omega) | (refine ⟨?_, ?_⟩ <;> omega)) | (refine ⟨?_, ?_⟩ <;> omega) | (simp [*]; done) | grind)); (conv => whnf)))
        refine ⟨P.length - (i + 1), by omega, [], ?_⟩
        conv => whnf
        refine ⟨i + 1, by omega, rfl, ?_⟩
        rw [hsn, List.map_append]; rfl
      · have hi' : i = P.length := by omega
        have hgl : (P.map gap).length = P.length := List.length_map ..
        rw [hi', List.take_length]
        refine ⟨[3], false, false, ?_⟩
        conv => whnf
        intro v
        conv => whnf
        refine ⟨_, _, ⟨P.map gap, v, rfl, rfl, by omega, rfl, rfl⟩, ?_⟩
        conv => whnf
        refine ⟨rfl, ?_⟩
        conv => whnf
        have hsl : (sortI (P.map gap)).length < 4611686018427387904 := by rw [sortI_len]; omega
        refine ⟨[3], false, false, ?_⟩
        conv => whnf
        intro w
        conv => whnf
        refine ⟨_, _, ⟨sortI (P.map gap), w, rfl, rfl, hsl, rfl, rfl⟩, ?_⟩
        conv => whnf
        refine ⟨rfl, ?_⟩
        conv => whnf
        refine ⟨[], ?_⟩
        conv => whnf
        exact ⟨[3], by simp, .cons ⟨_, rfl, rfl, rfl⟩ .nil, .cons rfl (.cons rfl .nil)⟩
end Go.Proofs.YtahdihhhankhdaaGreat.V
-- Vw
namespace Go.Proofs.YtahdihhhankhdaaGreat.V
open Go.Proofs.YtahdihhhankhdaaGreatVY Go.RowKit
theorem seg_get {row : List Int} {s : Int} : ∀ {m q r : Nat} {v : Int}, q < m → row[r]? = some v → (seg row s m)[q * row.length + r]? = some (v + ((q : Int) + 1) * s)
  | 0, q, r, v, h, _ => by omega
  | m + 1, q, r, v, h, hr => by
    have hrl := (List.getElem?_eq_some_iff.1 hr).1
    have hl := seg_len row s m
    rw [seg]
    by_cases e : q = m
    · subst e
      rw [List.getElem?_append_right (by omega), hl, Nat.add_sub_cancel_left, List.getElem?_map, hr]
      push_cast; rfl
    · have hq : q + 1 ≤ m := by omega
      have h2 : (q + 1) * row.length ≤ m * row.length := Nat.mul_le_mul_right _ hq
      rw [Nat.succ_mul] at h2
      rw [List.getElem?_append_left (by omega)]
      exact seg_get (by omega) hr
theorem subs_snoc : ∀ (l : List Int) (n i : Int), subs (l ++ [n]) i = subs l i ++ [(rests l i l.length).tmod n]
  | [], n, i => rfl
  | e :: l, n, i => by rw [List.cons_append, subs, subs_snoc l, subs, List.length_cons, rests]; rfl
theorem rests_all : ∀ (l : List Nat) (i : Nat), rests (l.map Int.ofNat) i l.length = ((i / l.prod : Nat) : Int)
  | [], i => by simp [rests]
  | e :: l, i => by
    rw [List.length_cons, List.map_cons, rests, List.prod_cons, ← Nat.div_div_eq_div_mul]
    exact rests_all l (i / e)
theorem subs_mod : ∀ (l : List Nat) (i : Nat), subs (l.map Int.ofNat) i = subs (l.map Int.ofNat) (i % l.prod : Nat)
  | [], i => rfl
  | e :: l, i => by
    rw [List.map_cons, subs, subs, List.prod_cons]
    have h1 : (Int.ofNat i).tmod (Int.ofNat e) = (Int.ofNat (i % (e * l.prod))).tmod (Int.ofNat e) := by
      show ((i % e : Nat) : Int) = ((i % (e * l.prod) % e : Nat) : Int)
      rw [Nat.mod_mul_right_mod]
    have h2 : subs (l.map Int.ofNat) ((Int.ofNat i).tdiv (Int.ofNat e)) = subs (l.map Int.ofNat) ((Int.ofNat (i % (e * l.prod))).tdiv (Int.ofNat e)) := by
      show subs _ ((i / e : Nat) : Int) = subs _ ((i % (e * l.prod) / e : Nat) : Int)
      rw [subs_mod l (i / e), Nat.mod_mul_right_div_self]
    exact congr (congrArg List.cons h1) h2
theorem prod_nat : ∀ l : List Nat, V.prod (l.map Int.ofNat) = ((l.prod : Nat) : Int)
  | [] => rfl
  | e :: l => by rw [List.map_cons, V.prod, prod_nat l, List.prod_cons]; push_cast; rfl
theorem getD_map {l : List Nat} {k n : Nat} (h : l[k]? = some n) : (l.map Int.ofNat).getD k 0 = n := getD_of (by rw [List.getElem?_map, h]; rfl)
theorem prod_take_nat {l : List Nat} {k n : Nat} (h : l[k]? = some n) : (l.take (k + 1)).prod = (l.take k).prod * n := by
  rw [List.take_add_one, h, Option.toList_some, List.prod_append]; simp
theorem placesTo_nat {l : List Nat} (xs : List Int) (b : Int) (h1 : ∀ n ∈ l, 1 ≤ n) (hx : xs.length = l.length) : ∀ k ≤ l.length, (placesTo (l.map Int.ofNat) xs b k).length = (l.take k).prod ∧
    ∀ i < (l.take k).prod, (placesTo (l.map Int.ofNat) xs b k)[i]? = some (dot (subs ((l.take k).map Int.ofNat) i) xs b)
  | 0, _ => by
    refine ⟨rfl, fun i hi => ?_⟩
    have : i = 0 := by simp at hi; exact hi
    subst this
    simp [placesTo, subs, dot]
  | k + 1, hk => by
    obtain ⟨ih1, ih2⟩ := placesTo_nat xs b h1 hx k (by omega)
    obtain ⟨n, hn⟩ := get_lt (l := l) (i := k) (by omega)
    obtain ⟨s, hs⟩ := get_lt (l := xs) (i := k) (by omega)
    have hn1 := h1 n (List.mem_of_getElem? hn)
    have hP := prod_take_nat hn
    have hlen : (placesTo (l.map Int.ofNat) xs b (k + 1)).length = (l.take (k + 1)).prod := by
      rw [placesTo, List.length_append, seg_len, getD_map hn, ih1, hP, show ((n : Int) - 1).toNat = n - 1 by omega]
      obtain ⟨m, rfl⟩ : ∃ m, n = m + 1 := ⟨n - 1, by omega⟩
      rw [Nat.add_sub_cancel, Nat.mul_succ, Nat.mul_comm, Nat.add_comm]
    refine ⟨hlen, fun i hi => ?_⟩
    rw [hP] at hi
    generalize hPk : (l.take k).prod = P at *
    have hPos : 0 < P := Nat.pos_of_ne_zero (by rintro rfl; simp at hi)
    have hq : i / P < n := Nat.div_lt_of_lt_mul hi
    have hr : i % P < P := Nat.mod_lt _ hPos
    have hrow := ih2 (i % P) hr
    have htk : (l.take (k + 1)).map Int.ofNat = (l.take k).map Int.ofNat ++ [(n : Int)] := by rw [List.take_add_one, hn, Option.toList_some, List.map_append]; rfl
    have hlk : ((l.take k).map Int.ofNat).length = k := by rw [List.length_map, List.length_take]; omega
    have hlk2 : (l.take k).length = k := by rw [List.length_take]; omega
    have hsub : subs ((l.take (k + 1)).map Int.ofNat) i = subs ((l.take k).map Int.ofNat) (i % P : Nat) ++ [((i / P : Nat) : Int)] := by
      rw [htk, subs_snoc, List.length_map, rests_all, hPk, subs_mod, hPk]
      congr 2
      show ((i / P % n : Nat) : Int) = _
      rw [Nat.mod_eq_of_lt hq]
    have hdot : dot (subs ((l.take (k + 1)).map Int.ofNat) i) xs b = dot (subs ((l.take k).map Int.ofNat) (i % P : Nat)) xs b + ((i / P : Nat) : Int) * s := by
      rw [hsub]
      have hul := subs_len ((l.take k).map Int.ofNat) (i % P : Nat)
      rw [hlk] at hul
      generalize subs ((l.take k).map Int.ofNat) (i % P : Nat) = U at *
      have := dot_take (l := U ++ [((i / P : Nat) : Int)]) (xs := xs) (b := b) (i := k) (s := ((i / P : Nat) : Int)) (x := s) (by rw [List.getElem?_append_right (by omega), hul, Nat.sub_self]; rfl) hs
      have t1 : (U ++ [((i / P : Nat) : Int)]).take (k + 1) = U ++ [((i / P : Nat) : Int)] := List.take_of_length_le (by rw [List.length_append, hul]; simp)
      have t2 : (U ++ [((i / P : Nat) : Int)]).take k = U := by rw [List.take_append_of_le_length (by omega), List.take_of_length_le (by omega)]
      rw [t1, t2] at this
      exact this
    rw [hdot, placesTo, getD_map hn, getD_of hs, show ((n : Int) - 1).toNat = n - 1 by omega]
    have hi' : i = P * (i / P) + i % P := (Nat.div_add_mod i P).symm
    generalize hR : placesTo (l.map Int.ofNat) xs b k = row at *
    by_cases h0 : i / P = 0
    · have e : i = i % P := by rw [h0, Nat.mul_zero, Nat.zero_add] at hi'; exact hi'
      rw [List.getElem?_append_left (by omega), h0]
      rw [← e] at hrow ⊢
      simpa using hrow
    · obtain ⟨q, hq1⟩ : ∃ q, i / P = q + 1 := Nat.exists_eq_succ_of_ne_zero h0
      have hge : P ≤ i := by
        rw [hq1, Nat.mul_succ] at hi'
        have : 0 ≤ P * q := Nat.zero_le _
        omega
      rw [List.getElem?_append_right (by omega), ih1]
      have e : i - P = q * row.length + i % P := by
        rw [hq1, Nat.mul_succ, Nat.mul_comm P q] at hi'
        rw [ih1]; omega
      rw [e, seg_get (by omega) hrow, hq1]
      push_cast; rfl
def allTo (l : List Int) (x : Ref) (n : Nat) : List Int := (List.range n).map fun (i : Nat) => place l x i
theorem allTo_succ (l : List Int) (x : Ref) (n : Nat) : allTo l x (n + 1) = allTo l x n ++ [place l x n] := by
  unfold allTo; rw [List.range_succ, List.map_append]; rfl
theorem allTo_len (l : List Int) (x : Ref) (n : Nat) : (allTo l x n).length = n := by simp [allTo]
theorem many_prod {l : List Int} (h : 0 ≤ many l) : many l = prod l ∧ prod l ≤ 400 ∧ 1 ≤ l.length ∧ l.length ≤ 3 ∧ ∀ n ∈ l, 0 ≤ n ∧ n ≤ 400 := by
  unfold many at h ⊢
  by_cases h1 : l.length < 1 ∨ 3 < l.length ∨ l.any (fun n => decide (n < 0 ∨ 400 < n)) = true
  · rw [if_pos h1] at h; omega
  · rw [if_neg h1] at h ⊢
    by_cases h2 : 400 < prod l
    · rw [if_pos h2] at h; omega
    · rw [if_neg h2]
      refine ⟨rfl, by omega, by omega, by omega, fun n hn => ?_⟩
      have : ¬ l.any (fun n => decide (n < 0 ∨ 400 < n)) = true := fun hh => h1 (.inr (.inr hh))
      simp only [List.any_eq_true, not_exists, not_and, decide_eq_true_eq] at this
      have := this n hn
      omega
theorem ext_pos {l : List Int} (h : 0 < many l) : ∀ n ∈ l, 1 ≤ n := by
  obtain ⟨h1, _, _, _, h2⟩ := many_prod (Int.le_of_lt h)
  exact prod_pos (fun n hn => (h2 n hn).1) (by omega)
theorem ofNats {l : List Int} (h : ∀ n ∈ l, 0 ≤ n) : l = (l.map Int.toNat).map Int.ofNat := by
  rw [List.map_map]
  exact ((List.map_id l).symm).trans (List.map_congr_left fun n hn => (Int.toNat_of_nonneg (h n hn)).symm)
theorem all_places {l : List Int} {x : Ref} (h : refOk l x = true) : allTo l x (many l).toNat = places l x := by
  have R := refOk_rt h
  have hm : 0 ≤ many l := by unfold refOk at h; simp only [Bool.and_eq_true, decide_eq_true_eq] at h; exact h.1
  unfold places
  by_cases h0 : many l = 0
  · rw [if_pos h0, h0]; rfl
  · rw [if_neg h0]
    have hp := ext_pos (l := l) (by omega)
    obtain ⟨m1, _, _, _, m2⟩ := many_prod hm
    have hl := ofNats (l := l) fun n hn => (m2 n hn).1
    generalize l.map Int.toNat = L at hl
    subst hl
    obtain ⟨p1, p2⟩ := placesTo_nat (l := L) x.str x.base (fun n hn => by have := hp (n : Int) (List.mem_map_of_mem (f := Int.ofNat) hn); omega) (by have := R.len; simpa using this) L.length (Nat.le_refl _)
    rw [List.take_length] at p1 p2
    rw [m1, prod_nat, Int.toNat_natCast, List.length_map]
    apply List.ext_getElem?
    intro i
    by_cases hi : i < L.prod
    · rw [p2 i hi]
      unfold allTo
      rw [List.getElem?_map, List.getElem?_range hi]; rfl
    · rw [List.getElem?_eq_none (by rw [allTo_len]; omega), List.getElem?_eq_none (by omega)]
def R41 : Ct := fun ss hp r out => ∃ (l : List Int) (x : Ref), ss = [.one (.d (.sl 1 (l.map inC))), .v (.ag (x.c.map .d))] ∧ hp = [] ∧ refOk l x = true ∧ r = .one (.own 0) ∧ out = [.row 1 ((places l x).map inC)]
set_option maxHeartbeats 4000000 in
theorem ok41 : VSound Tryz.prog (41, R41) := by
  refine vsound (T := ty) (F := [(61, R61), (63, R63)]) (pl := []) (nw := true) (cuts := []) mix tyOk (.cons (ok61) (.cons (ok63) .nil)) Tryz.func41 (by kernel_rfl) (by kernel_rfl) ?_
  rintro _ _ _ _ ⟨l, x, rfl, rfl, hok, rfl, rfl⟩
  rw [← all_places hok]
  have R := refOk_rt hok
  have hm : 0 ≤ many l := by unfold refOk at hok; simp only [Bool.and_eq_true, decide_eq_true_eq] at hok; exact hok.1
  obtain ⟨m1, m2, m3, m4, m5⟩ := many_prod hm
  obtain ⟨N, hN⟩ := Int.eq_ofNat_of_zero_le hm
  rw [hN, Int.toNat_natCast]
  obtain ⟨xa, xb, xs⟩ := x
  conv => whnf
  refine ⟨[.slot 5 true], [0, 3, 5, 6], 2, fun n1 σ => ∃ i : Nat, i ≤ N ∧ n1 = N - i ∧ σ = (⟨[.one (.d (.sl 1 (l.map inC))), .junk, .junk, .one (.ptr 0 0), .junk, .one (.own 1), .di .i64 i, .junk, .junk, .junk, .junk, .junk, .junk, .junk, .junk, .junk, .junk, .junk, .junk, .junk, .junk], [.box (List.map .d (Ref.mk xa xb xs).c), .row 1 ((allTo l ⟨xa, xb, xs⟩ i).map inC)]⟩ : St), ?_, ?_⟩
  · refine ⟨N, ?_⟩
    conv => whnf
    exact ⟨0, by omega, by omega, rfl⟩
  · rintro n1 _ ⟨i, hi, rfl, rfl⟩
    conv => whnf
    (refine ⟨[], false, false, ?_⟩; (conv => whnf); refine ⟨_, _, ⟨l, rfl, rfl, by omega, rfl, rfl⟩, ?_⟩; (conv => whnf))
    rw [hN]
    ((with_reducible refine And.intro (fun (e : (_ : Bool) = true) => ?_) (fun (e : (_ : Bool) = false) => ?_)) <;> (try simp only [reduceCtorEq, ints_len, bools_len, bif_t, bif_f, zv0, zv1, zv2, zv3, zv4, zv5, zv6, zv7, zv8, zv9, zv10, zv11, zv12, zv13, zv14, zv15, zv16, zv17, zv18, zv19, zv20, zv21, zv22, zv23, zv24] at e) <;> (conv => whnf))
    · have hp := ext_pos (l := l) (by omega)
      (refine ⟨[], false, false, ?_⟩; (conv => whnf); refine ⟨_, _, ⟨l, ⟨xa, xb, xs⟩, i, rfl, rfl, R, hp, ⟨by omega, by omega⟩, rfl, rfl⟩, ?_⟩; (conv => whnf))
      refine ⟨by rw [map_len, allTo_len]; simp only [List.length_cons, List.length_nil]; omega, ?_⟩
      conv => whnf
      (refine And.intro ?_ ?_; ((first | (with_reducible assumption) | (intro _; with_reducible assumption) | omega | (simp only [reduceCtorEq, ints_len, bools_len, bif_t, bif_f, zv0, zv1, zv2, zv3, zv4, zv5, zv6, zv7, zv8, zv9, zv10, zv11, zv12, zv13, zv14, zv15, zv16, zv17, zv18, zv19, zv20, zv21, zv22, zv23, zv24] at *; omega) | (intro hg; (try simp only [reduceCtorEq, ints_len, bools_len, bif_t, bif_f, zv0, zv1, zv2, zv3, zv4, zv5, zv6, zv7, zv8, zv9, zv10, zv11, zv12, zv13, zv14, zv15, zv16, zv17, zv18, zv19, zv20, zv21, zv22, zv23, zv24] at hg); first | (with_reducible assumption) | omega | (simp only [reduceCtorEq, ints_len, bools_len, bif_t, bif_f, zv0, zv1, zv2, zv3, zv4, zv5, zv6, zv7, zv8, zv9, zv10, zv11, zv12, zv13, zv14, zv15, zv16, zv17, zv18, zv19, zv20, zv21, zv22, zv23, zv24] at *; omega) | (refine ⟨?_, ?_⟩ <;> omega)) | (refine ⟨?_, ?_⟩ <;> omega) | (simp [*]; done) | grind)); (conv => whnf))
      refine ⟨N - (i + 1), by omega, [], ?_⟩
      conv => whnf
      refine ⟨i + 1, by omega, rfl, ?_⟩
      rw [allTo_succ, List.map_append]; rfl
    · have hi' : i = N := by omega
      subst hi'
      refine ⟨[], ?_⟩
      conv => whnf
      exact ⟨[1], by simp, .cons ⟨_, rfl, rfl, rfl⟩ .nil, rfl⟩
end Go.Proofs.YtahdihhhankhdaaGreat.V
-- Zd
namespace Go.Proofs.YtahdihhhankhdaaGreat.V
open Go.Proofs.YtahdihhhankhdaaGreatVY Go.RowKit
theorem snoc_or {α : Type} (P : List α) : P = [] ∨ ∃ Q x, P = Q ++ [x] := by
  rcases List.eq_nil_or_concat P with h | ⟨Q, x, h⟩
  · exact .inl h
  · exact .inr ⟨Q, x, by simpa using h⟩
def late (l : List Int) (a b : Ref) : Bool := (pairs l a b).any fun p => decide (p.1 < p.2)
theorem compTo_last (l : List Int) : ∀ i, 1 ≤ i → i ≤ l.length → 0 < (compTo l i).length ∧ (compTo l i)[(compTo l i).length - 1]? = l[i - 1]?
  | 0, h, _ => absurd h (by decide)
  | i + 1, _, hi => by
    obtain ⟨x, hx⟩ := get_lt (l := l) (i := i) (by omega)
    rw [compTo, Nat.add_sub_cancel]
    split
    · rename_i h
      obtain ⟨y, hy⟩ := get_lt (l := l) (i := i - 1) (by omega)
      have ih := compTo_last l i (by omega) (by omega)
      rw [gD_of hx, gD_of hy] at h
      rw [ih.2, hx, hy, h.2]
      exact ⟨ih.1, rfl⟩
    · rw [List.length_append, List.length_singleton]
      refine ⟨by omega, ?_⟩
      rw [Nat.add_sub_cancel, List.getElem?_append_right (Nat.le_refl _), Nat.sub_self, gD_of hx, hx]; rfl
theorem late_dist (l : List Int) (a b : Ref) : late l a b = (decide (dist l a b ≠ []) && decide (0 < (dist l a b).getD ((dist l a b).length - 1) 0)) := by
  unfold late dist
  have hp := sortI_perm ((pairs l a b).map gap)
  have hs := sortI_sorted ((pairs l a b).map gap)
  generalize sortI ((pairs l a b).map gap) = S at *
  rw [show ((pairs l a b).any fun p => decide (p.1 < p.2)) = ((pairs l a b).map gap).any fun g => decide (0 < g) by
    rw [List.any_map]
    congr 1
    funext p
    simp only [Function.comp, gap]
    exact decide_eq_decide.2 (by omega)]
  rw [show ((pairs l a b).map gap).any (fun g => decide (0 < g)) = S.any fun g => decide (0 < g) from (List.Perm.any_eq hp).symm]
  rcases snoc_or S with rfl | ⟨T, x, rfl⟩
  · rfl
  · obtain ⟨h1, h2⟩ := compTo_last (T ++ [x]) (T ++ [x]).length (by simp) (Nat.le_refl _)
    have hc : comp (T ++ [x]) ≠ [] := fun h => by unfold comp at h; rw [h] at h1; simp at h1
    have hg : (comp (T ++ [x])).getD ((comp (T ++ [x])).length - 1) 0 = x := gD_of (by
      unfold comp; rw [h2, List.length_append, List.length_singleton, Nat.add_sub_cancel, List.getElem?_append_right (Nat.le_refl _), Nat.sub_self]; rfl)
    rw [decide_eq_true hc, hg, Bool.true_and, List.any_append]
    by_cases h : 0 < x
    · simp [h]
    · rw [decide_eq_false h]
      simp only [List.any_cons, List.any_nil, Bool.or_false, decide_eq_false h, List.any_eq_false, decide_eq_true_eq]
      intro y hy
      have := (List.pairwise_append.1 hs).2.2 y hy x (by simp)
      omega
theorem dist_small (l : List Int) (a b : Ref) : (dist l a b).length ≤ 160000 := by
  unfold dist comp
  have h1 := compTo_le (sortI ((pairs l a b).map gap)) (sortI ((pairs l a b).map gap)).length
  rw [sortI_len, List.length_map] at h1
  have := prs_len l a b
  rw [sortI_len, List.length_map]
  omega
def placesErr (l : List Int) (x : Ref) : Int := if refOk l x = true then 0 else 2
def placesOf (l : List Int) (x : Ref) : List Int := if refOk l x = true then places l x else []
def R20 : Ct := fun ss hp r out => ∃ (l : List Int) (x : Ref), ss = [.one (.d (.sl 1 (l.map inC))), .v (.ag (x.c.map .d))] ∧ hp = [] ∧ l.length < 4611686018427387904 ∧ x.str.length < 4611686018427387904 ∧ r = .tup [.c (.own 0), .c (.d (.int .i64 (placesErr l x)))] ∧ out = [.row 1 ((placesOf l x).map inC)]
set_option maxHeartbeats 4000000 in
theorem ok20 : VSound Tryz.prog (20, R20) := by
  refine vsound (T := ty) (F := [(40, R40), (41, R41)]) (pl := []) (nw := true) (cuts := []) mix tyOk (.cons (ok40) (.cons (ok41) .nil)) Tryz.func20 (by kernel_rfl) (by kernel_rfl) ?_
  rintro _ _ _ _ ⟨l, ⟨xa, xb, xs⟩, rfl, rfl, hl, hx, rfl, rfl⟩
  conv => whnf
  (refine ⟨[], false, false, ?_⟩; (conv => whnf); refine ⟨_, _, ⟨l, ⟨xa, xb, xs⟩, rfl, rfl, hl, hx, rfl, rfl⟩, ?_⟩; (conv => whnf))
  ((with_reducible refine And.intro (fun (e : (_ : Bool) = true) => ?_) (fun (e : (_ : Bool) = false) => ?_)) <;> (try simp only [reduceCtorEq, ints_len, bools_len, bif_t, bif_f, zv0, zv1, zv2, zv3, zv4, zv5, zv6, zv7, zv8, zv9, zv10, zv11, zv12, zv13, zv14, zv15, zv16, zv17, zv18, zv19, zv20, zv21, zv22, zv23, zv24] at e) <;> (conv => whnf))
  · have hok : refOk l ⟨xa, xb, xs⟩ = false := by first | simpa using e | exact e
    refine ⟨[.slot 4 true], ?_⟩
    conv => whnf
    unfold placesErr placesOf
    rw [if_neg (by rw [hok]; simp), if_neg (by rw [hok]; simp)]
    exact ⟨[1], by simp, .cons ⟨_, rfl, rfl, rfl⟩ .nil, .cons rfl (.cons rfl .nil)⟩
  · have hok : refOk l ⟨xa, xb, xs⟩ = true := by first | simpa using e | exact e
    (refine ⟨[], false, false, ?_⟩; (conv => whnf); refine ⟨_, _, ⟨l, ⟨xa, xb, xs⟩, rfl, rfl, hok, rfl, rfl⟩, ?_⟩; (conv => whnf))
    unfold placesErr placesOf
    rw [if_pos hok, if_pos hok]
    refine ⟨[], ?_⟩
    conv => whnf
    exact ⟨[1], by simp, .cons ⟨_, rfl, rfl, rfl⟩ .nil, .cons rfl (.cons rfl .nil)⟩
def anyLate (l : List Int) (to : Ref) (L : List Ref) : Bool := L.any (late l to)
theorem anyLate_of {l : List Int} {to : Ref} {L : List Ref} {j : Nat} {y : Ref} (h : L[j]? = some y) (h1 : late l to y = true) : anyLate l to L = true :=
  List.any_eq_true.2 ⟨y, List.mem_of_getElem? h, h1⟩
theorem anyLate_no {l : List Int} {to : Ref} {L : List Ref} (h : ∀ (j : Nat) (y : Ref), L[j]? = some y → late l to y = false) : anyLate l to L = false := by
  refine List.any_eq_false.2 fun y hy => ?_
  obtain ⟨j, hj⟩ := List.getElem?_of_mem hy
  rw [h j y hj]; simp
theorem last_pos (W : List Int) : (decide (W ≠ []) && decide (0 < W.getD (W.length - 1) 0)) = decide (0 < (W.length : Int) ∧ 0 < W.getD (W.length - 1) 0) := by
  cases W with
  | nil => simp
  | cons a l => simp
def R18 : Ct := fun ss hp r out => ∃ (ext : List Int) (s : ASet), ss = [.v (.ag ((Kern.mk ext [s]).c.map .d))] ∧ hp = [] ∧ (Kern.mk ext [s]).bulk ≤ 4194304 ∧ r = .db (!anyLate ext s.to s.loads) ∧ out = []
set_option maxHeartbeats 4000000 in
theorem ok18 : VSound Tryz.prog (18, R18) := by
  refine vsound (T := ty) (F := [(27, R27), (39, R39)]) (pl := []) (nw := true) (cuts := []) mix tyOk (.cons (ok27) (.cons (ok39) .nil)) Tryz.func18 (by kernel_rfl) (by kernel_rfl) ?_
  rintro _ _ _ _ ⟨ext, x, rfl, rfl, hm, rfl, rfl⟩
  simp only [Kern.bulk, setsBulk] at hm
  have hll := x.loads_len
  have hstr : ∀ r ∈ x.loads, r.str.length ≤ x.bulk := fun r hr => ASet.loads_str hr
  have hto : x.to.str.length ≤ x.bulk := by rw [ASet.bulk]; omega
  obtain ⟨⟨xa, xb, xs⟩, mask, ⟨op, kind, n, ref, kids⟩⟩ := x
  conv => whnf
  refine ⟨_, And.intro ⟨by omega, rfl⟩ ?_⟩
  conv => whnf
  (refine ⟨[], false, false, ?_⟩; (conv => whnf); refine ⟨_, _, ⟨⟨⟨xa, xb, xs⟩, mask, ⟨op, kind, n, ref, kids⟩⟩, rfl, rfl, by omega, rfl, rfl⟩, ?_⟩; (conv => whnf))
  generalize hLd : (ASet.mk ⟨xa, xb, xs⟩ mask ⟨op, kind, n, ref, kids⟩).loads = L at *
  refine ⟨[], [1, 3, 14, 15, 16], 3, fun n1 σ => ∃ i : Nat, i ≤ L.length ∧ n1 = L.length - i ∧ (∀ j < i, ∀ y, L[j]? = some y → late ext ⟨xa, xb, xs⟩ y = false) ∧ σ = (⟨[.junk, .one (.ptr 0 0), .junk, .one (.ptr 1 0), .junk, .junk, .junk, .junk, .junk, .junk, .junk, .junk, .junk, .junk, .one (.own 2), .di .i64 L.length, .di .i64 i, .junk, .junk, .junk, .junk, .junk, .junk, .junk, .junk, .junk, .junk, .junk, .junk, .junk, .junk, .junk, .junk, .junk, .junk, .junk, .junk, .junk, .junk, .junk, .junk, .junk], [.box (List.map .d (Kern.mk ext [(ASet.mk ⟨xa, xb, xs⟩ mask ⟨op, kind, n, ref, kids⟩)]).c), .box (List.map .d (ASet.mk ⟨xa, xb, xs⟩ mask ⟨op, kind, n, ref, kids⟩).c), .row 3 (L.map Ref.c)]⟩ : St), ?_, ?_⟩
  · refine ⟨L.length, ?_⟩
    conv => whnf
    refine ⟨0, by omega, by omega, fun j hj => by omega, ?_⟩
    rw [map_len]; rfl
  · rintro n1 _ ⟨i, hi, rfl, hall, rfl⟩
    conv => whnf
    ((with_reducible refine And.intro (fun (e : (_ : Bool) = true) => ?_) (fun (e : (_ : Bool) = false) => ?_)) <;> (try simp only [reduceCtorEq, ints_len, bools_len, bif_t, bif_f, zv0, zv1, zv2, zv3, zv4, zv5, zv6, zv7, zv8, zv9, zv10, zv11, zv12, zv13, zv14, zv15, zv16, zv17, zv18, zv19, zv20, zv21, zv22, zv23, zv24] at e) <;> (conv => whnf))
    · have hlt : i < L.length := by omega
      obtain ⟨y, hgy⟩ := get_lt hlt
      have hys := hstr y (List.mem_of_getElem? hgy)
      (refine And.intro ⟨by omega, by rw [map_len]; omega⟩ ?_; (conv => whnf); refine ⟨_, And.intro (enc_get hgy) ?_⟩; (conv => whnf))
      obtain ⟨ya, yb, ys⟩ := y
      conv => whnf
      (refine ⟨[], false, false, ?_⟩; (conv => whnf); refine ⟨_, _, ⟨ext, ⟨xa, xb, xs⟩, ⟨ya, yb, ys⟩, rfl, rfl, by omega, by simp only at hto ⊢; omega, by simp only at hys ⊢; omega, rfl, rfl⟩, ?_⟩; (conv => whnf))
      have hds := dist_small ext ⟨xa, xb, xs⟩ ⟨ya, yb, ys⟩
      have hld := late_dist ext ⟨xa, xb, xs⟩ ⟨ya, yb, ys⟩
      generalize dist ext ⟨xa, xb, xs⟩ ⟨ya, yb, ys⟩ = W at *
      rw [map_len]
      (repeat ((first | with_reducible refine And.intro (fun h => h) ?_ | with_reducible refine And.intro (fun _ => rfl) ?_ | with_reducible refine And.intro rfl ?_); conv => whnf))
      refine ⟨fun _ => ⟨by omega, by omega⟩, ?_⟩
      conv => whnf
      (repeat ((first | with_reducible refine And.intro (fun h => h) ?_ | with_reducible refine And.intro (fun _ => rfl) ?_ | with_reducible refine And.intro rfl ?_); conv => whnf))
      refine ⟨fun h => ⟨by simp only [decide_eq_true_eq] at h; omega, by simp only [decide_eq_true_eq] at h; rw [map_len]; omega⟩, ?_⟩
      conv => whnf
      (repeat ((first | with_reducible refine And.intro (fun h => h) ?_ | with_reducible refine And.intro (fun _ => rfl) ?_ | with_reducible refine And.intro rfl ?_); conv => whnf))
      refine ⟨inC (W.getD (W.length - 1) 0), fun h => ?_, ?_⟩
      · simp only [decide_eq_true_eq] at h
        rw [show ((W.length : Int) - 1).toNat = W.length - 1 by omega, List.getElem?_map]
        obtain ⟨v, hv⟩ := get_lt (l := W) (i := W.length - 1) (by omega)
        rw [hv, getD_of hv]; rfl
      conv => whnf
      (repeat ((first | with_reducible refine And.intro (fun h => h) ?_ | with_reducible refine And.intro (fun _ => rfl) ?_ | with_reducible refine And.intro rfl ?_); conv => whnf))
      ((with_reducible refine And.intro (fun (e : (_ : Bool) = true) => ?_) (fun (e : (_ : Bool) = false) => ?_)) <;> (try simp only [reduceCtorEq, ints_len, bools_len, bif_t, bif_f, zv0, zv1, zv2, zv3, zv4, zv5, zv6, zv7, zv8, zv9, zv10, zv11, zv12, zv13, zv14, zv15, zv16, zv17, zv18, zv19, zv20, zv21, zv22, zv23, zv24] at e) <;> (conv => whnf))
      · have hl : late ext ⟨xa, xb, xs⟩ ⟨ya, yb, ys⟩ = true := by
          rw [hld, last_pos]; exact decide_eq_true e
        (refine ⟨[], ?_⟩; (conv => whnf); refine ⟨[], .nil, .nil, ?_⟩; (conv => whnf))
        congr 1
        rw [anyLate_of hgy hl]; rfl
      · have hl : late ext ⟨xa, xb, xs⟩ ⟨ya, yb, ys⟩ = false := by
          rw [hld, last_pos]
          refine decide_eq_false ?_
          omega
        (refine And.intro ?_ ?_; ((first | (with_reducible assumption) | (intro _; with_reducible assumption) | omega | (simp only [reduceCtorEq, ints_len, bools_len, bif_t, bif_f, zv0, zv1, zv2, zv3, zv4, zv5, zv6, zv7, zv8, zv9, zv10, zv11, zv12, zv13, zv14, zv15, zv16, zv17, zv18, zv19, zv20, zv21, zv22, zv23, zv24] at *; omega) | (intro hg; (try simp only [reduceCtorEq, ints_len, bools_len, bif_t, bif_f, zv0, zv1, zv2, zv3, zv4, zv5, zv6, zv7, zv8, zv9, zv10, zv11, zv12, zv13, zv14, zv15, zv16, zv17, zv18, zv19, zv20, zv21, zv22, zv23, zv24] at hg); first | (with_reducible assumption) | omega | (simp only [reduceCtorEq, ints_len, bools_len, bif_t, bif_f, zv0, zv1, zv2, zv3, zv4, zv5, zv6, zv7, zv8, zv9, zv10, zv11, zv12, zv13, zv14, zv15, zv16, zv17, zv18, zv19, zv20, zv21, zv22, zv23, zv24] at *; omega) | (refine ⟨?_, ?_⟩ <;> omega)) | (refine ⟨?_, ?_⟩ <;> omega) | (simp [*]; done) | grind)); (conv => whnf))
        refine ⟨L.length - (i + 1), by omega, [], ?_⟩
        conv => whnf
        refine ⟨i + 1, by omega, rfl, fun j hj z hz => ?_, rfl⟩
        by_cases ej : j = i
        · subst ej; rw [hgy] at hz; cases hz; exact hl
        · exact hall j (by omega) z hz
    · (refine ⟨[], ?_⟩; (conv => whnf); refine ⟨[], .nil, .nil, ?_⟩; (conv => whnf))
      congr 1
      rw [anyLate_no fun j y hy => hall j (by have := (List.getElem?_eq_some_iff.1 hy).1; omega) y hy]; rfl
def safeK (k : Kern) : Bool := match k.sets with
  | [s] => !anyLate k.ext s.to s.loads
  | _ => false
def safeErr (k : Kern) : Int := if formed k = true then (if k.sets.length = 1 then 0 else 110) else 2
def R6 : Ct := fun ss hp r out => ∃ k : Kern, ss = [.v (.ag (k.c.map .d))] ∧ hp = [] ∧ k.bulk ≤ 4194304 ∧ r = .tup [.c (.d (.bool (formed k && safeK k))), .c (.d (.int .i64 (safeErr k)))] ∧ out = []
set_option maxHeartbeats 4000000 in
theorem ok6 : VSound Tryz.prog (6, R6) := by
  refine vsound (T := ty) (F := [(17, R17), (18, R18)]) (pl := []) (nw := true) (cuts := []) mix tyOk (.cons (ok17) (.cons (ok18) .nil)) Tryz.func6 (by kernel_rfl) (by kernel_rfl) ?_
  rintro _ _ _ _ ⟨⟨ext, sets⟩, rfl, rfl, hm, rfl, rfl⟩
  conv => whnf
  (refine ⟨[], false, false, ?_⟩; (conv => whnf); refine ⟨_, _, ⟨⟨ext, sets⟩, rfl, rfl, hm, rfl, rfl⟩, ?_⟩; (conv => whnf))
  ((with_reducible refine And.intro (fun (e : (_ : Bool) = true) => ?_) (fun (e : (_ : Bool) = false) => ?_)) <;> (try simp only [reduceCtorEq, ints_len, bools_len, bif_t, bif_f, zv0, zv1, zv2, zv3, zv4, zv5, zv6, zv7, zv8, zv9, zv10, zv11, zv12, zv13, zv14, zv15, zv16, zv17, zv18, zv19, zv20, zv21, zv22, zv23, zv24] at e) <;> (conv => whnf))
  · have hf : formed ⟨ext, sets⟩ = false := by first | simpa using e | exact e
    unfold safeErr
    rw [hf, if_neg (by simp)]
    (refine ⟨[], ?_⟩; (conv => whnf); refine ⟨[], .nil, .nil, ?_⟩)
    exact .cons rfl (.cons rfl .nil)
  · have hf : formed ⟨ext, sets⟩ = true := by first | simpa using e | exact e
    unfold safeErr
    rw [hf, if_pos rfl]
    ((with_reducible refine And.intro (fun (e : (_ : Bool) = true) => ?_) (fun (e : (_ : Bool) = false) => ?_)) <;> (try simp only [reduceCtorEq, ints_len, bools_len, bif_t, bif_f, zv0, zv1, zv2, zv3, zv4, zv5, zv6, zv7, zv8, zv9, zv10, zv11, zv12, zv13, zv14, zv15, zv16, zv17, zv18, zv19, zv20, zv21, zv22, zv23, zv24] at e) <;> (conv => whnf))
    · rw [if_neg (by simp only; omega)]
      rw [show safeK ⟨ext, sets⟩ = false by
        unfold safeK
        split
        · rename_i h; simp only at h; subst h; simp at e
        · rfl]
      (refine ⟨[], ?_⟩; (conv => whnf); refine ⟨[], .nil, .nil, ?_⟩)
      exact .cons rfl (.cons rfl .nil)
    · have hl : sets.length = 1 := by omega
      rw [if_pos hl]
      obtain ⟨x, rfl⟩ := List.length_eq_one_iff.1 hl
      (refine ⟨[], false, false, ?_⟩; (conv => whnf); refine ⟨_, _, ⟨ext, x, rfl, rfl, hm, rfl, rfl⟩, ?_⟩; (conv => whnf))
      (refine ⟨[], ?_⟩; (conv => whnf); refine ⟨[], .nil, .nil, ?_⟩)
      exact .cons rfl (.cons rfl .nil)
end Go.Proofs.YtahdihhhankhdaaGreat.V
-- Ze
namespace Go.Proofs.YtahdihhhankhdaaGreat.V
open Go.Proofs.YtahdihhhankhdaaGreatVY Go.RowKit
abbrev Md := List (Int × D)
/-- a map tells which numbers have come -/
structure Come (L : List Int) (M : Md) : Prop where
  own : ∀ p ∈ M, p.2 = .bool true ∧ p.1 ∈ L
  all : ∀ x ∈ L, ∃ p ∈ M, p.1 = x
  nd : (M.map Prod.fst).Nodup
theorem putMd_mem {k : Int} {v : D} {p : Int × D} : ∀ {M : Md}, p ∈ putM M k v → p = (k, v) ∨ p ∈ M
  | [], h => by simp [putM] at h; exact .inl h
  | (k', x') :: M, h => by
    unfold putM at h
    split at h
    · rcases List.mem_cons.1 h with h | h
      · exact .inl h
      · exact .inr (List.mem_cons_of_mem _ h)
    · rcases List.mem_cons.1 h with rfl | h
      · exact .inr (List.mem_cons_self ..)
      · exact (putMd_mem h).imp id (List.mem_cons_of_mem _)
theorem putMd_has {k : Int} {v : D} : ∀ {M : Md}, ∃ p ∈ putM M k v, p.1 = k
  | [] => ⟨_, List.mem_cons_self .., rfl⟩
  | (k', x') :: M => by
    unfold putM
    split
    · exact ⟨_, List.mem_cons_self .., rfl⟩
    · obtain ⟨p, h, e⟩ := putMd_has (k := k) (v := v) (M := M); exact ⟨p, List.mem_cons_of_mem _ h, e⟩
theorem putMd_keep {k : Int} {v : D} {p : Int × D} : ∀ {M : Md}, p ∈ M → ∃ q ∈ putM M k v, q.1 = p.1
  | (k', x') :: M, h => by
    unfold putM
    split
    · rename_i e
      rcases List.mem_cons.1 h with rfl | h
      · exact ⟨_, List.mem_cons_self .., e.symm⟩
      · exact ⟨_, List.mem_cons_of_mem _ h, rfl⟩
    · rcases List.mem_cons.1 h with rfl | h
      · exact ⟨_, List.mem_cons_self .., rfl⟩
      · obtain ⟨q, h1, h2⟩ := putMd_keep h; exact ⟨q, List.mem_cons_of_mem _ h1, h2⟩
theorem putMd_keys {k : Int} {v : D} : ∀ {M : Md}, (M.map Prod.fst).Nodup → ((putM M k v).map Prod.fst).Nodup
  | [], _ => by simp [putM]
  | (k', x') :: M, hn => by
    rw [List.map_cons, List.nodup_cons] at hn
    unfold putM
    split
    · rename_i e; subst e; exact List.nodup_cons.2 hn
    · rename_i e
      refine List.nodup_cons.2 ⟨fun hm => ?_, putMd_keys hn.2⟩
      obtain ⟨p, hp, he⟩ := List.mem_map.1 hm
      rcases putMd_mem hp with rfl | h1
      · exact e he.symm
      · exact hn.1 (by rw [← he]; exact List.mem_map_of_mem (f := Prod.fst) h1)
theorem Come.put {L : List Int} {M : Md} (H : Come L M) (x : Int) : Come (L ++ [x]) (putM M x (.bool true)) where
  own p hp := by
    rcases putMd_mem hp with rfl | h
    · exact ⟨rfl, by simp⟩
    · exact ⟨(H.own p h).1, List.mem_append_left _ (H.own p h).2⟩
  all y hy := by
    rcases List.mem_append.1 hy with hy | hy
    · obtain ⟨p, hp, rfl⟩ := H.all y hy; exact putMd_keep hp
    · simp at hy; subst hy; exact putMd_has
  nd := putMd_keys H.nd
theorem places_many {l : List Int} {x : Ref} (h : refOk l x = true) : (places l x).length = (many l).toNat := by
  rw [← all_places h, allTo_len]
theorem late_iff {l : List Int} {a b : Ref} (ha : refOk l a = true) (hb : refOk l b = true) : late l a b = true ↔ a.arr = b.arr ∧ ∃ (j : Nat) (v : Int), (places l b)[j]? = some v ∧ v ∈ (places l a).take j := by
  unfold late
  rw [List.any_eq_true]
  constructor
  · rintro ⟨p, hp, h⟩
    obtain ⟨⟨_, _, h3⟩, i, j, v, rfl, h4, h5⟩ := pairs_iff.1 hp
    simp only [decide_eq_true_eq] at h
    exact ⟨h3, j, v, h5, List.mem_of_getElem? (i := i) (by rw [List.getElem?_take, if_pos (by omega), h4])⟩
  · rintro ⟨h3, j, v, h5, hm⟩
    obtain ⟨i, hi⟩ := List.getElem?_of_mem hm
    rw [List.getElem?_take] at hi
    split at hi
    · exact ⟨((i : Int), (j : Int)), pairs_iff.2 ⟨⟨ha, hb, h3⟩, i, j, v, rfl, hi, h5⟩, by simp only [decide_eq_true_eq]; omega⟩
    · cases hi
def R7 : Ct := fun ss hp r out => ∃ k : Kern, ss = [.v (.ag (k.c.map .d))] ∧ hp = [] ∧ k.bulk ≤ 4194304 ∧ r = .tup [.c (.d (.bool (formed k && safeK k))), .c (.d (.int .i64 (safeErr k)))] ∧ out = []
set_option maxHeartbeats 4000000 in
theorem ok7 : VSound Tryz.prog (7, R7) := by
  refine vsound (T := ty) (F := [(19, R19), (20, R20), (21, R21)]) (pl := [(11, [[], [0], [], [], [2, 3], [2, 3, 4], [0, 1, 2, 3, 4, 5], [0, 1, 2, 3, 4, 5, 6], [0, 1, 2, 3, 4, 5, 6, 7], [0, 1, 2, 3, 4, 5, 6, 7], [0, 1, 2, 3, 4, 5, 6, 7, 8], [0, 1, 2, 3, 4, 5, 6, 7, 8, 9, 10]], .look 0 (.look 1 (.look 2 (.look 3 (.look 4 (.look 5 (.act 6 [] (.look 7 (.look 8 (.look 9 (.look 10 (.look 11 .done))))) .stop))))))), (14, [[], [], [1], [0, 1, 2], [0, 1, 2, 3], [0, 1, 2, 3, 4], [0, 1, 2, 3, 4], [0, 1, 2, 3, 4, 5, 6], [0, 1, 2, 3, 4, 5, 6, 7], [0, 1, 2, 3, 4, 5, 6, 7, 8], [0, 1, 2, 3, 4], [0, 1, 2, 3, 4, 10], [0, 1, 2, 3, 4, 5, 6, 7, 8, 9, 10, 11], [0, 1, 2, 3, 4, 5, 6, 7, 8, 9, 10, 11, 12]], .look 0 (.look 1 (.look 2 (.look 3 (.look 4 (.look 5 (.look 6 (.look 7 (.look 8 (.look 9 (.look 10 (.look 11 (.look 12 (.look 13 .done))))))))))))))]) (nw := true) (cuts := []) mix tyOk (.cons (ok19) (.cons (ok20) (.cons (ok21) .nil))) Tryz.func7 (by kernel_rfl) (by kernel_rfl) ?_
  rintro _ _ _ _ ⟨⟨ext, sets⟩, rfl, rfl, hm, rfl, rfl⟩
  have hmm := hm
  simp only [Kern.bulk] at hm
  conv => whnf
  (refine ⟨[], false, false, ?_⟩; (conv => whnf); refine ⟨_, _, ⟨⟨ext, sets⟩, rfl, rfl, hmm, rfl, rfl⟩, ?_⟩; (conv => whnf))
  ((with_reducible refine And.intro (fun (e : (_ : Bool) = true) => ?_) (fun (e : (_ : Bool) = false) => ?_)) <;> (try simp only [reduceCtorEq, ints_len, bools_len, bif_t, bif_f, zv0, zv1, zv2, zv3, zv4, zv5, zv6, zv7, zv8, zv9, zv10, zv11, zv12, zv13, zv14, zv15, zv16, zv17, zv18, zv19, zv20, zv21, zv22, zv23, zv24] at e) <;> (conv => whnf))
  · have hf : formed ⟨ext, sets⟩ = false := by first | simpa using e | exact e
    unfold safeErr
    rw [hf, if_neg (by simp)]
    (refine ⟨[], ?_⟩; (conv => whnf); refine ⟨[], .nil, .nil, ?_⟩)
    exact .cons rfl (.cons rfl .nil)
  · have hf : formed ⟨ext, sets⟩ = true := by first | simpa using e | exact e
    unfold safeErr
    rw [hf, if_pos rfl]
    ((with_reducible refine And.intro (fun (e : (_ : Bool) = true) => ?_) (fun (e : (_ : Bool) = false) => ?_)) <;> (try simp only [reduceCtorEq, ints_len, bools_len, bif_t, bif_f, zv0, zv1, zv2, zv3, zv4, zv5, zv6, zv7, zv8, zv9, zv10, zv11, zv12, zv13, zv14, zv15, zv16, zv17, zv18, zv19, zv20, zv21, zv22, zv23, zv24] at e) <;> (conv => whnf))
    · rw [if_neg (by simp only; omega)]
      rw [show safeK ⟨ext, sets⟩ = false by
        unfold safeK
        split
        · rename_i h; simp only at h; subst h; simp at e
        · rfl]
      (refine ⟨[], ?_⟩; (conv => whnf); refine ⟨[], .nil, .nil, ?_⟩)
      exact .cons rfl (.cons rfl .nil)
    · have hl : sets.length = 1 := by omega
      rw [if_pos hl]
      obtain ⟨x, rfl⟩ := List.length_eq_one_iff.1 hl
      simp only [setsBulk] at hm
      have hF := (formed_iff _).1 hf
      simp only [List.mem_singleton, forall_eq] at hF
      obtain ⟨hmany, hF⟩ := hF
      have hto := hF x.to (by simp)
      have hFl : ∀ r ∈ x.loads, refOk ext r = true := fun r hr => hF r (List.mem_append_left _ hr)
      have hll := x.loads_len
      have hstr : ∀ r ∈ x.loads, r.str.length ≤ x.bulk := fun r hr => ASet.loads_str hr
      have htol : x.to.str.length ≤ x.bulk := by rw [ASet.bulk]; omega
      have hS : safeK ⟨ext, [x]⟩ = !anyLate ext x.to x.loads := rfl
      rw [hS]
      obtain ⟨⟨xa, xb, xs⟩, mask, ⟨op, kind, n, ref, kids⟩⟩ := x
      refine ⟨_, And.intro ⟨by omega, rfl⟩ ?_⟩
      conv => whnf
      (refine ⟨[], false, false, ?_⟩; (conv => whnf); refine ⟨_, _, ⟨ext, ⟨xa, xb, xs⟩, rfl, rfl, by omega, by simp only at htol ⊢; omega, rfl, rfl⟩, ?_⟩; (conv => whnf))
      refine ⟨_, And.intro ⟨by omega, rfl⟩ ?_⟩
      conv => whnf
      (refine ⟨[], false, false, ?_⟩; (conv => whnf); refine ⟨_, _, ⟨⟨⟨xa, xb, xs⟩, mask, ⟨op, kind, n, ref, kids⟩⟩, rfl, rfl, by omega, rfl, rfl⟩, ?_⟩; (conv => whnf))
      have hpl : placesOf ext ⟨xa, xb, xs⟩ = places ext ⟨xa, xb, xs⟩ := by unfold placesOf; rw [if_pos hto]
      rw [hpl]
      have hpm := places_many hto
      generalize hLd : (ASet.mk ⟨xa, xb, xs⟩ mask ⟨op, kind, n, ref, kids⟩).loads = L at *
      refine ⟨[], [1, 4, 5, 7, 8], 4, fun n1 σ => ∃ i : Nat, i ≤ L.length ∧ n1 = L.length - i ∧ (∀ j < i, ∀ y, L[j]? = some y → late ext ⟨xa, xb, xs⟩ y = false) ∧ σ = (⟨[.junk, .one (.ptr 0 0), .junk, .junk, .one (.ptr 1 0), .one (.own 2), .junk, .one (.own 3), .di .i64 i, .junk, .junk, .junk, .junk, .junk, .junk, .junk, .junk, .junk, .junk, .junk, .junk, .junk, .junk, .junk, .junk, .junk, .junk, .junk, .junk, .junk, .junk, .junk, .junk, .junk, .junk, .junk, .junk, .junk, .junk, .junk, .junk, .junk, .junk, .junk, .junk, .junk, .junk, .junk, .junk, .junk, .junk, .junk, .junk, .junk, .junk, .junk, .junk, .junk, .junk, .junk, .junk, .junk, .junk, .junk, .junk, .junk, .junk, .junk, .junk, .junk, .junk, .junk, .junk, .junk, .junk, .junk, .junk, .junk, .junk, .junk, .junk, .junk, .junk], [.box (List.map .d (Kern.mk ext [(ASet.mk ⟨xa, xb, xs⟩ mask ⟨op, kind, n, ref, kids⟩)]).c), .box (List.map .d (Ref.mk xa xb xs).c), .row 1 ((places ext ⟨xa, xb, xs⟩).map inC), .row 3 (L.map Ref.c)]⟩ : St), ?_, ?_⟩
      · refine ⟨L.length, ?_⟩
        conv => whnf
        exact ⟨0, by omega, by omega, fun j hj => by omega, rfl⟩
      · rintro n1 _ ⟨i, hi, rfl, hall, rfl⟩
        conv => whnf
        ((with_reducible refine And.intro (fun (e : (_ : Bool) = true) => ?_) (fun (e : (_ : Bool) = false) => ?_)) <;> (try simp only [reduceCtorEq, ints_len, bools_len, bif_t, bif_f, zv0, zv1, zv2, zv3, zv4, zv5, zv6, zv7, zv8, zv9, zv10, zv11, zv12, zv13, zv14, zv15, zv16, zv17, zv18, zv19, zv20, zv21, zv22, zv23, zv24] at e) <;> (conv => whnf))
        · have hlt : i < L.length := by omega
          obtain ⟨y, hgy⟩ := get_lt hlt
          have hys := hstr y (List.mem_of_getElem? hgy)
          have hyo := hFl y (List.mem_of_getElem? hgy)
          have hym := places_many hyo
          (refine And.intro ⟨by omega, by rw [map_len]; omega⟩ ?_; (conv => whnf); refine ⟨_, And.intro (enc_get hgy) ?_⟩; (conv => whnf))
          obtain ⟨ya, yb, ys⟩ := y
          conv => whnf
          (refine ⟨[], false, false, ?_⟩; (conv => whnf); refine ⟨_, _, ⟨ext, ⟨ya, yb, ys⟩, rfl, rfl, by omega, by simp only at hys ⊢; omega, rfl, rfl⟩, ?_⟩; (conv => whnf))
          have hpl : placesOf ext ⟨ya, yb, ys⟩ = places ext ⟨ya, yb, ys⟩ := by unfold placesOf; rw [if_pos hyo]
          rw [hpl]
          have hlate := late_iff hto hyo
          have hq4 := places_len hyo
          generalize hP : places ext ⟨xa, xb, xs⟩ = P at *
          generalize hQ : places ext ⟨ya, yb, ys⟩ = Q at *
          refine ⟨[], [1, 4, 5, 7, 8, 9, 11, 12], 6, fun n2 σ => ∃ (a : Nat) (M : Md), a ≤ Q.length ∧ n2 = Q.length - a ∧ (∀ b < a, ∀ v, Q[b]? = some v → v ∉ P.take b) ∧ Come (P.take a) M ∧ (a ≠ 0 → xa = ya) ∧ σ = (⟨[.junk, .one (.ptr 0 0), .junk, .junk, .one (.ptr 1 0), .one (.own 2), .junk, .one (.own 3), .di .i64 i, .one (.own 4), .junk, .one (.own 5), .di .i64 a, .junk, .junk, .junk, .junk, .junk, .junk, .junk, .junk, .junk, .junk, .junk, .junk, .junk, .junk, .junk, .junk, .junk, .junk, .junk, .junk, .junk, .junk, .junk, .junk, .junk, .junk, .junk, .junk, .junk, .junk, .junk, .junk, .junk, .junk, .junk, .junk, .junk, .junk, .junk, .junk, .junk, .junk, .junk, .junk, .junk, .junk, .junk, .junk, .junk, .junk, .junk, .junk, .junk, .junk, .junk, .junk, .junk, .junk, .junk, .junk, .junk, .junk, .junk, .junk, .junk, .junk, .junk, .junk, .junk, .junk], [.box (List.map .d (Kern.mk ext [(ASet.mk ⟨xa, xb, xs⟩ mask ⟨op, kind, n, ref, kids⟩)]).c), .box (List.map .d (Ref.mk xa xb xs).c), .row 1 (P.map inC), .row 3 (L.map Ref.c), .row 1 (Q.map inC), .mapd M]⟩ : St), ?_, ?_⟩
          · refine ⟨Q.length, ?_⟩
            conv => whnf
            exact ⟨0, [], by omega, by omega, fun j hj => by omega, ⟨by simp, by simp, by simp⟩, by simp, rfl⟩
          · rintro n2 _ ⟨a, M, ha, rfl, hno, HM, hxy, rfl⟩
            conv => whnf
            rw [map_len]
            (repeat ((first | with_reducible refine And.intro (fun h => h) ?_ | with_reducible refine And.intro (fun _ => rfl) ?_ | with_reducible refine And.intro rfl ?_); conv => whnf))
            refine ⟨fun _ => ⟨by omega, by rw [map_len]; omega⟩, ?_⟩
            conv => whnf
            (repeat ((first | with_reducible refine And.intro (fun h => h) ?_ | with_reducible refine And.intro (fun _ => rfl) ?_ | with_reducible refine And.intro rfl ?_); conv => whnf))
            refine ⟨_, fun _ => enc_get hgy, ?_⟩
            conv => whnf
            (repeat ((first | with_reducible refine And.intro (fun h => h) ?_ | with_reducible refine And.intro (fun _ => rfl) ?_ | with_reducible refine And.intro rfl ?_); conv => whnf))
            ((with_reducible refine And.intro (fun (e : (_ : Bool) = true) => ?_) (fun (e : (_ : Bool) = false) => ?_)) <;> (try simp only [reduceCtorEq, ints_len, bools_len, bif_t, bif_f, zv0, zv1, zv2, zv3, zv4, zv5, zv6, zv7, zv8, zv9, zv10, zv11, zv12, zv13, zv14, zv15, zv16, zv17, zv18, zv19, zv20, zv21, zv22, zv23, zv24] at e) <;> (conv => whnf))
            · have e1 : a < Q.length ∧ ya = xa := by omega
              obtain ⟨v, hv⟩ := get_lt (l := Q) (i := a) e1.1
              obtain ⟨u, hu⟩ := get_lt (l := P) (i := a) (by omega)
              have htk : P.take (a + 1) = P.take a ++ [u] := by rw [List.take_add_one, hu]; rfl
              (refine And.intro ⟨by omega, by rw [map_len]; omega⟩ ?_; (conv => whnf); refine ⟨_, And.intro (enc_get hv) ?_⟩; (conv => whnf))
              refine ⟨fun d hd => ?_, fun hno' => ?_⟩
              · obtain ⟨h1, h2⟩ := HM.own _ hd
                simp only at h1 h2
                subst h1
                have hlt : late ext ⟨xa, xb, xs⟩ ⟨ya, yb, ys⟩ = true := hlate.2 ⟨e1.2.symm, a, v, hv, h2⟩
                conv => whnf
                refine ⟨fun _ => ?_, fun h => absurd h (by decide)⟩
                conv => whnf
                (refine ⟨[], ?_⟩; (conv => whnf); refine ⟨[], .nil, .nil, ?_⟩)
                refine .cons ?_ (.cons rfl .nil)
                rw [anyLate_of hgy hlt]; rfl
              · have hvn : v ∉ P.take a := fun h => by
                  obtain ⟨p, hp, e⟩ := HM.all v h
                  exact hno' p hp e
                conv => whnf
                refine ⟨fun h => absurd h (by decide), fun _ => ?_⟩
                conv => whnf
                (refine And.intro ⟨by omega, by rw [map_len]; omega⟩ ?_; (conv => whnf); refine ⟨_, And.intro (enc_get hu) ?_⟩; (conv => whnf))
                (refine And.intro ?_ ?_; ((first | (with_reducible assumption) | (intro _; with_reducible assumption) | omega | (simp only [reduceCtorEq, ints_len, bools_len, bif_t, bif_f, zv0, zv1, zv2, zv3, zv4, zv5, zv6, zv7, zv8, zv9, zv10, zv11, zv12, zv13, zv14, zv15, zv16, zv17, zv18, zv19, zv20, zv21, zv22, zv23, zv24] at *; omega) | (intro hg; (try simp only [reduceCtorEq, ints_len, bools_len, bif_t, bif_f, zv0, zv1, zv2, zv3, zv4, zv5, zv6, zv7, zv8, zv9, zv10, zv11, zv12, zv13, zv14, zv15, zv16, zv17, zv18, zv19, zv20, zv21, zv22, zv23, zv24] at hg); first | (with_reducible assumption) | omega | (simp only [reduceCtorEq, ints_len, bools_len, bif_t, bif_f, zv0, zv1, zv2, zv3, zv4, zv5, zv6, zv7, zv8, zv9, zv10, zv11, zv12, zv13, zv14, zv15, zv16, zv17, zv18, zv19, zv20, zv21, zv22, zv23, zv24] at *; omega) | (refine ⟨?_, ?_⟩ <;> omega)) | (refine ⟨?_, ?_⟩ <;> omega) | (simp [*]; done) | grind)); (conv => whnf))
                refine ⟨Q.length - (a + 1), by omega, [], ?_⟩
                conv => whnf
                refine ⟨a + 1, putM M u (.bool true), by omega, rfl, fun b hb w hw => ?_, ?_, fun _ => e1.2.symm, rfl⟩
                · by_cases eb : b = a
                  · subst eb; rw [hv] at hw; cases hw; exact hvn
                  · exact hno b (by omega) w hw
                · rw [htk]; exact HM.put u
            · have hlf : late ext ⟨xa, xb, xs⟩ ⟨ya, yb, ys⟩ = false := Bool.eq_false_iff.2 fun h => by
                obtain ⟨h1, j, w, h2, h3⟩ := hlate.1 h
                simp only at h1
                have h4 := (List.getElem?_eq_some_iff.1 h2).1
                exact hno j (by omega) w h2 h3
              (refine And.intro ?_ ?_; ((first | (with_reducible assumption) | (intro _; with_reducible assumption) | omega | (simp only [reduceCtorEq, ints_len, bools_len, bif_t, bif_f, zv0, zv1, zv2, zv3, zv4, zv5, zv6, zv7, zv8, zv9, zv10, zv11, zv12, zv13, zv14, zv15, zv16, zv17, zv18, zv19, zv20, zv21, zv22, zv23, zv24] at *; omega) | (intro hg; (try simp only [reduceCtorEq, ints_len, bools_len, bif_t, bif_f, zv0, zv1, zv2, zv3, zv4, zv5, zv6, zv7, zv8, zv9, zv10, zv11, zv12, zv13, zv14, zv15, zv16, zv17, zv18, zv19, zv20, zv21, zv22, zv23, zv24] at hg); first | (with_reducible assumption) | omega | (simp only [reduceCtorEq, ints_len, bools_len, bif_t, bif_f, zv0, zv1, zv2, zv3, zv4, zv5, zv6, zv7, zv8, zv9, zv10, zv11, zv12, zv13, zv14, zv15, zv16, zv17, zv18, zv19, zv20, zv21, zv22, zv23, zv24] at *; omega) | (refine ⟨?_, ?_⟩ <;> omega)) | (refine ⟨?_, ?_⟩ <;> omega) | (simp [*]; done) | grind)); (conv => whnf))
              refine ⟨L.length - (i + 1), by omega, [], ?_⟩
              conv => whnf
              refine ⟨i + 1, by omega, rfl, fun j hj z hz => ?_, rfl⟩
              by_cases ej : j = i
              · subst ej; rw [hgy] at hz; cases hz; exact hlf
              · exact hall j (by omega) z hz
        · (refine ⟨[], ?_⟩; (conv => whnf); refine ⟨[], .nil, .nil, ?_⟩)
          refine .cons ?_ (.cons rfl .nil)
          rw [anyLate_no fun j y hy => hall j (by have := (List.getElem?_eq_some_iff.1 hy).1; omega) y hy]; rfl
end Go.Proofs.YtahdihhhankhdaaGreat.V
-- Zf
namespace Go.Proofs.YtahdihhhankhdaaGreat.V
open Go.Proofs.YtahdihhhankhdaaGreatVY Go.RowKit
/-- how far the base of a Ref moves, when it is turned -/
def turnB : List Int → List Int → Int
  | e :: E, s :: S => (if 0 < e then s * (e - 1) else 0) + turnB E S
  | _, _ => 0
theorem turnB_take {e s : Int} : ∀ {E S : List Int} {i : Nat}, E[i]? = some e → S[i]? = some s → turnB (E.take (i + 1)) (S.take (i + 1)) = turnB (E.take i) (S.take i) + (if 0 < e then s * (e - 1) else 0)
  | a :: E, b :: S, 0, h1, h2 => by
    simp at h1 h2; subst h1; subst h2; simp [turnB]
  | a :: E, b :: S, i + 1, h1, h2 => by
    have := turnB_take (E := E) (S := S) (i := i) (by simpa using h1) (by simpa using h2)
    simp only [List.take_succ_cons, turnB, this]; omega
  | [], _, _, h1, _ => by simp at h1
  | _ :: _, [], _, _, h2 => by simp at h2
def negs (l : List Int) : List Int := l.map fun s => -s
def turnR (ext : List Int) (x : Ref) : Ref := ⟨x.arr, x.base + turnB ext x.str, negs x.str⟩
theorem refOk_iff {l : List Int} {x : Ref} : refOk l x = true ↔ 0 ≤ many l ∧ x.str.length = l.length ∧ isNum x.base = true ∧ ∀ s ∈ x.str, isNum s = true := by
  unfold refOk
  simp only [Bool.and_eq_true, decide_eq_true_eq, Bool.not_eq_true', List.any_eq_false]
  constructor
  · rintro ⟨h1, h2, h3, h4⟩; exact ⟨h1, h2, h3, fun s hs => by have := h4 s hs; simpa using this⟩
  · rintro ⟨h1, h2, h3, h4⟩; exact ⟨h1, h2, h3, fun s hs => by simp [h4 s hs]⟩
theorem isNum_iff {n : Int} : isNum n = true ↔ -1000000 ≤ n ∧ n ≤ 1000000 := by unfold isNum; simp
theorem step_bd {e s : Int} (h1 : 0 ≤ e ∧ e ≤ 400) (h2 : -1000000 ≤ s ∧ s ≤ 1000000) : -400000000 ≤ (if 0 < e then s * (e - 1) else 0) ∧ (if 0 < e then s * (e - 1) else 0) ≤ 400000000 := by
  split
  · rename_i h
    have a := Int.mul_le_mul_of_nonneg_right h2.2 (show 0 ≤ e - 1 by omega)
    have b := Int.mul_le_mul_of_nonneg_right h2.1 (show 0 ≤ e - 1 by omega)
    omega
  · omega
theorem turnB_bd : ∀ (E S : List Int), (∀ e ∈ E, 0 ≤ e ∧ e ≤ 400) → (∀ s ∈ S, isNum s = true) → -400000000 * (E.length : Int) ≤ turnB E S ∧ turnB E S ≤ 400000000 * (E.length : Int)
  | [], S, _, _ => by simp [turnB]
  | e :: E, [], _, _ => by simp only [turnB, List.length_cons]; omega
  | e :: E, s :: S, h1, h2 => by
    have := turnB_bd E S (fun x hx => h1 x (List.mem_cons_of_mem _ hx)) (fun x hx => h2 x (List.mem_cons_of_mem _ hx))
    have := step_bd (h1 e (List.mem_cons_self ..)) (isNum_iff.1 (h2 s (List.mem_cons_self ..)))
    simp only [turnB, List.length_cons]
    generalize (if 0 < e then s * (e - 1) else 0) = z at *
    omega
theorem turnB_part {ext : List Int} {x : Ref} (h : refOk ext x = true) (i : Nat) : -1200000000 ≤ turnB (ext.take i) (x.str.take i) ∧ turnB (ext.take i) (x.str.take i) ≤ 1200000000 := by
  obtain ⟨h1, h2, h3, h4⟩ := refOk_iff.1 h
  obtain ⟨_, _, _, h5, h6⟩ := many_prod h1
  have := turnB_bd (ext.take i) (x.str.take i) (fun e he => h6 e (List.mem_of_mem_take he)) (fun s hs => h4 s (List.mem_of_mem_take hs))
  have : (ext.take i).length ≤ 3 := by rw [List.length_take]; omega
  omega
def R23 : Ct := fun ss hp r out => ∃ (l : List Int) (x : Ref), ss = [.one (.d (.sl 1 (l.map inC))), .v (.ag (x.c.map .d))] ∧ hp = [] ∧ refOk l x = true ∧ r = .v (.ag ((turnR l x).c.map .d)) ∧ out = []
set_option maxHeartbeats 4000000 in
theorem ok23 : VSound Tryz.prog (23, R23) := by
  refine vsound (T := ty) (F := []) (pl := [(6, [[], [0], [], [], [], [3, 4], [3, 4, 5], [3, 4, 5, 6], [2, 3, 4, 5, 6, 7], [0, 1, 2, 3, 4, 5, 6, 7, 8], [0, 1, 2, 3, 4, 5, 6, 7, 8, 9], [0, 1, 2, 3, 4, 5, 6, 7, 8, 9, 10]], .look 0 (.look 1 (.look 2 (.look 3 (.look 4 (.look 5 (.look 6 (.look 7 (.look 8 (.look 9 (.look 10 (.act 11 [] .done .stop))))))))))))]) (nw := true) (cuts := []) mix tyOk .nil Tryz.func23 (by kernel_rfl) (by kernel_rfl) ?_
  rintro _ _ _ _ ⟨ext, ⟨xa, xb, xs⟩, rfl, rfl, hok, rfl, rfl⟩
  obtain ⟨h1, h2, h3, h4⟩ := refOk_iff.1 hok
  obtain ⟨_, _, _, h5, h6⟩ := many_prod h1
  have hbd := turnB_part hok
  have hbase := isNum_iff.1 h3
  simp only at h2 h4 hbd hbase
  conv => whnf
  refine ⟨[.cell 2 2], [0, 4, 5, 14, 15, 16], 4, fun n1 σ => ∃ i : Nat, i ≤ xs.length ∧ n1 = xs.length - i ∧ σ = (⟨[.one (.d (.sl 1 (ext.map inC))), .junk, .junk, .junk, .one (.ptr 1 0), .one (.ptr 2 0), .junk, .junk, .junk, .junk, .junk, .junk, .junk, .junk, .one (.d (.sl 1 (xs.map inC))), .di .i64 xs.length, .di .i64 i, .junk, .junk, .junk, .junk, .junk, .junk, .junk, .junk, .junk, .junk, .junk, .junk, .junk, .junk, .junk, .junk, .junk, .junk, .junk, .junk, .junk, .junk, .junk, .junk, .junk, .junk, .junk, .junk, .junk], [.box (List.map .d (Ref.mk xa xb xs).c), .box [.d (.int .i64 0), .d (.int .i64 0), .emp 1], .box [.d (.int .i64 xa), .d (.int .i64 (xb + turnB (ext.take i) (xs.take i))), .own 3], .row 1 ((negs (xs.take i)).map inC)]⟩ : St), ?_, ?_⟩
  · refine ⟨xs.length, ?_⟩
    conv => whnf
    refine ⟨0, by omega, by omega, ?_⟩
    simp only [List.take_zero, turnB, Int.add_zero, ints_len]; rfl
  · rintro n1 _ ⟨i, hi, rfl, rfl⟩
    conv => whnf
    ((with_reducible refine And.intro (fun (e : (_ : Bool) = true) => ?_) (fun (e : (_ : Bool) = false) => ?_)) <;> (try simp only [reduceCtorEq, ints_len, bools_len, bif_t, bif_f, zv0, zv1, zv2, zv3, zv4, zv5, zv6, zv7, zv8, zv9, zv10, zv11, zv12, zv13, zv14, zv15, zv16, zv17, zv18, zv19, zv20, zv21, zv22, zv23, zv24] at e) <;> (conv => whnf))
    · have hlt : i < xs.length := by omega
      obtain ⟨s, hs⟩ := get_lt hlt
      obtain ⟨d, hd⟩ := get_lt (l := ext) (i := i) (by omega)
      have htk := turnB_take hd hs
      have hb1 := hbd (i + 1)
      have hb0 := hbd i
      have hd6 := h6 d (List.mem_of_getElem? hd)
      have hs4 := isNum_iff.1 (h4 s (List.mem_of_getElem? hs))
      have hst := step_bd hd6 hs4
      have hneg : negs (xs.take (i + 1)) = negs (xs.take i) ++ [-s] := by
        unfold negs; rw [List.take_add_one, hs, List.map_append]; rfl
      (refine ⟨_, And.intro ⟨by omega, enc_get hs⟩ ?_⟩; (conv => whnf))
      (refine ⟨_, And.intro ⟨by omega, enc_get hd⟩ ?_⟩; (conv => whnf))
      ((with_reducible refine And.intro (fun (e : (_ : Bool) = true) => ?_) (fun (e : (_ : Bool) = false) => ?_)) <;> (try simp only [reduceCtorEq, ints_len, bools_len, bif_t, bif_f, zv0, zv1, zv2, zv3, zv4, zv5, zv6, zv7, zv8, zv9, zv10, zv11, zv12, zv13, zv14, zv15, zv16, zv17, zv18, zv19, zv20, zv21, zv22, zv23, zv24] at e) <;> (conv => whnf))
      · have hp : 0 < d := by omega
        rw [if_pos hp] at htk hst
        (refine ⟨_, And.intro ⟨by omega, enc_get hd⟩ ?_⟩; (conv => whnf))
        (refine And.intro ?_ ?_; ((first | (with_reducible assumption) | (intro _; with_reducible assumption) | omega | (simp only [reduceCtorEq, ints_len, bools_len, bif_t, bif_f, zv0, zv1, zv2, zv3, zv4, zv5, zv6, zv7, zv8, zv9, zv10, zv11, zv12, zv13, zv14, zv15, zv16, zv17, zv18, zv19, zv20, zv21, zv22, zv23, zv24] at *; omega) | (intro hg; (try simp only [reduceCtorEq, ints_len, bools_len, bif_t, bif_f, zv0, zv1, zv2, zv3, zv4, zv5, zv6, zv7, zv8, zv9, zv10, zv11, zv12, zv13, zv14, zv15, zv16, zv17, zv18, zv19, zv20, zv21, zv22, zv23, zv24] at hg); first | (with_reducible assumption) | omega | (simp only [reduceCtorEq, ints_len, bools_len, bif_t, bif_f, zv0, zv1, zv2, zv3, zv4, zv5, zv6, zv7, zv8, zv9, zv10, zv11, zv12, zv13, zv14, zv15, zv16, zv17, zv18, zv19, zv20, zv21, zv22, zv23, zv24] at *; omega) | (refine ⟨?_, ?_⟩ <;> omega)) | (refine ⟨?_, ?_⟩ <;> omega) | (simp [*]; done) | grind)); (conv => whnf))
        (refine And.intro ?_ ?_; ((first | (with_reducible assumption) | (intro _; with_reducible assumption) | omega | (simp only [reduceCtorEq, ints_len, bools_len, bif_t, bif_f, zv0, zv1, zv2, zv3, zv4, zv5, zv6, zv7, zv8, zv9, zv10, zv11, zv12, zv13, zv14, zv15, zv16, zv17, zv18, zv19, zv20, zv21, zv22, zv23, zv24] at *; omega) | (intro hg; (try simp only [reduceCtorEq, ints_len, bools_len, bif_t, bif_f, zv0, zv1, zv2, zv3, zv4, zv5, zv6, zv7, zv8, zv9, zv10, zv11, zv12, zv13, zv14, zv15, zv16, zv17, zv18, zv19, zv20, zv21, zv22, zv23, zv24] at hg); first | (with_reducible assumption) | omega | (simp only [reduceCtorEq, ints_len, bools_len, bif_t, bif_f, zv0, zv1, zv2, zv3, zv4, zv5, zv6, zv7, zv8, zv9, zv10, zv11, zv12, zv13, zv14, zv15, zv16, zv17, zv18, zv19, zv20, zv21, zv22, zv23, zv24] at *; omega) | (refine ⟨?_, ?_⟩ <;> omega)) | (refine ⟨?_, ?_⟩ <;> omega) | (simp [*]; done) | grind)); (conv => whnf))
        (refine And.intro ?_ ?_; ((first | (with_reducible assumption) | (intro _; with_reducible assumption) | omega | (simp only [reduceCtorEq, ints_len, bools_len, bif_t, bif_f, zv0, zv1, zv2, zv3, zv4, zv5, zv6, zv7, zv8, zv9, zv10, zv11, zv12, zv13, zv14, zv15, zv16, zv17, zv18, zv19, zv20, zv21, zv22, zv23, zv24] at *; omega) | (intro hg; (try simp only [reduceCtorEq, ints_len, bools_len, bif_t, bif_f, zv0, zv1, zv2, zv3, zv4, zv5, zv6, zv7, zv8, zv9, zv10, zv11, zv12, zv13, zv14, zv15, zv16, zv17, zv18, zv19, zv20, zv21, zv22, zv23, zv24] at hg); first | (with_reducible assumption) | omega | (simp only [reduceCtorEq, ints_len, bools_len, bif_t, bif_f, zv0, zv1, zv2, zv3, zv4, zv5, zv6, zv7, zv8, zv9, zv10, zv11, zv12, zv13, zv14, zv15, zv16, zv17, zv18, zv19, zv20, zv21, zv22, zv23, zv24] at *; omega) | (refine ⟨?_, ?_⟩ <;> omega)) | (refine ⟨?_, ?_⟩ <;> omega) | (simp [*]; done) | grind)); (conv => whnf))
        (refine And.intro ?_ ?_; ((first | (with_reducible assumption) | (intro _; with_reducible assumption) | omega | (simp only [reduceCtorEq, ints_len, bools_len, bif_t, bif_f, zv0, zv1, zv2, zv3, zv4, zv5, zv6, zv7, zv8, zv9, zv10, zv11, zv12, zv13, zv14, zv15, zv16, zv17, zv18, zv19, zv20, zv21, zv22, zv23, zv24] at *; omega) | (intro hg; (try simp only [reduceCtorEq, ints_len, bools_len, bif_t, bif_f, zv0, zv1, zv2, zv3, zv4, zv5, zv6, zv7, zv8, zv9, zv10, zv11, zv12, zv13, zv14, zv15, zv16, zv17, zv18, zv19, zv20, zv21, zv22, zv23, zv24] at hg); first | (with_reducible assumption) | omega | (simp only [reduceCtorEq, ints_len, bools_len, bif_t, bif_f, zv0, zv1, zv2, zv3, zv4, zv5, zv6, zv7, zv8, zv9, zv10, zv11, zv12, zv13, zv14, zv15, zv16, zv17, zv18, zv19, zv20, zv21, zv22, zv23, zv24] at *; omega) | (refine ⟨?_, ?_⟩ <;> omega)) | (refine ⟨?_, ?_⟩ <;> omega) | (simp [*]; done) | grind)); (conv => whnf))
        refine ⟨by rw [map_len]; unfold negs; rw [List.length_map, List.length_take]; simp only [List.length_cons, List.length_nil]; omega, ?_⟩
        conv => whnf
        (refine And.intro ?_ ?_; ((first | (with_reducible assumption) | (intro _; with_reducible assumption) | omega | (simp only [reduceCtorEq, ints_len, bools_len, bif_t, bif_f, zv0, zv1, zv2, zv3, zv4, zv5, zv6, zv7, zv8, zv9, zv10, zv11, zv12, zv13, zv14, zv15, zv16, zv17, zv18, zv19, zv20, zv21, zv22, zv23, zv24] at *; omega) | (intro hg; (try simp only [reduceCtorEq, ints_len, bools_len, bif_t, bif_f, zv0, zv1, zv2, zv3, zv4, zv5, zv6, zv7, zv8, zv9, zv10, zv11, zv12, zv13, zv14, zv15, zv16, zv17, zv18, zv19, zv20, zv21, zv22, zv23, zv24] at hg); first | (with_reducible assumption) | omega | (simp only [reduceCtorEq, ints_len, bools_len, bif_t, bif_f, zv0, zv1, zv2, zv3, zv4, zv5, zv6, zv7, zv8, zv9, zv10, zv11, zv12, zv13, zv14, zv15, zv16, zv17, zv18, zv19, zv20, zv21, zv22, zv23, zv24] at *; omega) | (refine ⟨?_, ?_⟩ <;> omega)) | (refine ⟨?_, ?_⟩ <;> omega) | (simp [*]; done) | grind)); (conv => whnf))
        refine ⟨xs.length - (i + 1), by omega, [], ?_⟩
        conv => whnf
        refine ⟨i + 1, by omega, rfl, ?_⟩
        rw [hneg, List.map_append, htk, Int.add_assoc]; rfl
      · have hp : ¬ 0 < d := by omega
        rw [if_neg hp, Int.add_zero] at htk
        (refine And.intro ?_ ?_; ((first | (with_reducible assumption) | (intro _; with_reducible assumption) | omega | (simp only [reduceCtorEq, ints_len, bools_len, bif_t, bif_f, zv0, zv1, zv2, zv3, zv4, zv5, zv6, zv7, zv8, zv9, zv10, zv11, zv12, zv13, zv14, zv15, zv16, zv17, zv18, zv19, zv20, zv21, zv22, zv23, zv24] at *; omega) | (intro hg; (try simp only [reduceCtorEq, ints_len, bools_len, bif_t, bif_f, zv0, zv1, zv2, zv3, zv4, zv5, zv6, zv7, zv8, zv9, zv10, zv11, zv12, zv13, zv14, zv15, zv16, zv17, zv18, zv19, zv20, zv21, zv22, zv23, zv24] at hg); first | (with_reducible assumption) | omega | (simp only [reduceCtorEq, ints_len, bools_len, bif_t, bif_f, zv0, zv1, zv2, zv3, zv4, zv5, zv6, zv7, zv8, zv9, zv10, zv11, zv12, zv13, zv14, zv15, zv16, zv17, zv18, zv19, zv20, zv21, zv22, zv23, zv24] at *; omega) | (refine ⟨?_, ?_⟩ <;> omega)) | (refine ⟨?_, ?_⟩ <;> omega) | (simp [*]; done) | grind)); (conv => whnf))
        refine ⟨by rw [map_len]; unfold negs; rw [List.length_map, List.length_take]; simp only [List.length_cons, List.length_nil]; omega, ?_⟩
        conv => whnf
        (refine And.intro ?_ ?_; ((first | (with_reducible assumption) | (intro _; with_reducible assumption) | omega | (simp only [reduceCtorEq, ints_len, bools_len, bif_t, bif_f, zv0, zv1, zv2, zv3, zv4, zv5, zv6, zv7, zv8, zv9, zv10, zv11, zv12, zv13, zv14, zv15, zv16, zv17, zv18, zv19, zv20, zv21, zv22, zv23, zv24] at *; omega) | (intro hg; (try simp only [reduceCtorEq, ints_len, bools_len, bif_t, bif_f, zv0, zv1, zv2, zv3, zv4, zv5, zv6, zv7, zv8, zv9, zv10, zv11, zv12, zv13, zv14, zv15, zv16, zv17, zv18, zv19, zv20, zv21, zv22, zv23, zv24] at hg); first | (with_reducible assumption) | omega | (simp only [reduceCtorEq, ints_len, bools_len, bif_t, bif_f, zv0, zv1, zv2, zv3, zv4, zv5, zv6, zv7, zv8, zv9, zv10, zv11, zv12, zv13, zv14, zv15, zv16, zv17, zv18, zv19, zv20, zv21, zv22, zv23, zv24] at *; omega) | (refine ⟨?_, ?_⟩ <;> omega)) | (refine ⟨?_, ?_⟩ <;> omega) | (simp [*]; done) | grind)); (conv => whnf))
        refine ⟨xs.length - (i + 1), by omega, [], ?_⟩
        conv => whnf
        refine ⟨i + 1, by omega, rfl, ?_⟩
        rw [hneg, List.map_append, htk]; rfl
    · have hi' : i = xs.length := by omega
      subst hi'
      have he : ext.take xs.length = ext := by rw [h2, List.take_length]
      rw [List.take_length, he]
      refine ⟨[], ?_⟩
      conv => whnf
      refine ⟨[], .nil, .nil, ?_⟩
      refine .cons rfl (.cons rfl (.cons (.inl ⟨rfl, by simp⟩) .nil))
theorem step_max (e s : Int) (h : 0 ≤ e) : (if 0 > e - 1 then 0 else e - 1) * s = if 0 < e then s * (e - 1) else 0 := by
  by_cases h0 : 0 < e
  · rw [if_pos h0, if_neg (by omega), Int.mul_comm]
  · rw [if_neg h0, if_pos (by omega), Int.zero_mul]
theorem num_bif (b : Int) : (bif decide (b ≥ -1000000) then decide (b ≤ 1000000) else false) = isNum b := by
  unfold isNum; by_cases h1 : b ≥ -1000000 <;> by_cases h2 : b ≤ 1000000 <;> simp [h1, h2] <;> omega
def R25 : Ct := fun ss hp r out => ∃ (l : List Int) (x : Ref), ss = [.one (.d (.sl 1 (l.map inC))), .v (.ag (x.c.map .d))] ∧ hp = [] ∧ refOk l x = true ∧ r = .tup [.ag ((turnR l x).c.map .d), .c (.d (.bool (isNum (turnR l x).base)))] ∧ out = []
set_option maxHeartbeats 4000000 in
theorem ok25 : VSound Tryz.prog (25, R25) := by
  refine vsound (T := ty) (F := []) (pl := [(5, [[], [0], [], [], [2, 3], [2, 3, 4], [2, 3, 4, 5], [2, 3, 4, 5, 6], [], [8], [], [8, 9, 10], [8, 9, 10, 11], [2, 3, 4, 5, 6, 7, 8, 9, 10, 11, 12], [0, 1, 2, 3, 4, 5, 6, 7, 8, 9, 10, 11, 12, 13], [0, 1, 2, 3, 4, 5, 6, 7, 8, 9, 10, 11, 12, 13, 14], [0, 1, 2, 3, 4, 5, 6, 7, 8, 9, 10, 11, 12, 13, 14, 15]], .look 0 (.look 1 (.look 2 (.look 3 (.look 4 (.look 5 (.look 6 (.look 7 (.look 8 (.look 9 (.look 10 (.look 11 (.look 12 (.look 13 (.look 14 (.look 15 (.act 16 [] .done .stop))))))))))))))))), (6, [[], [0], [], [2], [], [2, 3, 4], [2, 3, 4, 5], [2, 3, 4, 5, 6], [2, 3, 4, 5, 6, 7], [0, 1, 2, 3, 4, 5, 6, 7, 8], [0, 1, 2, 3, 4, 5, 6, 7, 8, 9], [0, 1, 2, 3, 4, 5, 6, 7, 8, 9, 10]], .look 0 (.look 1 (.look 2 (.look 3 (.look 4 (.look 5 (.look 6 (.look 7 (.act 8 [0, 1] (.act 9 [] (.look 10 (.act 11 [] .done .stop)) .stop) .stop))))))))), (7, [[], [], [1], [1, 2], [1, 2, 3], [1, 2, 3, 4], [1, 2, 3, 4, 5], [1, 2, 3, 4, 5, 6], [1, 2, 3, 4, 5, 6, 7], [0, 1, 2, 3, 4], [0, 1, 2, 3, 4, 5, 6, 7, 8, 9]], .look 0 (.look 1 (.look 2 (.look 3 (.look 4 (.look 5 (.look 6 (.look 7 (.look 8 (.act 9 [5, 6, 7, 8] (.look 10 .done) .stop))))))))))]) (nw := true) (cuts := []) mix tyOk .nil Tryz.func25 (by kernel_rfl) (by kernel_rfl) ?_
  rintro _ _ _ _ ⟨ext, ⟨xa, xb, xs⟩, rfl, rfl, hok, rfl, rfl⟩
  obtain ⟨h1, h2, h3, h4⟩ := refOk_iff.1 hok
  obtain ⟨_, _, _, h5, h6⟩ := many_prod h1
  have hbd := turnB_part hok
  have hbase := isNum_iff.1 h3
  simp only at h2 h4 hbd hbase
  conv => whnf
  refine ⟨[.cell 2 2], [0, 3, 4, 6, 7], 4, fun n1 σ => ∃ i : Nat, i ≤ xs.length ∧ n1 = xs.length - i ∧ σ = (⟨[.one (.d (.sl 1 (ext.map inC))), .junk, .junk, .one (.ptr 0 0), .one (.ptr 1 0), .junk, .one (.ptr 2 0), .di .i64 i, .junk, .junk, .junk, .junk, .junk, .junk, .junk, .junk, .junk, .junk, .junk, .junk, .junk, .junk, .junk, .junk, .junk, .junk, .junk, .junk, .junk, .junk, .junk, .junk, .junk, .junk, .junk, .junk, .junk, .junk, .junk, .junk, .junk, .junk, .junk, .junk, .junk, .junk, .junk, .junk, .junk, .junk, .junk, .junk, .junk, .junk, .junk], [.box (List.map .d (Ref.mk xa xb xs).c), .box [.d (.int .i64 0), .d (.int .i64 0), .emp 1], .box [.d (.int .i64 xa), .d (.int .i64 (xb + turnB (ext.take i) (xs.take i))), .own 3], .row 1 ((negs (xs.take i)).map inC)]⟩ : St), ?_, ?_⟩
  · refine ⟨xs.length, ?_⟩
    conv => whnf
    refine ⟨0, by omega, by omega, ?_⟩
    simp only [List.take_zero, turnB, Int.add_zero, ints_len]; rfl
  · rintro n1 _ ⟨i, hi, rfl, rfl⟩
    conv => whnf
    rw [map_len]
    ((with_reducible refine And.intro (fun (e : (_ : Bool) = true) => ?_) (fun (e : (_ : Bool) = false) => ?_)) <;> (try simp only [reduceCtorEq, ints_len, bools_len, bif_t, bif_f, zv0, zv1, zv2, zv3, zv4, zv5, zv6, zv7, zv8, zv9, zv10, zv11, zv12, zv13, zv14, zv15, zv16, zv17, zv18, zv19, zv20, zv21, zv22, zv23, zv24] at e) <;> (conv => whnf))
    · have hlt : i < xs.length := by omega
      obtain ⟨s, hs⟩ := get_lt hlt
      obtain ⟨d, hd⟩ := get_lt (l := ext) (i := i) (by omega)
      have htk := turnB_take hd hs
      have hb1 := hbd (i + 1)
      have hb0 := hbd i
      have hd6 := h6 d (List.mem_of_getElem? hd)
      have hs4 := isNum_iff.1 (h4 s (List.mem_of_getElem? hs))
      have hst := step_bd hd6 hs4
      have hneg : negs (xs.take (i + 1)) = negs (xs.take i) ++ [-s] := by
        unfold negs; rw [List.take_add_one, hs, List.map_append]; rfl
      (refine ⟨_, And.intro ⟨by omega, enc_get hd⟩ ?_⟩; (conv => whnf))
      have hsm := step_max d s hd6.1
      generalize hz : (if 0 < d then s * (d - 1) else 0) = z at *
      (refine And.intro ?_ ?_; ((first | (with_reducible assumption) | (intro _; with_reducible assumption) | omega | (simp only [reduceCtorEq, ints_len, bools_len, bif_t, bif_f, zv0, zv1, zv2, zv3, zv4, zv5, zv6, zv7, zv8, zv9, zv10, zv11, zv12, zv13, zv14, zv15, zv16, zv17, zv18, zv19, zv20, zv21, zv22, zv23, zv24] at *; omega) | (intro hg; (try simp only [reduceCtorEq, ints_len, bools_len, bif_t, bif_f, zv0, zv1, zv2, zv3, zv4, zv5, zv6, zv7, zv8, zv9, zv10, zv11, zv12, zv13, zv14, zv15, zv16, zv17, zv18, zv19, zv20, zv21, zv22, zv23, zv24] at hg); first | (with_reducible assumption) | omega | (simp only [reduceCtorEq, ints_len, bools_len, bif_t, bif_f, zv0, zv1, zv2, zv3, zv4, zv5, zv6, zv7, zv8, zv9, zv10, zv11, zv12, zv13, zv14, zv15, zv16, zv17, zv18, zv19, zv20, zv21, zv22, zv23, zv24] at *; omega) | (refine ⟨?_, ?_⟩ <;> omega)) | (refine ⟨?_, ?_⟩ <;> omega) | (simp [*]; done) | grind)); (conv => whnf))
      (refine ⟨_, And.intro ⟨by omega, enc_get hs⟩ ?_⟩; (conv => whnf))
      rw [hsm]
      (refine And.intro ?_ ?_; ((first | (with_reducible assumption) | (intro _; with_reducible assumption) | omega | (simp only [reduceCtorEq, ints_len, bools_len, bif_t, bif_f, zv0, zv1, zv2, zv3, zv4, zv5, zv6, zv7, zv8, zv9, zv10, zv11, zv12, zv13, zv14, zv15, zv16, zv17, zv18, zv19, zv20, zv21, zv22, zv23, zv24] at *; omega) | (intro hg; (try simp only [reduceCtorEq, ints_len, bools_len, bif_t, bif_f, zv0, zv1, zv2, zv3, zv4, zv5, zv6, zv7, zv8, zv9, zv10, zv11, zv12, zv13, zv14, zv15, zv16, zv17, zv18, zv19, zv20, zv21, zv22, zv23, zv24] at hg); first | (with_reducible assumption) | omega | (simp only [reduceCtorEq, ints_len, bools_len, bif_t, bif_f, zv0, zv1, zv2, zv3, zv4, zv5, zv6, zv7, zv8, zv9, zv10, zv11, zv12, zv13, zv14, zv15, zv16, zv17, zv18, zv19, zv20, zv21, zv22, zv23, zv24] at *; omega) | (refine ⟨?_, ?_⟩ <;> omega)) | (refine ⟨?_, ?_⟩ <;> omega) | (simp [*]; done) | grind)); (conv => whnf))
      (refine And.intro ?_ ?_; ((first | (with_reducible assumption) | (intro _; with_reducible assumption) | omega | (simp only [reduceCtorEq, ints_len, bools_len, bif_t, bif_f, zv0, zv1, zv2, zv3, zv4, zv5, zv6, zv7, zv8, zv9, zv10, zv11, zv12, zv13, zv14, zv15, zv16, zv17, zv18, zv19, zv20, zv21, zv22, zv23, zv24] at *; omega) | (intro hg; (try simp only [reduceCtorEq, ints_len, bools_len, bif_t, bif_f, zv0, zv1, zv2, zv3, zv4, zv5, zv6, zv7, zv8, zv9, zv10, zv11, zv12, zv13, zv14, zv15, zv16, zv17, zv18, zv19, zv20, zv21, zv22, zv23, zv24] at hg); first | (with_reducible assumption) | omega | (simp only [reduceCtorEq, ints_len, bools_len, bif_t, bif_f, zv0, zv1, zv2, zv3, zv4, zv5, zv6, zv7, zv8, zv9, zv10, zv11, zv12, zv13, zv14, zv15, zv16, zv17, zv18, zv19, zv20, zv21, zv22, zv23, zv24] at *; omega) | (refine ⟨?_, ?_⟩ <;> omega)) | (refine ⟨?_, ?_⟩ <;> omega) | (simp [*]; done) | grind)); (conv => whnf))
      (refine ⟨_, And.intro ⟨by omega, enc_get hs⟩ ?_⟩; (conv => whnf))
      (refine And.intro ?_ ?_; ((first | (with_reducible assumption) | (intro _; with_reducible assumption) | omega | (simp only [reduceCtorEq, ints_len, bools_len, bif_t, bif_f, zv0, zv1, zv2, zv3, zv4, zv5, zv6, zv7, zv8, zv9, zv10, zv11, zv12, zv13, zv14, zv15, zv16, zv17, zv18, zv19, zv20, zv21, zv22, zv23, zv24] at *; omega) | (intro hg; (try simp only [reduceCtorEq, ints_len, bools_len, bif_t, bif_f, zv0, zv1, zv2, zv3, zv4, zv5, zv6, zv7, zv8, zv9, zv10, zv11, zv12, zv13, zv14, zv15, zv16, zv17, zv18, zv19, zv20, zv21, zv22, zv23, zv24] at hg); first | (with_reducible assumption) | omega | (simp only [reduceCtorEq, ints_len, bools_len, bif_t, bif_f, zv0, zv1, zv2, zv3, zv4, zv5, zv6, zv7, zv8, zv9, zv10, zv11, zv12, zv13, zv14, zv15, zv16, zv17, zv18, zv19, zv20, zv21, zv22, zv23, zv24] at *; omega) | (refine ⟨?_, ?_⟩ <;> omega)) | (refine ⟨?_, ?_⟩ <;> omega) | (simp [*]; done) | grind)); (conv => whnf))
      refine ⟨by unfold negs; rw [List.length_map, List.length_map, List.length_take]; simp only [List.length_cons, List.length_nil]; omega, ?_⟩
      conv => whnf
      (refine And.intro ?_ ?_; ((first | (with_reducible assumption) | (intro _; with_reducible assumption) | omega | (simp only [reduceCtorEq, ints_len, bools_len, bif_t, bif_f, zv0, zv1, zv2, zv3, zv4, zv5, zv6, zv7, zv8, zv9, zv10, zv11, zv12, zv13, zv14, zv15, zv16, zv17, zv18, zv19, zv20, zv21, zv22, zv23, zv24] at *; omega) | (intro hg; (try simp only [reduceCtorEq, ints_len, bools_len, bif_t, bif_f, zv0, zv1, zv2, zv3, zv4, zv5, zv6, zv7, zv8, zv9, zv10, zv11, zv12, zv13, zv14, zv15, zv16, zv17, zv18, zv19, zv20, zv21, zv22, zv23, zv24] at hg); first | (with_reducible assumption) | omega | (simp only [reduceCtorEq, ints_len, bools_len, bif_t, bif_f, zv0, zv1, zv2, zv3, zv4, zv5, zv6, zv7, zv8, zv9, zv10, zv11, zv12, zv13, zv14, zv15, zv16, zv17, zv18, zv19, zv20, zv21, zv22, zv23, zv24] at *; omega) | (refine ⟨?_, ?_⟩ <;> omega)) | (refine ⟨?_, ?_⟩ <;> omega) | (simp [*]; done) | grind)); (conv => whnf))
      refine ⟨xs.length - (i + 1), by omega, [], ?_⟩
      conv => whnf
      refine ⟨i + 1, by omega, rfl, ?_⟩
      rw [hneg, List.map_append, htk, Int.add_assoc]; rfl
    · have hi' : i = xs.length := by omega
      subst hi'
      have he : ext.take xs.length = ext := by rw [h2, List.take_length]
      rw [List.take_length, he]
      (repeat ((first | with_reducible refine And.intro (fun h => h) ?_ | with_reducible refine And.intro (fun _ => rfl) ?_ | with_reducible refine And.intro rfl ?_); conv => whnf))
      refine ⟨[], ?_⟩
      conv => whnf
      refine ⟨[], .nil, .nil, ?_⟩
      rw [num_bif]
      refine .cons ?_ (.cons rfl .nil)
      refine .cons rfl (.cons rfl (.cons (.inl ⟨rfl, by simp⟩) .nil))
end Go.Proofs.YtahdihhhankhdaaGreat.V
-- Zg
namespace Go.Proofs.YtahdihhhankhdaaGreat.V
open Go.Proofs.YtahdihhhankhdaaGreatVY Go.RowKit
mutual
def turnT (ext : List Int) : Tree → Tree
  | .mk op kind n ref kids => .mk op kind n (if isLoad op = true then turnR ext ref else ref) (turnTs ext kids)
def turnTs (ext : List Int) : List Tree → List Tree
  | [] => []
  | t :: l => turnT ext t :: turnTs ext l
end
theorem turnTs_map (ext : List Int) : ∀ l : List Tree, turnTs ext l = l.map (turnT ext)
  | [] => rfl
  | t :: l => by rw [turnTs, turnTs_map ext l]; rfl
theorem take_snoc {α : Type} {l : List α} {i : Nat} {x : α} (h : l[i]? = some x) : l.take (i + 1) = l.take i ++ [x] := by
  rw [List.take_add_one, h]; rfl
theorem turnTs_take {ext : List Int} {l : List Tree} {i : Nat} {x : Tree} (h : l[i]? = some x) : turnTs ext (l.take (i + 1)) = turnTs ext (l.take i) ++ [turnT ext x] := by
  rw [turnTs_map, turnTs_map, take_snoc h, List.map_append]; rfl
theorem treesLoads_mem {r : Ref} {l : List Tree} {i : Nat} {x : Tree} (h : l[i]? = some x) (hr : r ∈ x.loads) : r ∈ treesLoads l := by
  induction l generalizing i with
  | nil => simp at h
  | cons t l ih =>
    rw [treesLoads, List.mem_append]
    cases i with
    | zero => simp at h; subst h; exact .inl hr
    | succ i => exact .inr (ih (by simpa using h))
def R24 (m : Nat) : Ct := fun ss hp r out => ∃ (l : List Int) (t : Tree), ss = [.one (.d (.sl 1 (l.map inC))), .v (.ag (t.c.map .d))] ∧ hp = [] ∧ t.bulk < m ∧ m ≤ 4194305 ∧ (∀ r ∈ t.loads, refOk l r = true) ∧ r = .v (.ag ((turnT l t).c.map .d)) ∧ out = []
theorem ok24_0 : VSound Tryz.prog (24, R24 0) := by
  refine .inl ⟨?_, enterB_ok (by kernel_rfl)⟩
  unfold Ok
  intros
  rename_i hR
  obtain ⟨_, t, _, _, h, _⟩ := hR
  omega
set_option maxHeartbeats 4000000 in
theorem ok24_s (m : Nat) (ih : VSound Tryz.prog (24, R24 m)) : VSound Tryz.prog (24, R24 (m + 1)) := by
  refine vsound (T := ty) (F := [(23, R23), (24, R24 m)]) (pl := [(8, [[], [0], [], [], [2, 3], [2, 3, 4], [0, 1, 2, 3, 4, 5], [0, 1, 2, 3, 4, 5, 6], [0, 1, 2, 3, 4, 5, 6, 7]], .look 0 (.look 1 (.look 2 (.look 3 (.act 4 [0, 1] (.act 5 [0, 1] (.act 6 [] (.look 7 (.act 8 [] .done .stop)) .stop) .stop) .stop)))))]) (nw := true) (cuts := []) mix tyOk (.cons (ok23) (.cons (ih) .nil)) Tryz.func24 (by kernel_rfl) (by kernel_rfl) ?_
  rintro _ _ _ _ ⟨ext, ⟨op, kind, n, ⟨ra, rb, rs⟩, kids⟩, rfl, rfl, hm, hm2, hok, rfl, rfl⟩
  rw [Tree.bulk] at hm
  simp only at hm
  have hkl := treesBulk_len kids
  have hkid : ∀ (i : Nat) (x : Tree), kids[i]? = some x → ∀ r ∈ x.loads, refOk ext r = true := fun i x hx r hr => hok r (by
    rw [Tree.loads, List.mem_append]; exact .inl (treesLoads_mem hx hr))
  conv => whnf
  refine And.intro (fun e => ?_) (fun e => ?_) <;> (conv => whnf)
  · have hld : isLoad op = true := e
    (refine ⟨[], false, false, ?_⟩; (conv => whnf); refine ⟨_, _, ⟨ext, ⟨ra, rb, rs⟩, rfl, rfl, hok _ (by rw [Tree.loads, if_pos hld]; simp), rfl, rfl⟩, ?_⟩; (conv => whnf))
    refine ⟨[.cell 2 6], [0, 4, 5, 19, 20, 21], 4, fun n1 σ => ∃ i : Nat, i ≤ kids.length ∧ n1 = kids.length - i ∧ σ = (⟨[.one (.d (.sl 1 (ext.map inC))), .junk, .junk, .junk, .one (.ptr 1 0), .one (.ptr 2 0), .junk, .junk, .junk, .junk, .junk, .junk, .junk, .junk, .junk, .junk, .junk, .junk, .junk, .one (.d (.sl 7 (treesC kids))), .di .i64 kids.length, .di .i64 i, .junk, .junk, .junk, .junk, .junk, .junk, .junk, .junk, .junk, .junk, .junk, .junk, .junk], [.box (List.map .d (Tree.mk op kind n ⟨ra, rb, rs⟩ kids).c), .box [.d (.str ⟨#[]⟩), .d (.int .i64 0), .d (.int .i64 0), .d (.int .i64 0), .d (.int .i64 0), .emp 1, .emp 7], .box [.d (.str op), .d (.int .i64 kind), .d (.int .i64 n), .d (.int .i64 ra), .d (.int .i64 (rb + turnB ext rs)), .d (.sl 1 ((negs rs).map inC)), .own 3], .row 7 ((turnTs ext (kids.take i)).map Tree.c)]⟩ : St), ?_, ?_⟩
    · refine ⟨kids.length, ?_⟩
      conv => whnf
      refine ⟨0, by omega, by omega, ?_⟩
      rw [treesC_map, map_len]; rfl
    · rintro n1 _ ⟨i, hi, rfl, rfl⟩
      conv => whnf
      ((with_reducible refine And.intro (fun (e : (_ : Bool) = true) => ?_) (fun (e : (_ : Bool) = false) => ?_)) <;> (try simp only [reduceCtorEq, ints_len, bools_len, bif_t, bif_f, zv0, zv1, zv2, zv3, zv4, zv5, zv6, zv7, zv8, zv9, zv10, zv11, zv12, zv13, zv14, zv15, zv16, zv17, zv18, zv19, zv20, zv21, zv22, zv23, zv24] at e) <;> (conv => whnf))
      · have hlt : i < kids.length := by omega
        obtain ⟨x, hget⟩ := get_lt hlt
        have hb := treesBulk_get hget
        have ht := turnTs_take (ext := ext) hget
        have hx := hkid i x hget
        (refine ⟨_, And.intro ⟨by omega, (trees_get hget)⟩ ?_⟩; (conv => whnf))
        obtain ⟨xop, xkind, xn, ⟨xa, xb, xs⟩, xkids⟩ := x
        conv => whnf
        (refine ⟨[], false, false, ?_⟩; (conv => whnf); refine ⟨_, _, ⟨ext, .mk xop xkind xn ⟨xa, xb, xs⟩ xkids, rfl, rfl, by omega, by omega, hx, rfl, rfl⟩, ?_⟩; (conv => whnf))
        refine ⟨by rw [List.length_map, turnTs_map, List.length_map, List.length_take]; simp only [List.length_cons, List.length_nil]; omega, ?_⟩
        conv => whnf
        (refine And.intro ?_ ?_; ((first | (with_reducible assumption) | (intro _; with_reducible assumption) | omega | (simp only [reduceCtorEq, ints_len, bools_len, bif_t, bif_f, zv0, zv1, zv2, zv3, zv4, zv5, zv6, zv7, zv8, zv9, zv10, zv11, zv12, zv13, zv14, zv15, zv16, zv17, zv18, zv19, zv20, zv21, zv22, zv23, zv24] at *; omega) | (intro hg; (try simp only [reduceCtorEq, ints_len, bools_len, bif_t, bif_f, zv0, zv1, zv2, zv3, zv4, zv5, zv6, zv7, zv8, zv9, zv10, zv11, zv12, zv13, zv14, zv15, zv16, zv17, zv18, zv19, zv20, zv21, zv22, zv23, zv24] at hg); first | (with_reducible assumption) | omega | (simp only [reduceCtorEq, ints_len, bools_len, bif_t, bif_f, zv0, zv1, zv2, zv3, zv4, zv5, zv6, zv7, zv8, zv9, zv10, zv11, zv12, zv13, zv14, zv15, zv16, zv17, zv18, zv19, zv20, zv21, zv22, zv23, zv24] at *; omega) | (refine ⟨?_, ?_⟩ <;> omega)) | (refine ⟨?_, ?_⟩ <;> omega) | (simp [*]; done) | grind)); (conv => whnf))
        refine ⟨kids.length - (i + 1), by omega, [], ?_⟩
        conv => whnf
        refine ⟨i + 1, by omega, rfl, ?_⟩
        rw [ht, List.map_append]; rfl
      · have hi' : i = kids.length := by omega
        subst hi'
        rw [List.take_length]
        refine ⟨[], ?_⟩
        conv => whnf
        refine ⟨[], .nil, .nil, ?_⟩
        rw [turnT, if_pos hld]
        refine .cons rfl (.cons rfl (.cons rfl (.cons rfl (.cons rfl (.cons rfl (.cons (.inl ⟨?_, by simp⟩) .nil))))))
        rw [treesC_map (turnTs ext kids)]; rfl
  · have hld : ¬ isLoad op = true := by rw [isLoad, e]; simp
    refine ⟨[.cell 2 6], [0, 4, 5, 19, 20, 21], 4, fun n1 σ => ∃ i : Nat, i ≤ kids.length ∧ n1 = kids.length - i ∧ σ = (⟨[.one (.d (.sl 1 (ext.map inC))), .junk, .junk, .junk, .one (.ptr 1 0), .one (.ptr 2 0), .junk, .junk, .junk, .junk, .junk, .junk, .junk, .junk, .junk, .junk, .junk, .junk, .junk, .one (.d (.sl 7 (treesC kids))), .di .i64 kids.length, .di .i64 i, .junk, .junk, .junk, .junk, .junk, .junk, .junk, .junk, .junk, .junk, .junk, .junk, .junk], [.box (List.map .d (Tree.mk op kind n ⟨ra, rb, rs⟩ kids).c), .box [.d (.str ⟨#[]⟩), .d (.int .i64 0), .d (.int .i64 0), .d (.int .i64 0), .d (.int .i64 0), .emp 1, .emp 7], .box [.d (.str op), .d (.int .i64 kind), .d (.int .i64 n), .d (.int .i64 ra), .d (.int .i64 rb), .d (.sl 1 (rs.map inC)), .own 3], .row 7 ((turnTs ext (kids.take i)).map Tree.c)]⟩ : St), ?_, ?_⟩
    · refine ⟨kids.length, ?_⟩
      conv => whnf
      refine ⟨0, by omega, by omega, ?_⟩
      rw [treesC_map, map_len]; rfl
    · rintro n1 _ ⟨i, hi, rfl, rfl⟩
      conv => whnf
      ((with_reducible refine And.intro (fun (e : (_ : Bool) = true) => ?_) (fun (e : (_ : Bool) = false) => ?_)) <;> (try simp only [reduceCtorEq, ints_len, bools_len, bif_t, bif_f, zv0, zv1, zv2, zv3, zv4, zv5, zv6, zv7, zv8, zv9, zv10, zv11, zv12, zv13, zv14, zv15, zv16, zv17, zv18, zv19, zv20, zv21, zv22, zv23, zv24] at e) <;> (conv => whnf))
      · have hlt : i < kids.length := by omega
        obtain ⟨x, hget⟩ := get_lt hlt
        have hb := treesBulk_get hget
        have ht := turnTs_take (ext := ext) hget
        have hx := hkid i x hget
        (refine ⟨_, And.intro ⟨by omega, (trees_get hget)⟩ ?_⟩; (conv => whnf))
        obtain ⟨xop, xkind, xn, ⟨xa, xb, xs⟩, xkids⟩ := x
        conv => whnf
        (refine ⟨[], false, false, ?_⟩; (conv => whnf); refine ⟨_, _, ⟨ext, .mk xop xkind xn ⟨xa, xb, xs⟩ xkids, rfl, rfl, by omega, by omega, hx, rfl, rfl⟩, ?_⟩; (conv => whnf))
        refine ⟨by rw [List.length_map, turnTs_map, List.length_map, List.length_take]; simp only [List.length_cons, List.length_nil]; omega, ?_⟩
        conv => whnf
        (refine And.intro ?_ ?_; ((first | (with_reducible assumption) | (intro _; with_reducible assumption) | omega | (simp only [reduceCtorEq, ints_len, bools_len, bif_t, bif_f, zv0, zv1, zv2, zv3, zv4, zv5, zv6, zv7, zv8, zv9, zv10, zv11, zv12, zv13, zv14, zv15, zv16, zv17, zv18, zv19, zv20, zv21, zv22, zv23, zv24] at *; omega) | (intro hg; (try simp only [reduceCtorEq, ints_len, bools_len, bif_t, bif_f, zv0, zv1, zv2, zv3, zv4, zv5, zv6, zv7, zv8, zv9, zv10, zv11, zv12, zv13, zv14, zv15, zv16, zv17, zv18, zv19, zv20, zv21, zv22, zv23, zv24] at hg); first | (with_reducible assumption) | omega | (simp only [reduceCtorEq, ints_len, bools_len, bif_t, bif_f, zv0, zv1, zv2, zv3, zv4, zv5, zv6, zv7, zv8, zv9, zv10, zv11, zv12, zv13, zv14, zv15, zv16, zv17, zv18, zv19, zv20, zv21, zv22, zv23, zv24] at *; omega) | (refine ⟨?_, ?_⟩ <;> omega)) | (refine ⟨?_, ?_⟩ <;> omega) | (simp [*]; done) | grind)); (conv => whnf))
        refine ⟨kids.length - (i + 1), by omega, [], ?_⟩
        conv => whnf
        refine ⟨i + 1, by omega, rfl, ?_⟩
        rw [ht, List.map_append]; rfl
      · have hi' : i = kids.length := by omega
        subst hi'
        rw [List.take_length]
        refine ⟨[], ?_⟩
        conv => whnf
        refine ⟨[], .nil, .nil, ?_⟩
        rw [turnT, if_neg hld]
        refine .cons rfl (.cons rfl (.cons rfl (.cons rfl (.cons rfl (.cons rfl (.cons (.inl ⟨?_, by simp⟩) .nil))))))
        rw [treesC_map (turnTs ext kids)]; rfl
theorem ok24 : ∀ m : Nat, VSound Tryz.prog (24, R24 m)
  | 0 => ok24_0
  | m + 1 => ok24_s m (ok24 m)
def okL (ext : List Int) (L : List Ref) : Bool := L.all fun r => isNum (turnR ext r).base
theorem and_bif (o A B : Bool) : (o && (A && B)) = (bif (o && A) then B else false) := by cases o <;> cases A <;> rfl
theorem okL_app (ext : List Int) (A B : List Ref) : okL ext (A ++ B) = (okL ext A && okL ext B) := List.all_append ..
def R26 (m : Nat) : Ct := fun ss hp r out => ∃ (l : List Int) (t : Tree), ss = [.one (.d (.sl 1 (l.map inC))), .v (.ag (t.c.map .d))] ∧ hp = [] ∧ t.bulk < m ∧ m ≤ 4194305 ∧ (∀ r ∈ t.loads, refOk l r = true) ∧ r = .tup [.ag ((turnT l t).c.map .d), .c (.d (.bool (okL l t.loads)))] ∧ out = []
theorem ok26_0 : VSound Tryz.prog (26, R26 0) := by
  refine .inl ⟨?_, enterB_ok (by kernel_rfl)⟩
  unfold Ok
  intros
  rename_i hR
  obtain ⟨_, t, _, _, h, _⟩ := hR
  omega
set_option maxHeartbeats 4000000 in
theorem ok26_s (m : Nat) (ih : VSound Tryz.prog (26, R26 m)) : VSound Tryz.prog (26, R26 (m + 1)) := by
  refine vsound (T := ty) (F := [(25, R25), (26, R26 m)]) (pl := []) (nw := true) (cuts := []) mix tyOk (.cons (ok25) (.cons (ih) .nil)) Tryz.func26 (by kernel_rfl) (by kernel_rfl) ?_
  rintro _ _ _ _ ⟨ext, ⟨op, kind, n, ⟨ra, rb, rs⟩, kids⟩, rfl, rfl, hm, hm2, hok, rfl, rfl⟩
  rw [Tree.bulk] at hm
  simp only at hm
  have hkl := treesBulk_len kids
  have hkid : ∀ (i : Nat) (x : Tree), kids[i]? = some x → ∀ r ∈ x.loads, refOk ext r = true := fun i x hx r hr => hok r (by
    rw [Tree.loads, List.mem_append]; exact .inl (treesLoads_mem hx hr))
  conv => whnf
  refine And.intro (fun e => ?_) (fun e => ?_) <;> (conv => whnf)
  · have hld : isLoad op = true := e
    (refine ⟨[], false, false, ?_⟩; (conv => whnf); refine ⟨_, _, ⟨ext, ⟨ra, rb, rs⟩, rfl, rfl, hok _ (by rw [Tree.loads, if_pos hld]; simp), rfl, rfl⟩, ?_⟩; (conv => whnf))
    refine ⟨[.cell 2 6], [0, 3, 4, 6, 7, 8], 4, fun n1 σ => ∃ i : Nat, i ≤ kids.length ∧ n1 = kids.length - i ∧ σ = (⟨[.one (.d (.sl 1 (ext.map inC))), .junk, .junk, .one (.ptr 0 0), .one (.ptr 1 0), .junk, .one (.ptr 2 0), .db (isNum (rb + turnB ext rs) && okL ext (treesLoads (kids.take i))), .di .i64 i, .junk, .junk, .junk, .junk, .junk, .junk, .junk, .junk, .junk, .junk, .junk, .junk, .junk, .junk, .junk, .junk, .junk, .junk, .junk, .junk, .junk, .junk, .junk, .junk, .junk, .junk, .junk, .junk, .junk, .junk, .junk, .junk, .junk, .junk, .junk, .junk, .junk, .junk, .junk, .junk, .junk, .junk, .junk, .junk], [.box (List.map .d (Tree.mk op kind n ⟨ra, rb, rs⟩ kids).c), .box [.d (.str ⟨#[]⟩), .d (.int .i64 0), .d (.int .i64 0), .d (.int .i64 0), .d (.int .i64 0), .emp 1, .emp 7], .box [.d (.str op), .d (.int .i64 kind), .d (.int .i64 n), .d (.int .i64 ra), .d (.int .i64 (rb + turnB ext rs)), .d (.sl 1 ((negs rs).map inC)), .own 3], .row 7 ((turnTs ext (kids.take i)).map Tree.c)]⟩ : St), ?_, ?_⟩
    · refine ⟨kids.length, ?_⟩
      conv => whnf
      refine ⟨0, by omega, by omega, ?_⟩
      rw [show okL ext (treesLoads (kids.take 0)) = true from rfl, Bool.and_true]; rfl
    · rintro n1 _ ⟨i, hi, rfl, rfl⟩
      conv => whnf
      rw [show ((treesC kids).length : Int) = kids.length by rw [treesC_map, map_len]]
      ((with_reducible refine And.intro (fun (e : (_ : Bool) = true) => ?_) (fun (e : (_ : Bool) = false) => ?_)) <;> (try simp only [reduceCtorEq, ints_len, bools_len, bif_t, bif_f, zv0, zv1, zv2, zv3, zv4, zv5, zv6, zv7, zv8, zv9, zv10, zv11, zv12, zv13, zv14, zv15, zv16, zv17, zv18, zv19, zv20, zv21, zv22, zv23, zv24] at e) <;> (conv => whnf))
      · have hlt : i < kids.length := by omega
        obtain ⟨x, hget⟩ := get_lt hlt
        have hb := treesBulk_get hget
        have ht := turnTs_take (ext := ext) hget
        have hx := hkid i x hget
        (refine ⟨_, And.intro ⟨by omega, (trees_get hget)⟩ ?_⟩; (conv => whnf))
        obtain ⟨xop, xkind, xn, ⟨xa, xb, xs⟩, xkids⟩ := x
        conv => whnf
        (refine ⟨[], false, false, ?_⟩; (conv => whnf); refine ⟨_, _, ⟨ext, .mk xop xkind xn ⟨xa, xb, xs⟩ xkids, rfl, rfl, by omega, by omega, hx, rfl, rfl⟩, ?_⟩; (conv => whnf))
        refine ⟨by rw [List.length_map, turnTs_map, List.length_map, List.length_take]; simp only [List.length_cons, List.length_nil]; omega, ?_⟩
        conv => whnf
        (repeat ((first | with_reducible refine And.intro (fun h => h) ?_ | with_reducible refine And.intro (fun _ => rfl) ?_ | with_reducible refine And.intro rfl ?_); conv => whnf))
        (refine And.intro ?_ ?_; ((first | (with_reducible assumption) | (intro _; with_reducible assumption) | omega | (simp only [reduceCtorEq, ints_len, bools_len, bif_t, bif_f, zv0, zv1, zv2, zv3, zv4, zv5, zv6, zv7, zv8, zv9, zv10, zv11, zv12, zv13, zv14, zv15, zv16, zv17, zv18, zv19, zv20, zv21, zv22, zv23, zv24] at *; omega) | (intro hg; (try simp only [reduceCtorEq, ints_len, bools_len, bif_t, bif_f, zv0, zv1, zv2, zv3, zv4, zv5, zv6, zv7, zv8, zv9, zv10, zv11, zv12, zv13, zv14, zv15, zv16, zv17, zv18, zv19, zv20, zv21, zv22, zv23, zv24] at hg); first | (with_reducible assumption) | omega | (simp only [reduceCtorEq, ints_len, bools_len, bif_t, bif_f, zv0, zv1, zv2, zv3, zv4, zv5, zv6, zv7, zv8, zv9, zv10, zv11, zv12, zv13, zv14, zv15, zv16, zv17, zv18, zv19, zv20, zv21, zv22, zv23, zv24] at *; omega) | (refine ⟨?_, ?_⟩ <;> omega)) | (refine ⟨?_, ?_⟩ <;> omega) | (simp [*]; done) | grind)); (conv => whnf))
        refine ⟨kids.length - (i + 1), by omega, [], ?_⟩
        conv => whnf
        refine ⟨i + 1, by omega, rfl, ?_⟩
        rw [treesLoads_take hget, okL_app, and_bif, ht, List.map_append]; rfl
      · have hi' : i = kids.length := by omega
        subst hi'
        rw [List.take_length]
        refine ⟨[], ?_⟩
        conv => whnf
        refine ⟨[], .nil, .nil, ?_⟩
        rw [turnT, if_pos hld]
        refine .cons ?_ (.cons ?_ .nil)
        · refine .cons rfl (.cons rfl (.cons rfl (.cons rfl (.cons rfl (.cons rfl (.cons (.inl ⟨?_, by simp⟩) .nil))))))
          rw [treesC_map (turnTs ext kids)]; rfl
        · rw [Tree.loads, if_pos hld, okL_app, Bool.and_comm]; simp [okL, turnR]; rfl
  · have hld : ¬ isLoad op = true := by rw [isLoad, e]; simp
    refine ⟨[.cell 2 6], [0, 3, 4, 6, 7, 8], 4, fun n1 σ => ∃ i : Nat, i ≤ kids.length ∧ n1 = kids.length - i ∧ σ = (⟨[.one (.d (.sl 1 (ext.map inC))), .junk, .junk, .one (.ptr 0 0), .one (.ptr 1 0), .junk, .one (.ptr 2 0), .db (true && okL ext (treesLoads (kids.take i))), .di .i64 i, .junk, .junk, .junk, .junk, .junk, .junk, .junk, .junk, .junk, .junk, .junk, .junk, .junk, .junk, .junk, .junk, .junk, .junk, .junk, .junk, .junk, .junk, .junk, .junk, .junk, .junk, .junk, .junk, .junk, .junk, .junk, .junk, .junk, .junk, .junk, .junk, .junk, .junk, .junk, .junk, .junk, .junk, .junk, .junk], [.box (List.map .d (Tree.mk op kind n ⟨ra, rb, rs⟩ kids).c), .box [.d (.str ⟨#[]⟩), .d (.int .i64 0), .d (.int .i64 0), .d (.int .i64 0), .d (.int .i64 0), .emp 1, .emp 7], .box [.d (.str op), .d (.int .i64 kind), .d (.int .i64 n), .d (.int .i64 ra), .d (.int .i64 rb), .d (.sl 1 (rs.map inC)), .own 3], .row 7 ((turnTs ext (kids.take i)).map Tree.c)]⟩ : St), ?_, ?_⟩
    · refine ⟨kids.length, ?_⟩
      conv => whnf
      refine ⟨0, by omega, by omega, ?_⟩
      rw [show okL ext (treesLoads (kids.take 0)) = true from rfl, Bool.and_true]; rfl
    · rintro n1 _ ⟨i, hi, rfl, rfl⟩
      conv => whnf
      rw [show ((treesC kids).length : Int) = kids.length by rw [treesC_map, map_len]]
      ((with_reducible refine And.intro (fun (e : (_ : Bool) = true) => ?_) (fun (e : (_ : Bool) = false) => ?_)) <;> (try simp only [reduceCtorEq, ints_len, bools_len, bif_t, bif_f, zv0, zv1, zv2, zv3, zv4, zv5, zv6, zv7, zv8, zv9, zv10, zv11, zv12, zv13, zv14, zv15, zv16, zv17, zv18, zv19, zv20, zv21, zv22, zv23, zv24] at e) <;> (conv => whnf))
      · have hlt : i < kids.length := by omega
        obtain ⟨x, hget⟩ := get_lt hlt
        have hb := treesBulk_get hget
        have ht := turnTs_take (ext := ext) hget
        have hx := hkid i x hget
        (refine ⟨_, And.intro ⟨by omega, (trees_get hget)⟩ ?_⟩; (conv => whnf))
        obtain ⟨xop, xkind, xn, ⟨xa, xb, xs⟩, xkids⟩ := x
        conv => whnf
        (refine ⟨[], false, false, ?_⟩; (conv => whnf); refine ⟨_, _, ⟨ext, .mk xop xkind xn ⟨xa, xb, xs⟩ xkids, rfl, rfl, by omega, by omega, hx, rfl, rfl⟩, ?_⟩; (conv => whnf))
        refine ⟨by rw [List.length_map, turnTs_map, List.length_map, List.length_take]; simp only [List.length_cons, List.length_nil]; omega, ?_⟩
        conv => whnf
        (repeat ((first | with_reducible refine And.intro (fun h => h) ?_ | with_reducible refine And.intro (fun _ => rfl) ?_ | with_reducible refine And.intro rfl ?_); conv => whnf))
        (refine And.intro ?_ ?_; ((first | (with_reducible assumption) | (intro _; with_reducible assumption) | omega | (simp only [reduceCtorEq, ints_len, bools_len, bif_t, bif_f, zv0, zv1, zv2, zv3, zv4, zv5, zv6, zv7, zv8, zv9, zv10, zv11, zv12, zv13, zv14, zv15, zv16, zv17, zv18, zv19, zv20, zv21, zv22, zv23, zv24] at *; omega) | (intro hg; (try simp only [reduceCtorEq, ints_len, bools_len, bif_t, bif_f, zv0, zv1, zv2, zv3, zv4, zv5, zv6, zv7, zv8, zv9, zv10, zv11, zv12, zv13, zv14, zv15, zv16, zv17, zv18, zv19, zv20, zv21, zv22, zv23, zv24] at hg); first | (with_reducible assumption) | omega | (simp only [reduceCtorEq, ints_len, bools_len, bif_t, bif_f, zv0, zv1, zv2, zv3, zv4, zv5, zv6, zv7, zv8, zv9, zv10, zv11, zv12, zv13, zv14, zv15, zv16, zv17, zv18, zv19, zv20, zv21, zv22, zv23, zv24] at *; omega) | (refine ⟨?_, ?_⟩ <;> omega)) | (refine ⟨?_, ?_⟩ <;> omega) | (simp [*]; done) | grind)); (conv => whnf))
        refine ⟨kids.length - (i + 1), by omega, [], ?_⟩
        conv => whnf
        refine ⟨i + 1, by omega, rfl, ?_⟩
        rw [treesLoads_take hget, okL_app, and_bif, ht, List.map_append]; rfl
      · have hi' : i = kids.length := by omega
        subst hi'
        rw [List.take_length]
        refine ⟨[], ?_⟩
        conv => whnf
        refine ⟨[], .nil, .nil, ?_⟩
        rw [turnT, if_neg hld]
        refine .cons ?_ (.cons ?_ .nil)
        · refine .cons rfl (.cons rfl (.cons rfl (.cons rfl (.cons rfl (.cons rfl (.cons (.inl ⟨?_, by simp⟩) .nil))))))
          rw [treesC_map (turnTs ext kids)]; rfl
        · rw [Tree.loads, if_neg hld, okL_app, Bool.and_comm]; rfl
theorem ok26 : ∀ m : Nat, VSound Tryz.prog (26, R26 m)
  | 0 => ok26_0
  | m + 1 => ok26_s m (ok26 m)
end Go.Proofs.YtahdihhhankhdaaGreat.V
-- Zh
namespace Go.Proofs.YtahdihhhankhdaaGreat.V
open Go.Proofs.YtahdihhhankhdaaGreatVY Go.RowKit
def turnS (ext : List Int) (s : ASet) : ASet := ⟨turnR ext s.to, turnTs ext s.mask, turnT ext s.val⟩
def turnK (k : Kern) : Kern := ⟨k.ext, k.sets.map (turnS k.ext)⟩
def revOk (k : Kern) : Bool := formed k && formed (turnK k)
def revK (k : Kern) : Kern := if revOk k = true then turnK k else ⟨[], []⟩
def revErr (k : Kern) : Int := if revOk k = true then 0 else 2
mutual
theorem turnT_bulk (ext : List Int) : ∀ t : Tree, (turnT ext t).bulk = t.bulk
  | .mk op kind n ref kids => by
    rw [turnT, Tree.bulk, Tree.bulk, turnTs_bulk ext kids]
    split
    · simp [turnR, negs]
    · rfl
theorem turnTs_bulk (ext : List Int) : ∀ l : List Tree, treesBulk (turnTs ext l) = treesBulk l
  | [] => rfl
  | t :: l => by rw [turnTs, treesBulk, treesBulk, turnT_bulk ext t, turnTs_bulk ext l]
end
theorem turnS_bulk (ext : List Int) (s : ASet) : (turnS ext s).bulk = s.bulk := by
  rw [ASet.bulk, ASet.bulk, turnS]; simp only [turnT_bulk, turnTs_bulk]; simp [turnR, negs]
theorem turnK_bulk (k : Kern) : (turnK k).bulk = k.bulk := by
  rw [Kern.bulk, Kern.bulk, turnK]
  simp only
  congr 1
  induction k.sets with
  | nil => rfl
  | cons s l ih => rw [List.map_cons, setsBulk, setsBulk, turnS_bulk, ih]
theorem formed_refs {ext : List Int} {sets : List ASet} (h : formed ⟨ext, sets⟩ = true) {i : Nat} {s : ASet} (hs : sets[i]? = some s) : refOk ext s.to = true ∧ (∀ r ∈ treesLoads s.mask, refOk ext r = true) ∧ (∀ r ∈ s.val.loads, refOk ext r = true) := by
  have := ((formed_iff _).1 h).2 s (List.mem_of_getElem? hs)
  refine ⟨this _ (by simp), fun r hr => this r ?_, fun r hr => this r ?_⟩
  · rw [ASet.loads]; simp [hr]
  · rw [ASet.loads]; simp [hr]
def R8 : Ct := fun ss hp r out => ∃ k : Kern, ss = [.v (.ag (k.c.map .d))] ∧ hp = [] ∧ k.bulk ≤ 4194304 ∧ r = .tup [.ag ((revK k).c.map .d), .c (.d (.int .i64 (revErr k)))] ∧ out = []
set_option maxHeartbeats 4000000 in
theorem ok8 : VSound Tryz.prog (8, R8) := by
  refine vsound (T := ty) (F := [(17, R17), (22, R22), (23, R23), (24, R24 4194305)]) (pl := [(7, [[], [0], [], [2], [0, 1, 2, 3], [], [5], [], [7], [0, 1, 2, 3, 4, 5, 6, 7, 8], [0, 1, 2, 3, 4, 5, 6, 7, 8, 9], [], [0, 1, 2, 3, 4, 5, 6, 7, 8, 9, 10, 11]], .look 0 (.look 1 (.look 2 (.look 3 (.look 5 (.look 6 (.look 7 (.look 8 (.act 4 [5, 6, 7, 8] (.act 9 [] (.look 10 (.act 11 [0, 1, 2, 3, 5, 6, 7, 8, 10] (.act 12 [] .done .stop) .stop)) (.act 11 [0, 1, 2, 3, 5, 6, 7, 8] (.act 9 [] (.look 10 (.act 12 [] .done .stop)) .stop) .stop)) (.act 11 [0, 1, 2, 3, 5, 6, 7, 8] (.act 4 [5, 6, 7, 8] (.act 9 [] (.look 10 (.act 12 [] .done .stop)) .stop) .stop) .stop)))))))))), (11, [[], [0], [], [2], [], [2, 3, 4], [2, 3, 4, 5], [0, 1, 2, 3, 4, 5, 6], [0, 1, 2, 3, 4, 5, 6, 7], [0, 1, 2, 3, 4, 5, 6, 7, 8]], .look 0 (.look 1 (.look 2 (.look 3 (.look 4 (.act 5 [0, 1] (.act 6 [0, 1] (.act 7 [] (.look 8 (.act 9 [] .done .stop)) .stop) .stop) .stop))))))]) (nw := true) (cuts := []) mix tyOk (.cons (ok17) (.cons (ok22) (.cons (ok23) (.cons (ok24 4194305) .nil)))) Tryz.func8 (by kernel_rfl) (by kernel_rfl) ?_
  rintro _ _ _ _ ⟨⟨ext, sets⟩, rfl, rfl, hm, rfl, rfl⟩
  have hmm := hm
  simp only [Kern.bulk] at hm
  have hkl := setsBulk_len sets
  conv => whnf
  (refine ⟨[], false, false, ?_⟩; (conv => whnf); refine ⟨_, _, ⟨⟨ext, sets⟩, rfl, rfl, hmm, rfl, rfl⟩, ?_⟩; (conv => whnf))
  cases hf : formed ⟨ext, sets⟩ with
  | false =>
    have hr : revOk ⟨ext, sets⟩ = false := by rw [revOk, hf]; rfl
    rw [revK, revErr, hr]
    refine ⟨fun _ => ?_, fun h => absurd h (by decide)⟩
    conv => whnf
    (refine ⟨[], ?_⟩; (conv => whnf); refine ⟨[], .nil, .nil, ?_⟩)
    exact .cons (.cons ⟨rfl, rfl⟩ (.cons ⟨rfl, rfl⟩ .nil)) (.cons rfl .nil)
  | true =>
    refine ⟨fun h => absurd h (by decide), fun _ => ?_⟩
    conv => whnf
    (refine ⟨[], false, false, ?_⟩; (conv => whnf); refine ⟨_, _, ⟨ext, rfl, rfl, by omega, rfl, rfl⟩, ?_⟩; (conv => whnf))
    refine ⟨[.cell 3 1], [1, 2, 4, 19, 20, 21], 5, fun n1 σ => ∃ i : Nat, i ≤ sets.length ∧ n1 = sets.length - i ∧ σ = (⟨[.junk, .one (.ptr 0 0), .one (.ptr 1 0), .junk, .one (.ptr 3 0), .junk, .junk, .junk, .junk, .junk, .junk, .junk, .junk, .junk, .junk, .junk, .junk, .junk, .junk, .one (.d (.sl 11 (sets.map ASet.c))), .di .i64 sets.length, .di .i64 i, .junk, .junk, .junk, .junk, .junk, .junk, .junk, .junk, .junk, .junk, .junk, .junk, .junk, .junk, .junk, .junk, .junk, .junk, .junk, .junk, .junk, .junk, .junk, .junk, .junk, .junk, .junk, .junk, .junk, .junk, .junk, .junk, .junk, .junk, .junk, .junk, .junk, .junk, .junk, .junk, .junk, .junk, .junk], [.box (List.map .d (Kern.mk ext sets).c), .box [.emp 1, .emp 11], .row 1 (ext.map inC), .box [.own 2, .own 4], .row 11 (((sets.take i).map (turnS ext)).map ASet.c)]⟩ : St), ?_, ?_⟩
    · refine ⟨sets.length, ?_⟩
      conv => whnf
      refine ⟨0, by omega, by omega, ?_⟩
      rw [map_len]; rfl
    · rintro n1 _ ⟨i, hi, rfl, rfl⟩
      conv => whnf
      ((with_reducible refine And.intro (fun (e : (_ : Bool) = true) => ?_) (fun (e : (_ : Bool) = false) => ?_)) <;> (try simp only [reduceCtorEq, ints_len, bools_len, bif_t, bif_f, zv0, zv1, zv2, zv3, zv4, zv5, zv6, zv7, zv8, zv9, zv10, zv11, zv12, zv13, zv14, zv15, zv16, zv17, zv18, zv19, zv20, zv21, zv22, zv23, zv24] at e) <;> (conv => whnf))
      · have hlt : i < sets.length := by omega
        obtain ⟨x, hget⟩ := get_lt hlt
        have hb := setsBulk_get hget
        have ht := take_snoc hget
        obtain ⟨ok1, ok2, ok3⟩ := formed_refs hf hget
        (refine ⟨_, And.intro ⟨by omega, enc_get hget⟩ ?_⟩; (conv => whnf))
        obtain ⟨⟨xa, xb, xs⟩, mask, ⟨op, kind, n, ⟨ra, rb, rs⟩, kids⟩⟩ := x
        simp only [ASet.bulk] at hb
        have hkl := treesBulk_len mask
        conv => whnf
        have hmk : ∀ (j : Nat) (y : Tree), mask[j]? = some y → ∀ r ∈ y.loads, refOk ext r = true := fun j y hy r hr => ok2 r (treesLoads_mem hy hr)
        repeat' (first | (refine And.intro ?_ ?_ <;> (conv => whnf)) | (refine ⟨[], false, false, ?_⟩; (conv => whnf); refine ⟨_, _, ⟨ext, ⟨xa, xb, xs⟩, rfl, rfl, ok1, rfl, rfl⟩, ?_⟩; (conv => whnf)) | (refine ⟨[], false, false, ?_⟩; (conv => whnf); refine ⟨_, _, ⟨ext, .mk op kind n ⟨ra, rb, rs⟩ kids, rfl, rfl, by omega, by omega, ok3, rfl, rfl⟩, ?_⟩; (conv => whnf)))
        all_goals
          refine ⟨[.cell 6 3], [1, 2, 4, 6, 7, 19, 20, 21, 37, 38, 39], 8, fun n2 σ => ∃ j : Nat, j ≤ mask.length ∧ n2 = mask.length - j ∧ σ = (⟨[.junk, .one (.ptr 0 0), .one (.ptr 1 0), .junk, .one (.ptr 3 0), .junk, .one (.ptr 5 0), .one (.ptr 6 0), .junk, .junk, .junk, .junk, .junk, .junk, .junk, .junk, .junk, .junk, .junk, .one (.d (.sl 11 (sets.map ASet.c))), .di .i64 sets.length, .di .i64 i, .junk, .junk, .junk, .junk, .junk, .junk, .junk, .junk, .junk, .junk, .junk, .junk, .junk, .junk, .junk, .one (.d (.sl 7 (mask.map Tree.c))), .di .i64 mask.length, .di .i64 j, .junk, .junk, .junk, .junk, .junk, .junk, .junk, .junk, .junk, .junk, .junk, .junk, .junk, .junk, .junk, .junk, .junk, .junk, .junk, .junk, .junk, .junk, .junk, .junk, .junk], [.box (List.map .d (Kern.mk ext sets).c), .box [.emp 1, .emp 11], .row 1 (ext.map inC), .box [.own 2, .own 4], .row 11 (((sets.take i).map (turnS ext)).map ASet.c), .box (List.map .d (ASet.mk ⟨xa, xb, xs⟩ mask (.mk op kind n ⟨ra, rb, rs⟩ kids)).c), .box [.d (.int .i64 xa), .d (.int .i64 (xb + turnB ext xs)), .d (.sl 1 ((negs xs).map inC)), .own 7, .d (.str op), .d (.int .i64 kind), .d (.int .i64 n), .d (.int .i64 (if isLoad op = true then turnR ext ⟨ra, rb, rs⟩ else ⟨ra, rb, rs⟩).arr), .d (.int .i64 (if isLoad op = true then turnR ext ⟨ra, rb, rs⟩ else ⟨ra, rb, rs⟩).base), .d (.sl 1 ((if isLoad op = true then turnR ext ⟨ra, rb, rs⟩ else ⟨ra, rb, rs⟩).str.map inC)), .d (.sl 7 (treesC (turnTs ext kids)))], .row 7 ((turnTs ext (mask.take j)).map Tree.c)]⟩ : St), ?_, ?_⟩
          · refine ⟨mask.length, ?_⟩
            conv => whnf
            refine ⟨0, by omega, by omega, ?_⟩
            rw [map_len]; rfl
          · rintro n2 _ ⟨j, hj, rfl, rfl⟩
            conv => whnf
            ((with_reducible refine And.intro (fun (e : (_ : Bool) = true) => ?_) (fun (e : (_ : Bool) = false) => ?_)) <;> (try simp only [reduceCtorEq, ints_len, bools_len, bif_t, bif_f, zv0, zv1, zv2, zv3, zv4, zv5, zv6, zv7, zv8, zv9, zv10, zv11, zv12, zv13, zv14, zv15, zv16, zv17, zv18, zv19, zv20, zv21, zv22, zv23, zv24] at e) <;> (conv => whnf))
            · have hlt2 : j < mask.length := by omega
              obtain ⟨y, hgy⟩ := get_lt hlt2
              have hb2 := treesBulk_get hgy
              have ht2 := turnTs_take (ext := ext) hgy
              have hy := hmk j y hgy
              (refine ⟨_, And.intro ⟨by omega, enc_get hgy⟩ ?_⟩; (conv => whnf))
              obtain ⟨yop, ykind, yn, ⟨ya, yb, ys⟩, ykids⟩ := y
              conv => whnf
              (refine ⟨[], false, false, ?_⟩; (conv => whnf); refine ⟨_, _, ⟨ext, .mk yop ykind yn ⟨ya, yb, ys⟩ ykids, rfl, rfl, by omega, by omega, hy, rfl, rfl⟩, ?_⟩; (conv => whnf))
              refine ⟨by rw [List.length_map, turnTs_map, List.length_map, List.length_take]; simp only [List.length_cons, List.length_nil]; omega, ?_⟩
              conv => whnf
              (refine And.intro ?_ ?_; ((first | (with_reducible assumption) | (intro _; with_reducible assumption) | omega | (simp only [reduceCtorEq, ints_len, bools_len, bif_t, bif_f, zv0, zv1, zv2, zv3, zv4, zv5, zv6, zv7, zv8, zv9, zv10, zv11, zv12, zv13, zv14, zv15, zv16, zv17, zv18, zv19, zv20, zv21, zv22, zv23, zv24] at *; omega) | (intro hg; (try simp only [reduceCtorEq, ints_len, bools_len, bif_t, bif_f, zv0, zv1, zv2, zv3, zv4, zv5, zv6, zv7, zv8, zv9, zv10, zv11, zv12, zv13, zv14, zv15, zv16, zv17, zv18, zv19, zv20, zv21, zv22, zv23, zv24] at hg); first | (with_reducible assumption) | omega | (simp only [reduceCtorEq, ints_len, bools_len, bif_t, bif_f, zv0, zv1, zv2, zv3, zv4, zv5, zv6, zv7, zv8, zv9, zv10, zv11, zv12, zv13, zv14, zv15, zv16, zv17, zv18, zv19, zv20, zv21, zv22, zv23, zv24] at *; omega) | (refine ⟨?_, ?_⟩ <;> omega)) | (refine ⟨?_, ?_⟩ <;> omega) | (simp [*]; done) | grind)); (conv => whnf))
              refine ⟨mask.length - (j + 1), by omega, [], ?_⟩
              conv => whnf
              refine ⟨j + 1, by omega, rfl, ?_⟩
              rw [ht2, List.map_append]; rfl
            · have hj' : j = mask.length := by omega
              subst hj'
              rw [List.take_length]
              refine ⟨by rw [List.length_map, List.length_map, List.length_take]; simp only [List.length_cons, List.length_nil]; omega, ?_⟩
              conv => whnf
              (refine And.intro ?_ ?_; ((first | (with_reducible assumption) | (intro _; with_reducible assumption) | omega | (simp only [reduceCtorEq, ints_len, bools_len, bif_t, bif_f, zv0, zv1, zv2, zv3, zv4, zv5, zv6, zv7, zv8, zv9, zv10, zv11, zv12, zv13, zv14, zv15, zv16, zv17, zv18, zv19, zv20, zv21, zv22, zv23, zv24] at *; omega) | (intro hg; (try simp only [reduceCtorEq, ints_len, bools_len, bif_t, bif_f, zv0, zv1, zv2, zv3, zv4, zv5, zv6, zv7, zv8, zv9, zv10, zv11, zv12, zv13, zv14, zv15, zv16, zv17, zv18, zv19, zv20, zv21, zv22, zv23, zv24] at hg); first | (with_reducible assumption) | omega | (simp only [reduceCtorEq, ints_len, bools_len, bif_t, bif_f, zv0, zv1, zv2, zv3, zv4, zv5, zv6, zv7, zv8, zv9, zv10, zv11, zv12, zv13, zv14, zv15, zv16, zv17, zv18, zv19, zv20, zv21, zv22, zv23, zv24] at *; omega) | (refine ⟨?_, ?_⟩ <;> omega)) | (refine ⟨?_, ?_⟩ <;> omega) | (simp [*]; done) | grind)); (conv => whnf))
              refine ⟨sets.length - (i + 1), by omega, [], ?_⟩
              conv => whnf
              refine ⟨i + 1, by omega, rfl, ?_⟩
              rw [ht, List.map_append, List.map_append]; rfl
      · have hi' : i = sets.length := by omega
        subst hi'
        rw [List.take_length]
        (refine ⟨[], false, false, ?_⟩; (conv => whnf); refine ⟨_, _, ⟨turnK ⟨ext, sets⟩, rfl, rfl, by rw [turnK_bulk]; exact hmm, rfl, rfl⟩, ?_⟩; (conv => whnf))
        have hr : revOk ⟨ext, sets⟩ = formed (turnK ⟨ext, sets⟩) := by rw [revOk, hf]; rfl
        rw [revK, revErr, hr]
        cases hf2 : formed (turnK ⟨ext, sets⟩) with
        | false =>
          refine ⟨fun _ => ?_, fun h => absurd h (by decide)⟩
          conv => whnf
          (refine ⟨[], ?_⟩; (conv => whnf); refine ⟨[], .nil, .nil, ?_⟩)
          exact .cons (.cons ⟨rfl, rfl⟩ (.cons ⟨rfl, rfl⟩ .nil)) (.cons rfl .nil)
        | true =>
          refine ⟨fun h => absurd h (by decide), fun _ => ?_⟩
          conv => whnf
          (refine ⟨[], ?_⟩; (conv => whnf); refine ⟨[], .nil, .nil, ?_⟩)
          exact .cons (.cons (.inl ⟨rfl, by simp⟩) (.cons (.inl ⟨rfl, by simp⟩) .nil)) (.cons rfl .nil)
end Go.Proofs.YtahdihhhankhdaaGreat.V
-- Zi
namespace Go.Proofs.YtahdihhhankhdaaGreat.V
open Go.Proofs.YtahdihhhankhdaaGreatVY Go.RowKit
theorem turnR_str (ext : List Int) (x : Ref) : (turnR ext x).str.length = x.str.length := by simp [turnR, negs]
theorem turnR_ok {ext : List Int} {x : Ref} (h : refOk ext x = true) : refOk ext (turnR ext x) = isNum (turnR ext x).base := by
  obtain ⟨h1, h2, h3, h4⟩ := refOk_iff.1 h
  refine Bool.eq_iff_iff.2 ⟨fun hh => (refOk_iff.1 hh).2.2.1, fun hh => refOk_iff.2 ⟨h1, by rw [turnR_str, h2], hh, fun s hs => ?_⟩⟩
  simp only [turnR, negs, List.mem_map] at hs
  obtain ⟨t, ht, rfl⟩ := hs
  have := isNum_iff.1 (h4 t ht)
  exact isNum_iff.2 ⟨by omega, by omega⟩
mutual
theorem turnT_loads (ext : List Int) : ∀ t : Tree, (turnT ext t).loads = t.loads.map (turnR ext)
  | .mk op kind n ref kids => by
    rw [turnT, Tree.loads, Tree.loads, List.map_append, turnTs_loads ext kids]
    congr 1
    split <;> rfl
theorem turnTs_loads (ext : List Int) : ∀ l : List Tree, treesLoads (turnTs ext l) = (treesLoads l).map (turnR ext)
  | [] => rfl
  | t :: l => by rw [turnTs, treesLoads, treesLoads, List.map_append, turnT_loads ext t, turnTs_loads ext l]
end
theorem turnS_loads (ext : List Int) (s : ASet) : (turnS ext s).loads = s.loads.map (turnR ext) := by
  rw [ASet.loads, ASet.loads, List.map_append, turnS, turnTs_loads, turnT_loads]
/-- are all bases of a Set, turned, in range? -/
def setOk (ext : List Int) (s : ASet) : Bool := isNum (turnR ext s.to).base && okL ext (treesLoads s.mask) && okL ext s.val.loads
def setsOk (ext : List Int) (l : List ASet) : Bool := l.all (setOk ext)
theorem okL_iff {ext : List Int} {L : List Ref} : okL ext L = true ↔ ∀ r ∈ L, isNum (turnR ext r).base = true := List.all_eq_true
theorem turned_ok {ext : List Int} {sets : List ASet} (hf : formed ⟨ext, sets⟩ = true) : formed (turnK ⟨ext, sets⟩) = setsOk ext sets := by
  have hF := (formed_iff _).1 hf
  refine Bool.eq_iff_iff.2 ⟨fun h => ?_, fun h => ?_⟩
  · have hG := (formed_iff _).1 h
    refine List.all_eq_true.2 fun s hs => ?_
    have hs1 := hF.2 s hs
    have hg := hG.2 (turnS ext s) (List.mem_map.2 ⟨s, hs, rfl⟩)
    rw [turnS_loads] at hg
    have key : ∀ r ∈ s.loads ++ [s.to], isNum (turnR ext r).base = true := fun r hr => by
      rw [← turnR_ok (hs1 r hr)]
      refine hg _ ?_
      rcases List.mem_append.1 hr with h | h
      · exact List.mem_append_left _ (List.mem_map.2 ⟨r, h, rfl⟩)
      · simp at h; subst h; exact List.mem_append_right _ (by simp [turnS])
    unfold setOk
    rw [Bool.and_eq_true, Bool.and_eq_true]
    refine ⟨⟨key _ (by simp), okL_iff.2 fun r hr => key r ?_⟩, okL_iff.2 fun r hr => key r ?_⟩
    · rw [ASet.loads]; simp [hr]
    · rw [ASet.loads]; simp [hr]
  · refine (formed_iff _).2 ⟨hF.1, fun s' hs' r' hr' => ?_⟩
    obtain ⟨s, hs, rfl⟩ := List.mem_map.1 hs'
    have hs1 := hF.2 s hs
    have hok := List.all_eq_true.1 h s hs
    unfold setOk at hok
    rw [Bool.and_eq_true, Bool.and_eq_true] at hok
    rw [turnS_loads] at hr'
    rcases List.mem_append.1 hr' with h | h
    · obtain ⟨r, hr, rfl⟩ := List.mem_map.1 h
      rw [show (turnK ⟨ext, sets⟩).ext = ext from rfl, turnR_ok (hs1 r (List.mem_append_left _ hr))]
      rw [ASet.loads, List.mem_append] at hr
      rcases hr with hr | hr
      · exact okL_iff.1 hok.1.2 r hr
      · exact okL_iff.1 hok.2 r hr
    · simp [turnS] at h; subst h
      rw [show (turnK ⟨ext, sets⟩).ext = ext from rfl, turnR_ok (hs1 _ (by simp))]
      exact hok.1.1
theorem setsOk_take {ext : List Int} {l : List ASet} {i : Nat} {x : ASet} (h : l[i]? = some x) : setsOk ext (l.take (i + 1)) = (setsOk ext (l.take i) && setOk ext x) := by
  unfold setsOk; rw [take_snoc h, List.all_append]; simp
theorem flag_end (Q O M V : Bool) : (Q && ((O && M) && V)) = (bif ((bif Q then O else false) && M) then V else false) := by cases Q <;> cases O <;> cases M <;> rfl
def R9 : Ct := fun ss hp r out => ∃ k : Kern, ss = [.v (.ag (k.c.map .d))] ∧ hp = [] ∧ k.bulk ≤ 4194304 ∧ r = .tup [.ag ((revK k).c.map .d), .c (.d (.int .i64 (revErr k)))] ∧ out = []
set_option maxHeartbeats 4000000 in
theorem ok9 : VSound Tryz.prog (9, R9) := by
  refine vsound (T := ty) (F := [(19, R19), (25, R25), (26, R26 4194305)]) (pl := [(10, [[], [0], [], [2], [], [2, 3, 4], [2, 3, 4, 5], [2, 3, 4, 5, 6], [0, 1, 2, 3, 4, 5, 6, 7], [0, 1, 2, 3, 4, 5, 6, 7, 8], [0, 1, 2, 3, 4, 5, 6, 7, 8, 9], [0, 1, 2, 3, 4, 5, 6, 7, 8, 9], [0, 1, 2, 3, 4, 5, 6, 7, 8, 9, 10], [0, 1, 2, 3, 4, 5, 6, 7, 8, 9, 10, 12], [0, 1, 2, 3, 4, 5, 6, 7, 8, 9, 10, 11, 12, 13]], .look 0 (.look 1 (.look 2 (.look 3 (.look 4 (.look 5 (.look 6 (.look 7 (.act 8 [] (.look 9 (.look 10 (.look 11 (.look 12 (.act 13 [11] (.look 14 .done) .stop))))) .stop))))))))), (15, [[], [0], [], [2], [], [2, 3, 4], [2, 3, 4, 5], [2, 3, 4, 5, 6], [], [2, 3, 4, 5, 6, 7, 8], [2, 3, 4, 5, 6, 7, 8, 9], [0, 1, 2, 3, 4, 5, 6, 7, 8, 9, 10], [0, 1, 2, 3, 4, 5, 6, 7, 8, 9, 10, 11], [0, 1, 2, 3, 4, 5, 6, 7, 8, 9, 10, 11, 12], [0, 1, 2, 3, 4, 5, 6, 7, 8, 9, 10, 11, 12], [], [0, 1, 2, 3, 4, 5, 6, 7, 8, 9, 10, 11, 12, 13, 15], [0, 1, 2, 3, 4, 5, 6, 7, 8, 9, 10, 11, 12, 13, 14, 15, 16]], .look 0 (.look 1 (.look 2 (.look 3 (.look 4 (.look 5 (.look 6 (.look 7 (.look 8 (.look 9 (.look 10 (.act 11 [] (.look 12 (.look 13 (.look 14 (.act 15 [0, 1, 2, 3, 4, 5, 6, 7, 8, 9, 10, 12, 13, 14] (.act 16 [14] (.look 17 .done) .stop) .stop)))) (.act 15 [0, 1, 2, 3, 4, 5, 6, 7, 8, 9, 10] (.act 11 [] (.look 12 (.look 13 (.look 14 (.act 16 [14] (.look 17 .done) .stop)))) .stop) .stop))))))))))))), (17, [[], [0], [], [2], [], [2, 3, 4], [2, 3, 4, 5], [2, 3, 4, 5, 6], [0, 1, 2, 3, 4, 5, 6, 7], [0, 1, 2, 3, 4, 5, 6, 7, 8], [0, 1, 2, 3, 4, 5, 6, 7, 8, 9], [0, 1, 2, 3, 4, 5, 6, 7, 8, 9], [0, 1, 2, 3, 4, 5, 6, 7, 8, 9, 10], [0, 1, 2, 3, 4, 5, 6, 7, 8, 9, 10, 12], [0, 1, 2, 3, 4, 5, 6, 7, 8, 9, 10, 11, 12, 13]], .look 0 (.look 1 (.look 2 (.look 3 (.look 4 (.look 5 (.look 6 (.look 7 (.act 8 [] (.look 9 (.look 10 (.look 11 (.look 12 (.act 13 [11] (.look 14 .done) .stop))))) .stop)))))))))]) (nw := true) (cuts := []) mix tyOk (.cons (ok19) (.cons (ok25) (.cons (ok26 4194305) .nil))) Tryz.func9 (by kernel_rfl) (by kernel_rfl) ?_
  rintro _ _ _ _ ⟨⟨ext, sets⟩, rfl, rfl, hm, rfl, rfl⟩
  have hmm := hm
  simp only [Kern.bulk] at hm
  have hkl := setsBulk_len sets
  conv => whnf
  (refine ⟨[], false, false, ?_⟩; (conv => whnf); refine ⟨_, _, ⟨⟨ext, sets⟩, rfl, rfl, hmm, rfl, rfl⟩, ?_⟩; (conv => whnf))
  cases hf : formed ⟨ext, sets⟩ with
  | false =>
    have hr : revOk ⟨ext, sets⟩ = false := by rw [revOk, hf]; rfl
    rw [revK, revErr, hr]
    refine ⟨fun _ => ?_, fun h => absurd h (by decide)⟩
    conv => whnf
    (refine ⟨[], ?_⟩; (conv => whnf); refine ⟨[], .nil, .nil, ?_⟩)
    exact .cons (.cons ⟨rfl, rfl⟩ (.cons ⟨rfl, rfl⟩ .nil)) (.cons rfl .nil)
  | true =>
    refine ⟨fun h => absurd h (by decide), fun _ => ?_⟩
    conv => whnf
    refine ⟨by rw [ints_len]; simp only [List.length_nil]; omega, ?_⟩
    conv => whnf
    refine ⟨[.cell 3 1], [1, 2, 4, 5, 6], 5, fun n1 σ => ∃ i : Nat, i ≤ sets.length ∧ n1 = sets.length - i ∧ σ = (⟨[.junk, .one (.ptr 0 0), .one (.ptr 1 0), .junk, .one (.ptr 3 0), .db (setsOk ext (sets.take i)), .di .i64 i, .junk, .junk, .junk, .junk, .junk, .junk, .junk, .junk, .junk, .junk, .junk, .junk, .junk, .junk, .junk, .junk, .junk, .junk, .junk, .junk, .junk, .junk, .junk, .junk, .junk, .junk, .junk, .junk, .junk, .junk, .junk, .junk, .junk, .junk, .junk, .junk, .junk, .junk, .junk, .junk, .junk, .junk, .junk, .junk, .junk, .junk, .junk, .junk, .junk, .junk, .junk, .junk, .junk, .junk, .junk, .junk, .junk, .junk, .junk, .junk, .junk, .junk, .junk, .junk, .junk, .junk, .junk, .junk, .junk, .junk, .junk, .junk, .junk, .junk, .junk, .junk, .junk, .junk, .junk, .junk, .junk, .junk, .junk, .junk, .junk, .junk, .junk, .junk, .junk, .junk, .junk, .junk, .junk, .junk, .junk, .junk, .junk, .junk, .junk, .junk, .junk], [.box (List.map .d (Kern.mk ext sets).c), .box [.emp 1, .emp 11], .row 1 (ext.map inC), .box [.own 2, .own 4], .row 11 (((sets.take i).map (turnS ext)).map ASet.c)]⟩ : St), ?_, ?_⟩
    · refine ⟨sets.length, ?_⟩
      conv => whnf
      exact ⟨0, by omega, by omega, rfl⟩
    · rintro n1 _ ⟨i, hi, rfl, rfl⟩
      conv => whnf
      ((with_reducible refine And.intro (fun (e : (_ : Bool) = true) => ?_) (fun (e : (_ : Bool) = false) => ?_)) <;> (try simp only [reduceCtorEq, ints_len, bools_len, bif_t, bif_f, zv0, zv1, zv2, zv3, zv4, zv5, zv6, zv7, zv8, zv9, zv10, zv11, zv12, zv13, zv14, zv15, zv16, zv17, zv18, zv19, zv20, zv21, zv22, zv23, zv24] at e) <;> (conv => whnf))
      · have hlt : i < sets.length := by omega
        obtain ⟨x, hget⟩ := get_lt hlt
        have hb := setsBulk_get hget
        have ht := take_snoc hget
        have hso := setsOk_take (ext := ext) hget
        obtain ⟨ok1, ok2, ok3⟩ := formed_refs hf hget
        obtain ⟨⟨xa, xb, xs⟩, mask, ⟨op, kind, n, ⟨ra, rb, rs⟩, kids⟩⟩ := x
        simp only [ASet.bulk] at hb
        have hkl := treesBulk_len mask
        have hmk : ∀ (j : Nat) (y : Tree), mask[j]? = some y → ∀ r ∈ y.loads, refOk ext r = true := fun j y hy r hr => ok2 r (treesLoads_mem hy hr)
        (refine ⟨_, And.intro ⟨by omega, enc_get hget⟩ ?_⟩; (conv => whnf))
        (refine ⟨[], false, false, ?_⟩; (conv => whnf); refine ⟨_, _, ⟨ext, ⟨xa, xb, xs⟩, rfl, rfl, ok1, rfl, rfl⟩, ?_⟩; (conv => whnf))
        (repeat ((first | with_reducible refine And.intro (fun h => h) ?_ | with_reducible refine And.intro (fun _ => rfl) ?_ | with_reducible refine And.intro rfl ?_); conv => whnf))
        refine ⟨[.cell 5 3], [1, 2, 4, 5, 6, 7, 9], 7, fun n2 σ => ∃ j : Nat, j ≤ mask.length ∧ n2 = mask.length - j ∧ σ = (⟨[.junk, .one (.ptr 0 0), .one (.ptr 1 0), .junk, .one (.ptr 3 0), .db ((bif setsOk ext (sets.take i) then isNum (turnR ext ⟨xa, xb, xs⟩).base else false) && okL ext (treesLoads (mask.take j))), .di .i64 i, .one (.ptr 5 0), .junk, .di .i64 j, .junk, .junk, .junk, .junk, .junk, .junk, .junk, .junk, .junk, .junk, .junk, .junk, .junk, .junk, .junk, .junk, .junk, .junk, .junk, .junk, .junk, .junk, .junk, .junk, .junk, .junk, .junk, .junk, .junk, .junk, .junk, .junk, .junk, .junk, .junk, .junk, .junk, .junk, .junk, .junk, .junk, .junk, .junk, .junk, .junk, .junk, .junk, .junk, .junk, .junk, .junk, .junk, .junk, .junk, .junk, .junk, .junk, .junk, .junk, .junk, .junk, .junk, .junk, .junk, .junk, .junk, .junk, .junk, .junk, .junk, .junk, .junk, .junk, .junk, .junk, .junk, .junk, .junk, .junk, .junk, .junk, .junk, .junk, .junk, .junk, .junk, .junk, .junk, .junk, .junk, .junk, .junk, .junk, .junk, .junk, .junk, .junk, .junk], [.box (List.map .d (Kern.mk ext sets).c), .box [.emp 1, .emp 11], .row 1 (ext.map inC), .box [.own 2, .own 4], .row 11 (((sets.take i).map (turnS ext)).map ASet.c), .box [.d (.int .i64 xa), .d (.int .i64 (xb + turnB ext xs)), .d (.sl 1 ((negs xs).map inC)), .own 6, .d (.str ⟨#[]⟩), .d (.int .i64 0), .d (.int .i64 0), .d (.int .i64 0), .d (.int .i64 0), .emp 1, .emp 7], .row 7 ((turnTs ext (mask.take j)).map Tree.c)]⟩ : St), ?_, ?_⟩
        · refine ⟨mask.length, ?_⟩
          conv => whnf
          refine ⟨0, by omega, by omega, ?_⟩
          rw [show okL ext (treesLoads (mask.take 0)) = true from rfl, Bool.and_true]; rfl
        · rintro n2 _ ⟨j, hj, rfl, rfl⟩
          conv => whnf
          (refine ⟨_, And.intro ⟨by omega, enc_get hget⟩ ?_⟩; (conv => whnf))
          ((with_reducible refine And.intro (fun (e : (_ : Bool) = true) => ?_) (fun (e : (_ : Bool) = false) => ?_)) <;> (try simp only [reduceCtorEq, ints_len, bools_len, bif_t, bif_f, zv0, zv1, zv2, zv3, zv4, zv5, zv6, zv7, zv8, zv9, zv10, zv11, zv12, zv13, zv14, zv15, zv16, zv17, zv18, zv19, zv20, zv21, zv22, zv23, zv24] at e) <;> (conv => whnf))
          · have hlt2 : j < mask.length := by omega
            obtain ⟨y, hgy⟩ := get_lt hlt2
            have hb2 := treesBulk_get hgy
            have ht2 := turnTs_take (ext := ext) hgy
            have hy := hmk j y hgy
            (refine ⟨_, And.intro ⟨by omega, enc_get hget⟩ ?_⟩; (conv => whnf))
            (refine ⟨_, And.intro ⟨by omega, enc_get hgy⟩ ?_⟩; (conv => whnf))
            obtain ⟨yop, ykind, yn, ⟨ya, yb, ys⟩, ykids⟩ := y
            conv => whnf
            refine And.intro ?_ ?_ <;> (conv => whnf)
            all_goals
              (refine ⟨[], false, false, ?_⟩; (conv => whnf); refine ⟨_, _, ⟨ext, .mk yop ykind yn ⟨ya, yb, ys⟩ ykids, rfl, rfl, by omega, by omega, hy, rfl, rfl⟩, ?_⟩; (conv => whnf))
              refine ⟨by rw [List.length_map, turnTs_map, List.length_map, List.length_take]; simp only [List.length_cons, List.length_nil]; omega, ?_⟩
              conv => whnf
              (repeat ((first | with_reducible refine And.intro (fun h => h) ?_ | with_reducible refine And.intro (fun _ => rfl) ?_ | with_reducible refine And.intro rfl ?_); conv => whnf))
              (refine And.intro ?_ ?_; ((first | (with_reducible assumption) | (intro _; with_reducible assumption) | omega | (simp only [reduceCtorEq, ints_len, bools_len, bif_t, bif_f, zv0, zv1, zv2, zv3, zv4, zv5, zv6, zv7, zv8, zv9, zv10, zv11, zv12, zv13, zv14, zv15, zv16, zv17, zv18, zv19, zv20, zv21, zv22, zv23, zv24] at *; omega) | (intro hg; (try simp only [reduceCtorEq, ints_len, bools_len, bif_t, bif_f, zv0, zv1, zv2, zv3, zv4, zv5, zv6, zv7, zv8, zv9, zv10, zv11, zv12, zv13, zv14, zv15, zv16, zv17, zv18, zv19, zv20, zv21, zv22, zv23, zv24] at hg); first | (with_reducible assumption) | omega | (simp only [reduceCtorEq, ints_len, bools_len, bif_t, bif_f, zv0, zv1, zv2, zv3, zv4, zv5, zv6, zv7, zv8, zv9, zv10, zv11, zv12, zv13, zv14, zv15, zv16, zv17, zv18, zv19, zv20, zv21, zv22, zv23, zv24] at *; omega) | (refine ⟨?_, ?_⟩ <;> omega)) | (refine ⟨?_, ?_⟩ <;> omega) | (simp [*]; done) | grind)); (conv => whnf))
              refine ⟨mask.length - (j + 1), by omega, [], ?_⟩
              conv => whnf
              refine ⟨j + 1, by omega, rfl, ?_⟩
              rw [treesLoads_take hgy, okL_app, and_bif, ht2, List.map_append]; rfl
          · have hj' : j = mask.length := by omega
            subst hj'
            rw [List.take_length]
            (refine ⟨_, And.intro ⟨by omega, enc_get hget⟩ ?_⟩; (conv => whnf))
            (refine ⟨[], false, false, ?_⟩; (conv => whnf); refine ⟨_, _, ⟨ext, .mk op kind n ⟨ra, rb, rs⟩ kids, rfl, rfl, by omega, by omega, ok3, rfl, rfl⟩, ?_⟩; (conv => whnf))
            (repeat ((first | with_reducible refine And.intro (fun h => h) ?_ | with_reducible refine And.intro (fun _ => rfl) ?_ | with_reducible refine And.intro rfl ?_); conv => whnf))
            refine ⟨by rw [List.length_map, List.length_map, List.length_take]; simp only [List.length_cons, List.length_nil]; omega, ?_⟩
            conv => whnf
            (refine And.intro ?_ ?_; ((first | (with_reducible assumption) | (intro _; with_reducible assumption) | omega | (simp only [reduceCtorEq, ints_len, bools_len, bif_t, bif_f, zv0, zv1, zv2, zv3, zv4, zv5, zv6, zv7, zv8, zv9, zv10, zv11, zv12, zv13, zv14, zv15, zv16, zv17, zv18, zv19, zv20, zv21, zv22, zv23, zv24] at *; omega) | (intro hg; (try simp only [reduceCtorEq, ints_len, bools_len, bif_t, bif_f, zv0, zv1, zv2, zv3, zv4, zv5, zv6, zv7, zv8, zv9, zv10, zv11, zv12, zv13, zv14, zv15, zv16, zv17, zv18, zv19, zv20, zv21, zv22, zv23, zv24] at hg); first | (with_reducible assumption) | omega | (simp only [reduceCtorEq, ints_len, bools_len, bif_t, bif_f, zv0, zv1, zv2, zv3, zv4, zv5, zv6, zv7, zv8, zv9, zv10, zv11, zv12, zv13, zv14, zv15, zv16, zv17, zv18, zv19, zv20, zv21, zv22, zv23, zv24] at *; omega) | (refine ⟨?_, ?_⟩ <;> omega)) | (refine ⟨?_, ?_⟩ <;> omega) | (simp [*]; done) | grind)); (conv => whnf))
            refine ⟨sets.length - (i + 1), by omega, [], ?_⟩
            conv => whnf
            refine ⟨i + 1, by omega, rfl, ?_⟩
            rw [hso, setOk, flag_end, ht, List.map_append, List.map_append]; rfl
      · have hi' : i = sets.length := by omega
        subst hi'
        rw [List.take_length]
        have hr : revOk ⟨ext, sets⟩ = setsOk ext sets := by rw [revOk, hf, turned_ok hf]; rfl
        rw [revK, revErr, hr]
        cases hf2 : setsOk ext sets with
        | false =>
          refine ⟨fun _ => ?_, fun h => absurd h (by decide)⟩
          conv => whnf
          (refine ⟨[], ?_⟩; (conv => whnf); refine ⟨[], .nil, .nil, ?_⟩)
          exact .cons (.cons ⟨rfl, rfl⟩ (.cons ⟨rfl, rfl⟩ .nil)) (.cons rfl .nil)
        | true =>
          refine ⟨fun h => absurd h (by decide), fun _ => ?_⟩
          conv => whnf
          (refine ⟨[], ?_⟩; (conv => whnf); refine ⟨[], .nil, .nil, ?_⟩)
          exact .cons (.cons (.inl ⟨rfl, by simp⟩) (.cons (.inl ⟨rfl, by simp⟩) .nil)) (.cons rfl .nil)
end Go.Proofs.YtahdihhhankhdaaGreat.V
-- Zj
namespace Go.Proofs.YtahdihhhankhdaaGreat.V
open Go.Proofs.YtahdihhhankhdaaGreatVY Go.RowKit
def R13 : Ct := fun ss hp r out => ∃ x : Ref, ss = [.v (.ag (x.c.map .d)), .v (.ag (x.c.map .d))] ∧ hp = [] ∧ x.str.length < 4611686018427387904 ∧ r = .db true ∧ out = []
set_option maxHeartbeats 4000000 in
theorem ok13 : VSound Tryz.prog (13, R13) := by
  refine vsound (T := ty) (F := []) (pl := [(6, [[], [0], [], [0, 1, 2], [0, 1, 2, 3], [], [5], [], [5, 6, 7], [5, 6, 7, 8], [0, 1, 2, 3, 4, 5, 6, 7, 8, 9]], .look 0 (.look 1 (.look 2 (.look 3 (.look 4 (.look 5 (.look 6 (.look 7 (.look 8 (.look 9 (.look 10 .done)))))))))))]) (nw := true) (cuts := []) mix tyOk .nil Tryz.func13 (by kernel_rfl) (by kernel_rfl) ?_
  rintro _ _ _ _ ⟨⟨xa, xb, xs⟩, rfl, rfl, hx, rfl, rfl⟩
  simp only at hx
  conv => whnf
  (repeat' (first | ((with_reducible refine And.intro (fun (e : (_ : Bool) = true) => ?_) (fun (e : (_ : Bool) = false) => ?_)) <;> (try simp only [reduceCtorEq, ints_len, bools_len, bif_t, bif_f, zv0, zv1, zv2, zv3, zv4, zv5, zv6, zv7, zv8, zv9, zv10, zv11, zv12, zv13, zv14, zv15, zv16, zv17, zv18, zv19, zv20, zv21, zv22, zv23, zv24] at e) <;> (conv => whnf)) | ((with_reducible refine And.intro (fun (e : (_ : Bool) = false) => ?_) (fun (e : (_ : Bool) = true) => ?_)) <;> (try simp only [reduceCtorEq, ints_len, bools_len, bif_t, bif_f, zv0, zv1, zv2, zv3, zv4, zv5, zv6, zv7, zv8, zv9, zv10, zv11, zv12, zv13, zv14, zv15, zv16, zv17, zv18, zv19, zv20, zv21, zv22, zv23, zv24] at e) <;> (conv => whnf)) | (refine And.intro ?_ ?_; ((first | (with_reducible assumption) | (intro _; with_reducible assumption) | omega | (simp only [reduceCtorEq, ints_len, bools_len, bif_t, bif_f, zv0, zv1, zv2, zv3, zv4, zv5, zv6, zv7, zv8, zv9, zv10, zv11, zv12, zv13, zv14, zv15, zv16, zv17, zv18, zv19, zv20, zv21, zv22, zv23, zv24] at *; omega) | (intro hg; (try simp only [reduceCtorEq, ints_len, bools_len, bif_t, bif_f, zv0, zv1, zv2, zv3, zv4, zv5, zv6, zv7, zv8, zv9, zv10, zv11, zv12, zv13, zv14, zv15, zv16, zv17, zv18, zv19, zv20, zv21, zv22, zv23, zv24] at hg); first | (with_reducible assumption) | omega | (simp only [reduceCtorEq, ints_len, bools_len, bif_t, bif_f, zv0, zv1, zv2, zv3, zv4, zv5, zv6, zv7, zv8, zv9, zv10, zv11, zv12, zv13, zv14, zv15, zv16, zv17, zv18, zv19, zv20, zv21, zv22, zv23, zv24] at *; omega) | (refine ⟨?_, ?_⟩ <;> omega)) | (refine ⟨?_, ?_⟩ <;> omega) | (simp [*]; done) | grind)); (conv => whnf))))
  all_goals try (exfalso; simp at e; done)
  all_goals try (exfalso; rename_i e9; simp at e9; done)
  clear e
  refine ⟨[], [2, 3, 5], 2, fun n1 σ => ∃ i : Nat, i ≤ xs.length ∧ n1 = xs.length - i ∧ σ = (⟨[.junk, .junk, .one (.ptr 0 0), .one (.ptr 1 0), .junk, .di .i64 i, .junk, .junk, .junk, .junk, .junk, .junk, .junk, .junk, .junk, .junk, .junk, .junk, .junk, .junk, .junk, .junk, .junk, .junk, .junk, .junk, .junk, .junk, .junk, .junk, .junk, .junk, .junk, .junk, .junk, .junk, .junk, .junk, .junk, .junk, .junk, .junk, .junk, .junk, .junk], [.box (List.map .d (Ref.mk xa xb xs).c), .box (List.map .d (Ref.mk xa xb xs).c)]⟩ : St), ?_, ?_⟩
  · refine ⟨xs.length, ?_⟩
    conv => whnf
    exact ⟨0, by omega, by omega, rfl⟩
  · rintro n1 _ ⟨i, hi, rfl, rfl⟩
    conv => whnf
    rw [ints_len]
    ((with_reducible refine And.intro (fun (e : (_ : Bool) = true) => ?_) (fun (e : (_ : Bool) = false) => ?_)) <;> (try simp only [reduceCtorEq, ints_len, bools_len, bif_t, bif_f, zv0, zv1, zv2, zv3, zv4, zv5, zv6, zv7, zv8, zv9, zv10, zv11, zv12, zv13, zv14, zv15, zv16, zv17, zv18, zv19, zv20, zv21, zv22, zv23, zv24] at e) <;> (conv => whnf))
    · obtain ⟨s, hs⟩ := get_lt (l := xs) (i := i) (by omega)
      (refine ⟨_, And.intro ⟨by omega, enc_get hs⟩ ?_⟩; (conv => whnf))
      (refine ⟨_, And.intro ⟨by omega, enc_get hs⟩ ?_⟩; (conv => whnf))
      (repeat' (first | ((with_reducible refine And.intro (fun (e : (_ : Bool) = true) => ?_) (fun (e : (_ : Bool) = false) => ?_)) <;> (try simp only [reduceCtorEq, ints_len, bools_len, bif_t, bif_f, zv0, zv1, zv2, zv3, zv4, zv5, zv6, zv7, zv8, zv9, zv10, zv11, zv12, zv13, zv14, zv15, zv16, zv17, zv18, zv19, zv20, zv21, zv22, zv23, zv24] at e) <;> (conv => whnf)) | ((with_reducible refine And.intro (fun (e : (_ : Bool) = false) => ?_) (fun (e : (_ : Bool) = true) => ?_)) <;> (try simp only [reduceCtorEq, ints_len, bools_len, bif_t, bif_f, zv0, zv1, zv2, zv3, zv4, zv5, zv6, zv7, zv8, zv9, zv10, zv11, zv12, zv13, zv14, zv15, zv16, zv17, zv18, zv19, zv20, zv21, zv22, zv23, zv24] at e) <;> (conv => whnf)) | (refine And.intro ?_ ?_; ((first | (with_reducible assumption) | (intro _; with_reducible assumption) | omega | (simp only [reduceCtorEq, ints_len, bools_len, bif_t, bif_f, zv0, zv1, zv2, zv3, zv4, zv5, zv6, zv7, zv8, zv9, zv10, zv11, zv12, zv13, zv14, zv15, zv16, zv17, zv18, zv19, zv20, zv21, zv22, zv23, zv24] at *; omega) | (intro hg; (try simp only [reduceCtorEq, ints_len, bools_len, bif_t, bif_f, zv0, zv1, zv2, zv3, zv4, zv5, zv6, zv7, zv8, zv9, zv10, zv11, zv12, zv13, zv14, zv15, zv16, zv17, zv18, zv19, zv20, zv21, zv22, zv23, zv24] at hg); first | (with_reducible assumption) | omega | (simp only [reduceCtorEq, ints_len, bools_len, bif_t, bif_f, zv0, zv1, zv2, zv3, zv4, zv5, zv6, zv7, zv8, zv9, zv10, zv11, zv12, zv13, zv14, zv15, zv16, zv17, zv18, zv19, zv20, zv21, zv22, zv23, zv24] at *; omega) | (refine ⟨?_, ?_⟩ <;> omega)) | (refine ⟨?_, ?_⟩ <;> omega) | (simp [*]; done) | grind)); (conv => whnf))))
      all_goals try (exfalso; simp at e; done)
      refine ⟨xs.length - (i + 1), by omega, [], ?_⟩
      conv => whnf
      exact ⟨i + 1, by omega, rfl, rfl⟩
    · (refine ⟨[], ?_⟩; (conv => whnf); refine ⟨[], .nil, .nil, ?_⟩; (conv => whnf))
def R29 (m : Nat) : Ct := fun ss hp r out => ∃ l : List Tree, ss = [.one (.d (.sl 7 (l.map Tree.c))), .one (.d (.sl 7 (l.map Tree.c)))] ∧ hp = [] ∧ treesBulk l < m ∧ m ≤ 4194305 ∧ r = .db true ∧ out = []
theorem ok29_0 : VSound Tryz.prog (29, R29 0) := by
  refine .inl ⟨?_, enterB_ok (by kernel_rfl)⟩
  unfold Ok
  intros
  rename_i hR
  obtain ⟨t, _, _, h, _⟩ := hR
  omega
set_option maxHeartbeats 4000000 in
theorem ok29_s (m : Nat) (ih : VSound Tryz.prog (29, R29 m)) : VSound Tryz.prog (29, R29 (m + 1)) := by
  refine vsound (T := ty) (F := [(13, R13), (29, R29 m)]) (pl := [(6, [[], [], [0, 1], [0, 1, 2], [0, 1, 2, 3], [], [], [5, 6], [5, 6, 7], [5, 6, 7, 8], [0, 1, 2, 3, 4, 5, 6, 7, 8, 9], [0, 1, 2, 3, 4, 5, 6, 7, 8, 9, 10], [0, 1, 2, 3, 4, 5, 6, 7, 8, 9, 10, 11], [0, 1, 2, 3, 4, 5, 6, 7, 8, 9, 10, 11], [0, 1, 2, 3, 4, 5, 6, 7, 8, 9, 10, 11, 12, 13], [0, 1, 2, 3, 4, 5, 6, 7, 8, 9, 10, 11, 12, 13, 14], [0, 1, 2, 3, 4, 5, 6, 7, 8, 9, 10, 11, 12, 13, 14, 15], [0, 1, 2, 3, 4, 5, 6, 7, 8, 9, 10, 11], [0, 1, 2, 3, 4, 5, 6, 7, 8, 9, 10, 11], [0, 1, 2, 3, 4, 5, 6, 7, 8, 9, 10, 11, 17, 18], [0, 1, 2, 3, 4, 5, 6, 7, 8, 9, 10, 11, 17, 18, 19], [0, 1, 2, 3, 4, 5, 6, 7, 8, 9, 10, 11, 17, 18, 19, 20], [0, 1, 2, 3, 4, 5, 6, 7, 8, 9, 10, 11, 12, 13, 14, 15, 16, 17, 18, 19, 20, 21], [0, 1, 2, 3, 4, 5, 6, 7, 8, 9, 10, 11, 12, 13, 14, 15, 16, 17, 18, 19, 20, 21, 22], [0, 1, 2, 3, 4, 5, 6, 7, 8, 9, 10, 11, 12, 13, 14, 15, 16, 17, 18, 19, 20, 21, 22, 23], [0, 1, 2, 3, 4, 5, 6, 7, 8, 9, 10, 11, 12, 13, 14, 15, 16, 17, 18, 19, 20, 21, 22, 23, 24], [0, 1, 2, 3, 4, 5, 6, 7, 8, 9, 10, 11, 12, 13, 14, 15, 16, 17, 18, 19, 20, 21, 22, 23, 24], [0, 1, 2, 3, 4, 5, 6, 7, 8, 9, 10, 11, 12, 13, 14, 15, 16, 17, 18, 19, 20, 21, 22, 23, 24, 25, 26], [0, 1, 2, 3, 4, 5, 6, 7, 8, 9, 10, 11, 12, 13, 14, 15, 16, 17, 18, 19, 20, 21, 22, 23, 24, 25, 26, 27], [0, 1, 2, 3, 4, 5, 6, 7, 8, 9, 10, 11, 12, 13, 14, 15, 16, 17, 18, 19, 20, 21, 22, 23, 24, 25, 26, 27, 28], [0, 1, 2, 3, 4, 5, 6, 7, 8, 9, 10, 11, 12, 13, 14, 15, 16, 17, 18, 19, 20, 21, 22, 23, 24], [0, 1, 2, 3, 4, 5, 6, 7, 8, 9, 10, 11, 12, 13, 14, 15, 16, 17, 18, 19, 20, 21, 22, 23, 24], [0, 1, 2, 3, 4, 5, 6, 7, 8, 9, 10, 11, 12, 13, 14, 15, 16, 17, 18, 19, 20, 21, 22, 23, 24, 30, 31], [0, 1, 2, 3, 4, 5, 6, 7, 8, 9, 10, 11, 12, 13, 14, 15, 16, 17, 18, 19, 20, 21, 22, 23, 24, 30, 31, 32], [0, 1, 2, 3, 4, 5, 6, 7, 8, 9, 10, 11, 12, 13, 14, 15, 16, 17, 18, 19, 20, 21, 22, 23, 24, 30, 31, 32, 33], [0, 1, 2, 3, 4, 5, 6, 7, 8, 9, 10, 11, 12, 13, 14, 15, 16, 17, 18, 19, 20, 21, 22, 23, 24, 25, 26, 27, 28, 29, 30, 31, 32, 33, 34], [0, 1, 2, 3, 4, 5, 6, 7, 8, 9, 10, 11, 12, 13, 14, 15, 16, 17, 18, 19, 20, 21, 22, 23, 24, 25, 26, 27, 28, 29, 30, 31, 32, 33, 34, 35], [0, 1, 2, 3, 4, 5, 6, 7, 8, 9, 10, 11, 12, 13, 14, 15, 16, 17, 18, 19, 20, 21, 22, 23, 24, 25, 26, 27, 28, 29, 30, 31, 32, 33, 34, 35, 36], [0, 1, 2, 3, 4, 5, 6, 7, 8, 9, 10, 11, 12, 13, 14, 15, 16, 17, 18, 19, 20, 21, 22, 23, 24, 25, 26, 27, 28, 29, 30, 31, 32, 33, 34, 35, 36, 37], [0, 1, 2, 3, 4, 5, 6, 7, 8, 9, 10, 11, 12, 13, 14, 15, 16, 17, 18, 19, 20, 21, 22, 23, 24, 25, 26, 27, 28, 29, 30, 31, 32, 33, 34, 35, 36, 37], [0, 1, 2, 3, 4, 5, 6, 7, 8, 9, 10, 11, 12, 13, 14, 15, 16, 17, 18, 19, 20, 21, 22, 23, 24, 25, 26, 27, 28, 29, 30, 31, 32, 33, 34, 35, 36, 37, 38, 39], [0, 1, 2, 3, 4, 5, 6, 7, 8, 9, 10, 11, 12, 13, 14, 15, 16, 17, 18, 19, 20, 21, 22, 23, 24, 25, 26, 27, 28, 29, 30, 31, 32, 33, 34, 35, 36, 37, 38, 39, 40], [0, 1, 2, 3, 4, 5, 6, 7, 8, 9, 10, 11, 12, 13, 14, 15, 16, 17, 18, 19, 20, 21, 22, 23, 24, 25, 26, 27, 28, 29, 30, 31, 32, 33, 34, 35, 36, 37, 38, 39, 40, 41], [0, 1, 2, 3, 4, 5, 6, 7, 8, 9, 10, 11, 12, 13, 14, 15, 16, 17, 18, 19, 20, 21, 22, 23, 24, 25, 26, 27, 28, 29, 30, 31, 32, 33, 34, 35, 36, 37], [0, 1, 2, 3, 4, 5, 6, 7, 8, 9, 10, 11, 12, 13, 14, 15, 16, 17, 18, 19, 20, 21, 22, 23, 24, 25, 26, 27, 28, 29, 30, 31, 32, 33, 34, 35, 36, 37], [0, 1, 2, 3, 4, 5, 6, 7, 8, 9, 10, 11, 12, 13, 14, 15, 16, 17, 18, 19, 20, 21, 22, 23, 24, 25, 26, 27, 28, 29, 30, 31, 32, 33, 34, 35, 36, 37, 43, 44], [0, 1, 2, 3, 4, 5, 6, 7, 8, 9, 10, 11, 12, 13, 14, 15, 16, 17, 18, 19, 20, 21, 22, 23, 24, 25, 26, 27, 28, 29, 30, 31, 32, 33, 34, 35, 36, 37, 43, 44, 45], [0, 1, 2, 3, 4, 5, 6, 7, 8, 9, 10, 11, 12, 13, 14, 15, 16, 17, 18, 19, 20, 21, 22, 23, 24, 25, 26, 27, 28, 29, 30, 31, 32, 33, 34, 35, 36, 37, 43, 44, 45, 46], [0, 1, 2, 3, 4, 5, 6, 7, 8, 9, 10, 11, 12, 13, 14, 15, 16, 17, 18, 19, 20, 21, 22, 23, 24, 25, 26, 27, 28, 29, 30, 31, 32, 33, 34, 35, 36, 37, 38, 39, 40, 41, 42, 43, 44, 45, 46, 47], [0, 1, 2, 3, 4, 5, 6, 7, 8, 9, 10, 11, 12, 13, 14, 15, 16, 17, 18, 19, 20, 21, 22, 23, 24, 25, 26, 27, 28, 29, 30, 31, 32, 33, 34, 35, 36, 37, 38, 39, 40, 41, 42, 43, 44, 45, 46, 47, 48], [0, 1, 2, 3, 4, 5, 6, 7, 8, 9, 10, 11, 12, 13, 14, 15, 16, 17, 18, 19, 20, 21, 22, 23, 24, 25, 26, 27, 28, 29, 30, 31, 32, 33, 34, 35, 36, 37, 38, 39, 40, 41, 42, 43, 44, 45, 46, 47, 48, 49], [0, 1, 2, 3, 4, 5, 6, 7, 8, 9, 10, 11, 12, 13, 14, 15, 16, 17, 18, 19, 20, 21, 22, 23, 24, 25, 26, 27, 28, 29, 30, 31, 32, 33, 34, 35, 36, 37, 38, 39, 40, 41, 42, 43, 44, 45, 46, 47, 48, 49, 50], [0, 1, 2, 3, 4, 5, 6, 7, 8, 9, 10, 11, 12, 13, 14, 15, 16, 17, 18, 19, 20, 21, 22, 23, 24, 25, 26, 27, 28, 29, 30, 31, 32, 33, 34, 35, 36, 37, 38, 39, 40, 41, 42, 43, 44, 45, 46, 47, 48, 49, 50, 51], [0, 1, 2, 3, 4, 5, 6, 7, 8, 9, 10, 11, 12, 13, 14, 15, 16, 17, 18, 19, 20, 21, 22, 23, 24, 25, 26, 27, 28, 29, 30, 31, 32, 33, 34, 35, 36, 37, 38, 39, 40, 41, 42, 43, 44, 45, 46, 47, 48, 49, 50, 51], [0, 1, 2, 3, 4, 5, 6, 7, 8, 9, 10, 11, 12, 13, 14, 15, 16, 17, 18, 19, 20, 21, 22, 23, 24, 25, 26, 27, 28, 29, 30, 31, 32, 33, 34, 35, 36, 37, 38, 39, 40, 41, 42, 43, 44, 45, 46, 47, 48, 49, 50, 51, 52, 53], [0, 1, 2, 3, 4, 5, 6, 7, 8, 9, 10, 11, 12, 13, 14, 15, 16, 17, 18, 19, 20, 21, 22, 23, 24, 25, 26, 27, 28, 29, 30, 31, 32, 33, 34, 35, 36, 37, 38, 39, 40, 41, 42, 43, 44, 45, 46, 47, 48, 49, 50, 51, 52, 53, 54], [0, 1, 2, 3, 4, 5, 6, 7, 8, 9, 10, 11, 12, 13, 14, 15, 16, 17, 18, 19, 20, 21, 22, 23, 24, 25, 26, 27, 28, 29, 30, 31, 32, 33, 34, 35, 36, 37, 38, 39, 40, 41, 42, 43, 44, 45, 46, 47, 48, 49, 50, 51, 52, 53, 54, 55], [0, 1, 2, 3, 4, 5, 6, 7, 8, 9, 10, 11, 12, 13, 14, 15, 16, 17, 18, 19, 20, 21, 22, 23, 24, 25, 26, 27, 28, 29, 30, 31, 32, 33, 34, 35, 36, 37, 38, 39, 40, 41, 42, 43, 44, 45, 46, 47, 48, 49, 50, 51], [0, 1, 2, 3, 4, 5, 6, 7, 8, 9, 10, 11, 12, 13, 14, 15, 16, 17, 18, 19, 20, 21, 22, 23, 24, 25, 26, 27, 28, 29, 30, 31, 32, 33, 34, 35, 36, 37, 38, 39, 40, 41, 42, 43, 44, 45, 46, 47, 48, 49, 50, 51], [0, 1, 2, 3, 4, 5, 6, 7, 8, 9, 10, 11, 12, 13, 14, 15, 16, 17, 18, 19, 20, 21, 22, 23, 24, 25, 26, 27, 28, 29, 30, 31, 32, 33, 34, 35, 36, 37, 38, 39, 40, 41, 42, 43, 44, 45, 46, 47, 48, 49, 50, 51, 57, 58], [0, 1, 2, 3, 4, 5, 6, 7, 8, 9, 10, 11, 12, 13, 14, 15, 16, 17, 18, 19, 20, 21, 22, 23, 24, 25, 26, 27, 28, 29, 30, 31, 32, 33, 34, 35, 36, 37, 38, 39, 40, 41, 42, 43, 44, 45, 46, 47, 48, 49, 50, 51, 57, 58, 59], [0, 1, 2, 3, 4, 5, 6, 7, 8, 9, 10, 11, 12, 13, 14, 15, 16, 17, 18, 19, 20, 21, 22, 23, 24, 25, 26, 27, 28, 29, 30, 31, 32, 33, 34, 35, 36, 37, 38, 39, 40, 41, 42, 43, 44, 45, 46, 47, 48, 49, 50, 51, 57, 58, 59, 60], [0, 1, 2, 3, 4, 5, 6, 7, 8, 9, 10, 11, 12, 13, 14, 15, 16, 17, 18, 19, 20, 21, 22, 23, 24, 25, 26, 27, 28, 29, 30, 31, 32, 33, 34, 35, 36, 37, 38, 39, 40, 41, 42, 43, 44, 45, 46, 47, 48, 49, 50, 51, 52, 53, 54, 55, 56, 57, 58, 59, 60, 61], [0, 1, 2, 3, 4, 5, 6, 7, 8, 9, 10, 11, 12, 13, 14, 15, 16, 17, 18, 19, 20, 21, 22, 23, 24, 25, 26, 27, 28, 29, 30, 31, 32, 33, 34, 35, 36, 37, 38, 39, 40, 41, 42, 43, 44, 45, 46, 47, 48, 49, 50, 51, 52, 53, 54, 55, 56, 57, 58, 59, 60, 61, 62], [0, 1, 2, 3, 4, 5, 6, 7, 8, 9, 10, 11, 12, 13, 14, 15, 16, 17, 18, 19, 20, 21, 22, 23, 24, 25, 26, 27, 28, 29, 30, 31, 32, 33, 34, 35, 36, 37, 38, 39, 40, 41, 42, 43, 44, 45, 46, 47, 48, 49, 50, 51, 52, 53, 54, 55, 56, 57, 58, 59, 60, 61, 62, 63]], .look 0 (.look 1 (.look 2 (.look 3 (.look 4 (.look 5 (.look 6 (.look 7 (.look 8 (.look 9 (.look 10 (.look 11 (.look 12 (.look 13 (.look 14 (.look 15 (.look 16 (.look 17 (.look 18 (.look 19 (.look 20 (.look 21 (.look 22 (.look 23 (.look 24 (.look 25 (.look 26 (.look 27 (.look 28 (.look 29 (.look 30 (.look 31 (.look 32 (.look 33 (.look 34 (.look 35 (.look 36 (.look 37 (.look 38 (.look 39 (.look 40 (.look 41 (.look 42 (.look 43 (.look 44 (.look 45 (.look 46 (.look 47 (.act 48 [] (.look 49 (.look 50 (.look 51 (.look 52 (.look 53 (.look 54 (.look 55 (.look 56 (.look 57 (.look 58 (.look 59 (.look 60 (.look 61 (.act 62 [] (.look 63 (.look 64 .done)) .stop)))))))))))))) .stop)))))))))))))))))))))))))))))))))))))))))))))))))]) (nw := true) (cuts := []) mix tyOk (.cons (ok13) (.cons (ih) .nil)) Tryz.func29 (by kernel_rfl) (by kernel_rfl) ?_
  rintro _ _ _ _ ⟨l, rfl, rfl, hm, hm2, rfl, rfl⟩
  have hkl := treesBulk_len l
  conv => whnf
  (repeat' (first | ((with_reducible refine And.intro (fun (e : (_ : Bool) = true) => ?_) (fun (e : (_ : Bool) = false) => ?_)) <;> (try simp only [reduceCtorEq, ints_len, bools_len, bif_t, bif_f, zv0, zv1, zv2, zv3, zv4, zv5, zv6, zv7, zv8, zv9, zv10, zv11, zv12, zv13, zv14, zv15, zv16, zv17, zv18, zv19, zv20, zv21, zv22, zv23, zv24] at e) <;> (conv => whnf)) | ((with_reducible refine And.intro (fun (e : (_ : Bool) = false) => ?_) (fun (e : (_ : Bool) = true) => ?_)) <;> (try simp only [reduceCtorEq, ints_len, bools_len, bif_t, bif_f, zv0, zv1, zv2, zv3, zv4, zv5, zv6, zv7, zv8, zv9, zv10, zv11, zv12, zv13, zv14, zv15, zv16, zv17, zv18, zv19, zv20, zv21, zv22, zv23, zv24] at e) <;> (conv => whnf)) | (refine And.intro ?_ ?_; ((first | (with_reducible assumption) | (intro _; with_reducible assumption) | omega | (simp only [reduceCtorEq, ints_len, bools_len, bif_t, bif_f, zv0, zv1, zv2, zv3, zv4, zv5, zv6, zv7, zv8, zv9, zv10, zv11, zv12, zv13, zv14, zv15, zv16, zv17, zv18, zv19, zv20, zv21, zv22, zv23, zv24] at *; omega) | (intro hg; (try simp only [reduceCtorEq, ints_len, bools_len, bif_t, bif_f, zv0, zv1, zv2, zv3, zv4, zv5, zv6, zv7, zv8, zv9, zv10, zv11, zv12, zv13, zv14, zv15, zv16, zv17, zv18, zv19, zv20, zv21, zv22, zv23, zv24] at hg); first | (with_reducible assumption) | omega | (simp only [reduceCtorEq, ints_len, bools_len, bif_t, bif_f, zv0, zv1, zv2, zv3, zv4, zv5, zv6, zv7, zv8, zv9, zv10, zv11, zv12, zv13, zv14, zv15, zv16, zv17, zv18, zv19, zv20, zv21, zv22, zv23, zv24] at *; omega) | (refine ⟨?_, ?_⟩ <;> omega)) | (refine ⟨?_, ?_⟩ <;> omega) | (simp [*]; done) | grind)); (conv => whnf))))
  all_goals try (exfalso; simp at e; done)
  clear e
  refine ⟨[], [0, 1, 5], 0, fun n1 σ => ∃ i : Nat, i ≤ l.length ∧ n1 = l.length - i ∧ σ = (⟨[.one (.d (.sl 7 (l.map Tree.c))), .one (.d (.sl 7 (l.map Tree.c))), .junk, .junk, .junk, .di .i64 i, .junk, .junk, .junk, .junk, .junk, .junk, .junk, .junk, .junk, .junk, .junk, .junk, .junk, .junk, .junk, .junk, .junk, .junk, .junk, .junk, .junk, .junk, .junk, .junk, .junk, .junk, .junk, .junk, .junk, .junk, .junk, .junk, .junk, .junk, .junk, .junk, .junk, .junk, .junk, .junk, .junk, .junk, .junk, .junk, .junk, .junk, .junk, .junk, .junk, .junk, .junk, .junk, .junk, .junk, .junk, .junk, .junk, .junk, .junk, .junk, .junk, .junk, .junk, .junk, .junk, .junk, .junk, .junk, .junk, .junk, .junk, .junk, .junk, .junk, .junk, .junk], []⟩ : St), ?_, ?_⟩
  · refine ⟨l.length, ?_⟩
    conv => whnf
    exact ⟨0, by omega, by omega, rfl⟩
  · rintro n1 _ ⟨i, hi, rfl, rfl⟩
    conv => whnf
    rw [map_len]
    ((with_reducible refine And.intro (fun (e : (_ : Bool) = true) => ?_) (fun (e : (_ : Bool) = false) => ?_)) <;> (try simp only [reduceCtorEq, ints_len, bools_len, bif_t, bif_f, zv0, zv1, zv2, zv3, zv4, zv5, zv6, zv7, zv8, zv9, zv10, zv11, zv12, zv13, zv14, zv15, zv16, zv17, zv18, zv19, zv20, zv21, zv22, zv23, zv24] at e) <;> (conv => whnf))
    · obtain ⟨x, hget⟩ := get_lt (l := l) (i := i) (by omega)
      have hb := treesBulk_get hget
      obtain ⟨xop, xkind, xn, ⟨xa, xb, xs⟩, xkids⟩ := x
      rw [Tree.bulk] at hb
      simp only at hb
      (refine ⟨_, And.intro ⟨by omega, enc_get hget⟩ ?_⟩; (conv => whnf))
      (refine ⟨_, And.intro ⟨by omega, enc_get hget⟩ ?_⟩; (conv => whnf))
      (repeat ((first | with_reducible refine And.intro (fun h => h) ?_ | with_reducible refine And.intro (fun _ => rfl) ?_ | with_reducible refine And.intro rfl ?_); conv => whnf))
      (refine ⟨_, And.intro (fun _ => ⟨by omega, enc_get hget⟩) ?_⟩; (conv => whnf))
      (repeat ((first | with_reducible refine And.intro (fun h => h) ?_ | with_reducible refine And.intro (fun _ => rfl) ?_ | with_reducible refine And.intro rfl ?_); conv => whnf))
      (refine ⟨_, And.intro (fun _ => ⟨by omega, enc_get hget⟩) ?_⟩; (conv => whnf))
      (repeat ((first | with_reducible refine And.intro (fun h => h) ?_ | with_reducible refine And.intro (fun _ => rfl) ?_ | with_reducible refine And.intro rfl ?_); conv => whnf))
      (refine ⟨_, And.intro (fun _ => ⟨by omega, enc_get hget⟩) ?_⟩; (conv => whnf))
      (repeat ((first | with_reducible refine And.intro (fun h => h) ?_ | with_reducible refine And.intro (fun _ => rfl) ?_ | with_reducible refine And.intro rfl ?_); conv => whnf))
      (refine ⟨_, And.intro (fun _ => ⟨by omega, enc_get hget⟩) ?_⟩; (conv => whnf))
      (repeat ((first | with_reducible refine And.intro (fun h => h) ?_ | with_reducible refine And.intro (fun _ => rfl) ?_ | with_reducible refine And.intro rfl ?_); conv => whnf))
      (refine ⟨_, And.intro (fun _ => ⟨by omega, enc_get hget⟩) ?_⟩; (conv => whnf))
      (repeat ((first | with_reducible refine And.intro (fun h => h) ?_ | with_reducible refine And.intro (fun _ => rfl) ?_ | with_reducible refine And.intro rfl ?_); conv => whnf))
      (refine ⟨_, And.intro (fun _ => ⟨by omega, enc_get hget⟩) ?_⟩; (conv => whnf))
      (repeat ((first | with_reducible refine And.intro (fun h => h) ?_ | with_reducible refine And.intro (fun _ => rfl) ?_ | with_reducible refine And.intro rfl ?_); conv => whnf))
      refine ⟨fun _ => ?_, fun h => ?_⟩
      rotate_left
      · exfalso; simp at h
      conv => whnf
      (repeat ((first | with_reducible refine And.intro (fun h => h) ?_ | with_reducible refine And.intro (fun _ => rfl) ?_ | with_reducible refine And.intro rfl ?_); conv => whnf))
      (refine ⟨[], false, false, ?_⟩; (conv => whnf); refine ⟨_, _, ⟨⟨xa, xb, xs⟩, rfl, rfl, by simp only; omega, rfl, rfl⟩, ?_⟩; (conv => whnf))
      (repeat ((first | with_reducible refine And.intro (fun h => h) ?_ | with_reducible refine And.intro (fun _ => rfl) ?_ | with_reducible refine And.intro rfl ?_); conv => whnf))
      (refine ⟨_, And.intro (fun _ => ⟨by omega, enc_get hget⟩) ?_⟩; (conv => whnf))
      (repeat ((first | with_reducible refine And.intro (fun h => h) ?_ | with_reducible refine And.intro (fun _ => rfl) ?_ | with_reducible refine And.intro rfl ?_); conv => whnf))
      (refine ⟨_, And.intro (fun _ => ⟨by omega, enc_get hget⟩) ?_⟩; (conv => whnf))
      (repeat ((first | with_reducible refine And.intro (fun h => h) ?_ | with_reducible refine And.intro (fun _ => rfl) ?_ | with_reducible refine And.intro rfl ?_); conv => whnf))
      refine ⟨fun _ => ?_, fun h => ?_⟩
      rotate_left
      · exfalso; simp at h
      conv => whnf
      (repeat ((first | with_reducible refine And.intro (fun h => h) ?_ | with_reducible refine And.intro (fun _ => rfl) ?_ | with_reducible refine And.intro rfl ?_); conv => whnf))
      rw [treesC_map]
      (refine ⟨[], false, false, ?_⟩; (conv => whnf); refine ⟨_, _, ⟨xkids, rfl, rfl, by omega, by omega, rfl, rfl⟩, ?_⟩; (conv => whnf))
      (repeat ((first | with_reducible refine And.intro (fun h => h) ?_ | with_reducible refine And.intro (fun _ => rfl) ?_ | with_reducible refine And.intro rfl ?_); conv => whnf))
      refine ⟨fun h => ?_, fun _ => ?_⟩
      · exfalso; simp at h
      conv => whnf
      (refine And.intro ?_ ?_; ((first | (with_reducible assumption) | (intro _; with_reducible assumption) | omega | (simp only [reduceCtorEq, ints_len, bools_len, bif_t, bif_f, zv0, zv1, zv2, zv3, zv4, zv5, zv6, zv7, zv8, zv9, zv10, zv11, zv12, zv13, zv14, zv15, zv16, zv17, zv18, zv19, zv20, zv21, zv22, zv23, zv24] at *; omega) | (intro hg; (try simp only [reduceCtorEq, ints_len, bools_len, bif_t, bif_f, zv0, zv1, zv2, zv3, zv4, zv5, zv6, zv7, zv8, zv9, zv10, zv11, zv12, zv13, zv14, zv15, zv16, zv17, zv18, zv19, zv20, zv21, zv22, zv23, zv24] at hg); first | (with_reducible assumption) | omega | (simp only [reduceCtorEq, ints_len, bools_len, bif_t, bif_f, zv0, zv1, zv2, zv3, zv4, zv5, zv6, zv7, zv8, zv9, zv10, zv11, zv12, zv13, zv14, zv15, zv16, zv17, zv18, zv19, zv20, zv21, zv22, zv23, zv24] at *; omega) | (refine ⟨?_, ?_⟩ <;> omega)) | (refine ⟨?_, ?_⟩ <;> omega) | (simp [*]; done) | grind)); (conv => whnf))
      refine ⟨l.length - (i + 1), by omega, [], ?_⟩
      conv => whnf
      exact ⟨i + 1, by omega, rfl, rfl⟩
    · (refine ⟨[], ?_⟩; (conv => whnf); refine ⟨[], .nil, .nil, ?_⟩; (conv => whnf))
theorem ok29 : ∀ m : Nat, VSound Tryz.prog (29, R29 m)
  | 0 => ok29_0
  | m + 1 => ok29_s m (ok29 m)
end Go.Proofs.YtahdihhhankhdaaGreat.V
-- Zk
namespace Go.Proofs.YtahdihhhankhdaaGreat.V
open Go.Proofs.YtahdihhhankhdaaGreatVY Go.RowKit
def R12 : Ct := fun ss hp r out => ∃ k : Kern, ss = [.v (.ag (k.c.map .d)), .v (.ag (k.c.map .d))] ∧ hp = [] ∧ k.bulk ≤ 4194304 ∧ r = .db true ∧ out = []
set_option maxHeartbeats 4000000 in
theorem ok12 : VSound Tryz.prog (12, R12) := by
  refine vsound (T := ty) (F := [(13, R13), (29, R29 4194305)]) (pl := [(6, [[], [0], [], [0, 1, 2], [0, 1, 2, 3], [], [5], [], [5, 6, 7], [5, 6, 7, 8], [0, 1, 2, 3, 4, 5, 6, 7, 8, 9]], .look 0 (.look 1 (.look 2 (.look 3 (.look 4 (.look 5 (.look 6 (.look 7 (.look 8 (.look 9 (.look 10 .done))))))))))), (11, [[], [0], [], [0, 1, 2], [0, 1, 2, 3], [], [5], [], [5, 6, 7], [5, 6, 7, 8], [], [], [0, 1, 2, 3, 4, 10, 11], [0, 1, 2, 3, 4, 5, 6, 7, 8, 9, 10, 11, 12]], .look 0 (.look 1 (.look 2 (.look 3 (.look 4 (.look 5 (.look 6 (.look 7 (.look 8 (.look 9 (.act 10 [0, 1, 2, 3, 4, 5, 6, 7, 8, 9] (.act 11 [0, 1, 2, 3, 4, 5, 6, 7, 8, 9] (.act 12 [5, 6, 7, 8, 9] (.act 13 [] .done .stop) .stop) .stop) (.act 11 [0, 1, 2, 3, 4, 5, 6, 7, 8, 9] (.act 10 [0, 1, 2, 3, 4, 5, 6, 7, 8, 9] (.act 12 [5, 6, 7, 8, 9] (.act 13 [] .done .stop) .stop) .stop) .stop))))))))))))]) (nw := true) (cuts := []) mix tyOk (.cons (ok13) (.cons (ok29 4194305) .nil)) Tryz.func12 (by kernel_rfl) (by kernel_rfl) ?_
  rintro _ _ _ _ ⟨⟨ext, sets⟩, rfl, rfl, hm, rfl, rfl⟩
  simp only [Kern.bulk] at hm
  have hkl := setsBulk_len sets
  conv => whnf
  (repeat ((first | with_reducible refine And.intro (fun h => h) ?_ | with_reducible refine And.intro (fun _ => rfl) ?_ | with_reducible refine And.intro rfl ?_); conv => whnf))
  refine ⟨fun h => ?_, fun _ => ?_⟩
  · exfalso; simp at h
  conv => whnf
  refine ⟨[], [2, 3, 5], 2, fun n1 σ => ∃ i : Nat, i ≤ ext.length ∧ n1 = ext.length - i ∧ σ = (⟨[.junk, .junk, .one (.ptr 0 0), .one (.ptr 1 0), .junk, .di .i64 i, .junk, .junk, .junk, .junk, .junk, .junk, .junk, .junk, .junk, .junk, .junk, .junk, .junk, .junk, .junk, .junk, .junk, .junk, .junk, .junk, .junk, .junk, .junk, .junk, .junk, .junk, .junk, .junk, .junk, .junk, .junk, .junk, .junk, .junk, .junk, .junk, .junk, .junk, .junk, .junk, .junk, .junk, .junk, .junk, .junk, .junk, .junk, .junk, .junk, .junk, .junk, .junk, .junk, .junk, .junk, .junk, .junk, .junk, .junk, .junk, .junk, .junk, .junk, .junk, .junk, .junk, .junk, .junk, .junk, .junk, .junk, .junk, .junk, .junk, .junk, .junk, .junk, .junk], [.box (List.map .d (Kern.mk ext sets).c), .box (List.map .d (Kern.mk ext sets).c)]⟩ : St), ?_, ?_⟩
  · refine ⟨ext.length, ?_⟩
    conv => whnf
    exact ⟨0, by omega, by omega, rfl⟩
  · rintro n1 _ ⟨i, hi, rfl, rfl⟩
    conv => whnf
    rw [ints_len]
    ((with_reducible refine And.intro (fun (e : (_ : Bool) = true) => ?_) (fun (e : (_ : Bool) = false) => ?_)) <;> (try simp only [reduceCtorEq, ints_len, bools_len, bif_t, bif_f, zv0, zv1, zv2, zv3, zv4, zv5, zv6, zv7, zv8, zv9, zv10, zv11, zv12, zv13, zv14, zv15, zv16, zv17, zv18, zv19, zv20, zv21, zv22, zv23, zv24] at e) <;> (conv => whnf))
    · obtain ⟨s, hs⟩ := get_lt (l := ext) (i := i) (by omega)
      (refine ⟨_, And.intro ⟨by omega, enc_get hs⟩ ?_⟩; (conv => whnf))
      (refine ⟨_, And.intro ⟨by omega, enc_get hs⟩ ?_⟩; (conv => whnf))
      refine ⟨fun h => ?_, fun _ => ?_⟩
      · exfalso; simp at h
      conv => whnf
      (refine And.intro ?_ ?_; ((first | (with_reducible assumption) | (intro _; with_reducible assumption) | omega | (simp only [reduceCtorEq, ints_len, bools_len, bif_t, bif_f, zv0, zv1, zv2, zv3, zv4, zv5, zv6, zv7, zv8, zv9, zv10, zv11, zv12, zv13, zv14, zv15, zv16, zv17, zv18, zv19, zv20, zv21, zv22, zv23, zv24] at *; omega) | (intro hg; (try simp only [reduceCtorEq, ints_len, bools_len, bif_t, bif_f, zv0, zv1, zv2, zv3, zv4, zv5, zv6, zv7, zv8, zv9, zv10, zv11, zv12, zv13, zv14, zv15, zv16, zv17, zv18, zv19, zv20, zv21, zv22, zv23, zv24] at hg); first | (with_reducible assumption) | omega | (simp only [reduceCtorEq, ints_len, bools_len, bif_t, bif_f, zv0, zv1, zv2, zv3, zv4, zv5, zv6, zv7, zv8, zv9, zv10, zv11, zv12, zv13, zv14, zv15, zv16, zv17, zv18, zv19, zv20, zv21, zv22, zv23, zv24] at *; omega) | (refine ⟨?_, ?_⟩ <;> omega)) | (refine ⟨?_, ?_⟩ <;> omega) | (simp [*]; done) | grind)); (conv => whnf))
      refine ⟨ext.length - (i + 1), by omega, [], ?_⟩
      conv => whnf
      exact ⟨i + 1, by omega, rfl, rfl⟩
    · refine ⟨[], [2, 3, 6], 2, fun n1 σ => ∃ i : Nat, i ≤ sets.length ∧ n1 = sets.length - i ∧ σ = (⟨[.junk, .junk, .one (.ptr 0 0), .one (.ptr 1 0), .junk, .junk, .di .i64 i, .junk, .junk, .junk, .junk, .junk, .junk, .junk, .junk, .junk, .junk, .junk, .junk, .junk, .junk, .junk, .junk, .junk, .junk, .junk, .junk, .junk, .junk, .junk, .junk, .junk, .junk, .junk, .junk, .junk, .junk, .junk, .junk, .junk, .junk, .junk, .junk, .junk, .junk, .junk, .junk, .junk, .junk, .junk, .junk, .junk, .junk, .junk, .junk, .junk, .junk, .junk, .junk, .junk, .junk, .junk, .junk, .junk, .junk, .junk, .junk, .junk, .junk, .junk, .junk, .junk, .junk, .junk, .junk, .junk, .junk, .junk, .junk, .junk, .junk, .junk, .junk, .junk], [.box (List.map .d (Kern.mk ext sets).c), .box (List.map .d (Kern.mk ext sets).c)]⟩ : St), ?_, ?_⟩
      · refine ⟨sets.length, ?_⟩
        conv => whnf
        exact ⟨0, by omega, by omega, rfl⟩
      · rintro n1 _ ⟨i, hi, rfl, rfl⟩
        conv => whnf
        rw [map_len]
        ((with_reducible refine And.intro (fun (e : (_ : Bool) = true) => ?_) (fun (e : (_ : Bool) = false) => ?_)) <;> (try simp only [reduceCtorEq, ints_len, bools_len, bif_t, bif_f, zv0, zv1, zv2, zv3, zv4, zv5, zv6, zv7, zv8, zv9, zv10, zv11, zv12, zv13, zv14, zv15, zv16, zv17, zv18, zv19, zv20, zv21, zv22, zv23, zv24] at e) <;> (conv => whnf))
        · obtain ⟨x, hget⟩ := get_lt (l := sets) (i := i) (by omega)
          have hb := setsBulk_get hget
          obtain ⟨⟨xa, xb, xs⟩, mask, ⟨op, kind, n, ⟨ra, rb, rs⟩, kids⟩⟩ := x
          simp only [ASet.bulk] at hb
          repeat' (first | (refine And.intro ?_ ?_ <;> (conv => whnf)) | (refine ⟨_, And.intro ⟨by omega, enc_get hget⟩ ?_⟩; (conv => whnf)))
          all_goals
            (refine ⟨[], false, false, ?_⟩; (conv => whnf); refine ⟨_, _, ⟨⟨xa, xb, xs⟩, rfl, rfl, by simp only; omega, rfl, rfl⟩, ?_⟩; (conv => whnf))
            (repeat ((first | with_reducible refine And.intro (fun h => h) ?_ | with_reducible refine And.intro (fun _ => rfl) ?_ | with_reducible refine And.intro rfl ?_); conv => whnf))
            refine ⟨fun _ => ?_, fun h => ?_⟩
            rotate_left
            · exfalso; simp at h
            conv => whnf
            (repeat ((first | with_reducible refine And.intro (fun h => h) ?_ | with_reducible refine And.intro (fun _ => rfl) ?_ | with_reducible refine And.intro rfl ?_); conv => whnf))
            (refine ⟨[], false, false, ?_⟩; (conv => whnf); refine ⟨_, _, ⟨mask, rfl, rfl, by omega, by omega, rfl, rfl⟩, ?_⟩; (conv => whnf))
            (repeat ((first | with_reducible refine And.intro (fun h => h) ?_ | with_reducible refine And.intro (fun _ => rfl) ?_ | with_reducible refine And.intro rfl ?_); conv => whnf))
            refine ⟨fun _ => ?_, fun h => ?_⟩
            rotate_left
            · exfalso; simp at h
            conv => whnf
            (repeat ((first | with_reducible refine And.intro (fun h => h) ?_ | with_reducible refine And.intro (fun _ => rfl) ?_ | with_reducible refine And.intro rfl ?_); conv => whnf))
            refine ⟨fun _ => ?_, fun h => ?_⟩
            rotate_left
            · exfalso; simp at h
            conv => whnf
            (repeat ((first | with_reducible refine And.intro (fun h => h) ?_ | with_reducible refine And.intro (fun _ => rfl) ?_ | with_reducible refine And.intro rfl ?_); conv => whnf))
            refine ⟨fun _ => ?_, fun h => ?_⟩
            rotate_left
            · exfalso; simp at h
            conv => whnf
            (repeat ((first | with_reducible refine And.intro (fun h => h) ?_ | with_reducible refine And.intro (fun _ => rfl) ?_ | with_reducible refine And.intro rfl ?_); conv => whnf))
            (refine ⟨[], false, false, ?_⟩; (conv => whnf); refine ⟨_, _, ⟨[.mk op kind n ⟨ra, rb, rs⟩ kids], rfl, rfl, by simp only [treesBulk]; omega, by omega, rfl, rfl⟩, ?_⟩; (conv => whnf))
            (repeat ((first | with_reducible refine And.intro (fun h => h) ?_ | with_reducible refine And.intro (fun _ => rfl) ?_ | with_reducible refine And.intro rfl ?_); conv => whnf))
            refine ⟨fun h => ?_, fun _ => ?_⟩
            · exfalso; simp at h
            conv => whnf
            (refine And.intro ?_ ?_; ((first | (with_reducible assumption) | (intro _; with_reducible assumption) | omega | (simp only [reduceCtorEq, ints_len, bools_len, bif_t, bif_f, zv0, zv1, zv2, zv3, zv4, zv5, zv6, zv7, zv8, zv9, zv10, zv11, zv12, zv13, zv14, zv15, zv16, zv17, zv18, zv19, zv20, zv21, zv22, zv23, zv24] at *; omega) | (intro hg; (try simp only [reduceCtorEq, ints_len, bools_len, bif_t, bif_f, zv0, zv1, zv2, zv3, zv4, zv5, zv6, zv7, zv8, zv9, zv10, zv11, zv12, zv13, zv14, zv15, zv16, zv17, zv18, zv19, zv20, zv21, zv22, zv23, zv24] at hg); first | (with_reducible assumption) | omega | (simp only [reduceCtorEq, ints_len, bools_len, bif_t, bif_f, zv0, zv1, zv2, zv3, zv4, zv5, zv6, zv7, zv8, zv9, zv10, zv11, zv12, zv13, zv14, zv15, zv16, zv17, zv18, zv19, zv20, zv21, zv22, zv23, zv24] at *; omega) | (refine ⟨?_, ?_⟩ <;> omega)) | (refine ⟨?_, ?_⟩ <;> omega) | (simp [*]; done) | grind)); (conv => whnf))
            refine ⟨sets.length - (i + 1), by omega, [], ?_⟩
            conv => whnf
            exact ⟨i + 1, by omega, rfl, rfl⟩
        · (refine ⟨[], ?_⟩; (conv => whnf); refine ⟨[], .nil, .nil, ?_⟩; (conv => whnf))
end Go.Proofs.YtahdihhhankhdaaGreat.V
-- Zl
namespace Go.Proofs.YtahdihhhankhdaaGreat.V
open Go.Proofs.YtahdihhhankhdaaGreatVY Go.RowKit
mutual
/-- how many nodes, up to a bound -/
def nodesT : Tree → Int → Int
  | .mk _ _ _ _ kids, most => nodesL kids most 0
def nodesL : List Tree → Int → Int → Int
  | [], _, n => n
  | t :: l, most, n => if n ≤ most then nodesL l most (n + (1 + nodesT t (most - n))) else n
end
mutual
theorem nodesT_bd : ∀ (t : Tree) (most : Int), 0 ≤ nodesT t most ∧ nodesT t most + 1 ≤ t.bulk
  | .mk op kind n ref kids, most => by
    have := nodesL_bd kids most 0
    rw [nodesT, Tree.bulk]; omega
theorem nodesL_bd : ∀ (l : List Tree) (most n : Int), n ≤ nodesL l most n ∧ nodesL l most n ≤ n + treesBulk l
  | [], most, n => by simp [nodesL, treesBulk]
  | t :: l, most, n => by
    rw [nodesL, treesBulk]
    split
    · have h1 := nodesT_bd t (most - n)
      have h2 := nodesL_bd l most (n + (1 + nodesT t (most - n)))
      omega
    · omega
end
theorem nodesL_at {l : List Tree} {i : Nat} {x : Tree} {most c : Int} (h : l[i]? = some x) (hc : c ≤ most) : nodesL (l.drop i) most c = nodesL (l.drop (i + 1)) most (c + (1 + nodesT x (most - c))) := by
  obtain ⟨h1, h2⟩ := List.getElem?_eq_some_iff.1 h
  rw [List.drop_eq_getElem_cons h1, h2, nodesL, if_pos hc]
theorem nodesL_end {l : List Tree} {i : Nat} {most c : Int} (h : l.length ≤ i ∨ most < c) : nodesL (l.drop i) most c = c := by
  by_cases hi : l.length ≤ i
  · rw [List.drop_eq_nil_of_le hi, nodesL]
  · cases hd : l.drop i with
    | nil => rw [nodesL]
    | cons t l' => rw [nodesL, if_neg (by omega)]
def R14 (m : Nat) : Ct := fun ss hp r out => ∃ (l : List Tree) (most : Int), ss = [.one (.d (.sl 7 (l.map Tree.c))), .di .i64 most] ∧ hp = [] ∧ treesBulk l < m ∧ m ≤ 4194305 ∧ 0 ≤ most ∧ most ≤ 500 ∧ r = .di .i64 (nodesL l most 0) ∧ out = []
theorem ok14_0 : VSound Tryz.prog (14, R14 0) := by
  refine .inl ⟨?_, enterB_ok (by kernel_rfl)⟩
  unfold Ok
  intros
  rename_i hR
  obtain ⟨t, _, _, _, h, _⟩ := hR
  omega
set_option maxHeartbeats 4000000 in
theorem ok14_s (m : Nat) (ih : VSound Tryz.prog (14, R14 m)) : VSound Tryz.prog (14, R14 (m + 1)) := by
  refine vsound (T := ty) (F := [(14, R14 m)]) (pl := []) (nw := true) (cuts := []) mix tyOk (.cons (ih) .nil) Tryz.func14 (by kernel_rfl) (by kernel_rfl) ?_
  rintro _ _ _ _ ⟨l, most, rfl, rfl, hm, hm2, hb0, hb5, rfl, rfl⟩
  have hkl := treesBulk_len l
  conv => whnf
  refine ⟨[], [0, 1, 5, 6], 0, fun n1 σ => ∃ (i : Nat) (c : Int), i ≤ l.length ∧ n1 = l.length - i ∧ 0 ≤ c ∧ c ≤ treesBulk (l.take i) ∧ nodesL (l.drop i) most c = nodesL l most 0 ∧ σ = (⟨[.one (.d (.sl 7 (l.map Tree.c))), .di .i64 most, .junk, .junk, .junk, .di .i64 c, .di .i64 i, .junk, .junk, .junk, .junk, .junk, .junk, .junk, .junk, .junk, .junk, .junk, .junk, .junk, .junk, .junk, .junk, .junk, .junk, .junk, .junk, .junk, .junk, .junk, .junk], []⟩ : St), ?_, ?_⟩
  · refine ⟨l.length, ?_⟩
    conv => whnf
    exact ⟨0, 0, by omega, by omega, by omega, by simp [treesBulk], rfl, rfl⟩
  · rintro n1 _ ⟨i, c, hi, rfl, hc0, hc1, heq, rfl⟩
    have htb := treesBulk_take l i
    conv => whnf
    rw [map_len]
    (repeat ((first | with_reducible refine And.intro (fun h => h) ?_ | with_reducible refine And.intro (fun _ => rfl) ?_ | with_reducible refine And.intro rfl ?_); conv => whnf))
    ((with_reducible refine And.intro (fun (e : (_ : Bool) = true) => ?_) (fun (e : (_ : Bool) = false) => ?_)) <;> (try simp only [reduceCtorEq, ints_len, bools_len, bif_t, bif_f, zv0, zv1, zv2, zv3, zv4, zv5, zv6, zv7, zv8, zv9, zv10, zv11, zv12, zv13, zv14, zv15, zv16, zv17, zv18, zv19, zv20, zv21, zv22, zv23, zv24] at e) <;> (conv => whnf))
    · have e1 : i < l.length ∧ c ≤ most := by omega
      obtain ⟨x, hget⟩ := get_lt (l := l) (i := i) e1.1
      have hb := treesBulk_get hget
      have htk := treesBulk_take1 hget
      have htb2 := treesBulk_take l (i + 1)
      have hat := nodesL_at (most := most) (c := c) hget e1.2
      have hnb := nodesT_bd x (most - c)
      obtain ⟨xop, xkind, xn, ⟨xa, xb, xs⟩, xkids⟩ := x
      rw [show nodesT (.mk xop xkind xn ⟨xa, xb, xs⟩ xkids) (most - c) = nodesL xkids (most - c) 0 by rw [nodesT]] at hat hnb
      have hkb : treesBulk xkids < (Tree.mk xop xkind xn ⟨xa, xb, xs⟩ xkids).bulk := by rw [Tree.bulk]; omega
      generalize hB : (Tree.mk xop xkind xn ⟨xa, xb, xs⟩ xkids).bulk = B at *
      (refine ⟨_, And.intro ⟨by omega, enc_get hget⟩ ?_⟩; (conv => whnf))
      (refine And.intro ?_ ?_; ((first | (with_reducible assumption) | (intro _; with_reducible assumption) | omega | (simp only [reduceCtorEq, ints_len, bools_len, bif_t, bif_f, zv0, zv1, zv2, zv3, zv4, zv5, zv6, zv7, zv8, zv9, zv10, zv11, zv12, zv13, zv14, zv15, zv16, zv17, zv18, zv19, zv20, zv21, zv22, zv23, zv24] at *; omega) | (intro hg; (try simp only [reduceCtorEq, ints_len, bools_len, bif_t, bif_f, zv0, zv1, zv2, zv3, zv4, zv5, zv6, zv7, zv8, zv9, zv10, zv11, zv12, zv13, zv14, zv15, zv16, zv17, zv18, zv19, zv20, zv21, zv22, zv23, zv24] at hg); first | (with_reducible assumption) | omega | (simp only [reduceCtorEq, ints_len, bools_len, bif_t, bif_f, zv0, zv1, zv2, zv3, zv4, zv5, zv6, zv7, zv8, zv9, zv10, zv11, zv12, zv13, zv14, zv15, zv16, zv17, zv18, zv19, zv20, zv21, zv22, zv23, zv24] at *; omega) | (refine ⟨?_, ?_⟩ <;> omega)) | (refine ⟨?_, ?_⟩ <;> omega) | (simp [*]; done) | grind)); (conv => whnf))
      rw [treesC_map]
      (refine ⟨[], false, false, ?_⟩; (conv => whnf); refine ⟨_, _, ⟨xkids, most - c, rfl, rfl, by omega, by omega, by omega, by omega, rfl, rfl⟩, ?_⟩; (conv => whnf))
      (refine And.intro ?_ ?_; ((first | (with_reducible assumption) | (intro _; with_reducible assumption) | omega | (simp only [reduceCtorEq, ints_len, bools_len, bif_t, bif_f, zv0, zv1, zv2, zv3, zv4, zv5, zv6, zv7, zv8, zv9, zv10, zv11, zv12, zv13, zv14, zv15, zv16, zv17, zv18, zv19, zv20, zv21, zv22, zv23, zv24] at *; omega) | (intro hg; (try simp only [reduceCtorEq, ints_len, bools_len, bif_t, bif_f, zv0, zv1, zv2, zv3, zv4, zv5, zv6, zv7, zv8, zv9, zv10, zv11, zv12, zv13, zv14, zv15, zv16, zv17, zv18, zv19, zv20, zv21, zv22, zv23, zv24] at hg); first | (with_reducible assumption) | omega | (simp only [reduceCtorEq, ints_len, bools_len, bif_t, bif_f, zv0, zv1, zv2, zv3, zv4, zv5, zv6, zv7, zv8, zv9, zv10, zv11, zv12, zv13, zv14, zv15, zv16, zv17, zv18, zv19, zv20, zv21, zv22, zv23, zv24] at *; omega) | (refine ⟨?_, ?_⟩ <;> omega)) | (refine ⟨?_, ?_⟩ <;> omega) | (simp [*]; done) | grind)); (conv => whnf))
      (refine And.intro ?_ ?_; ((first | (with_reducible assumption) | (intro _; with_reducible assumption) | omega | (simp only [reduceCtorEq, ints_len, bools_len, bif_t, bif_f, zv0, zv1, zv2, zv3, zv4, zv5, zv6, zv7, zv8, zv9, zv10, zv11, zv12, zv13, zv14, zv15, zv16, zv17, zv18, zv19, zv20, zv21, zv22, zv23, zv24] at *; omega) | (intro hg; (try simp only [reduceCtorEq, ints_len, bools_len, bif_t, bif_f, zv0, zv1, zv2, zv3, zv4, zv5, zv6, zv7, zv8, zv9, zv10, zv11, zv12, zv13, zv14, zv15, zv16, zv17, zv18, zv19, zv20, zv21, zv22, zv23, zv24] at hg); first | (with_reducible assumption) | omega | (simp only [reduceCtorEq, ints_len, bools_len, bif_t, bif_f, zv0, zv1, zv2, zv3, zv4, zv5, zv6, zv7, zv8, zv9, zv10, zv11, zv12, zv13, zv14, zv15, zv16, zv17, zv18, zv19, zv20, zv21, zv22, zv23, zv24] at *; omega) | (refine ⟨?_, ?_⟩ <;> omega)) | (refine ⟨?_, ?_⟩ <;> omega) | (simp [*]; done) | grind)); (conv => whnf))
      (refine And.intro ?_ ?_; ((first | (with_reducible assumption) | (intro _; with_reducible assumption) | omega | (simp only [reduceCtorEq, ints_len, bools_len, bif_t, bif_f, zv0, zv1, zv2, zv3, zv4, zv5, zv6, zv7, zv8, zv9, zv10, zv11, zv12, zv13, zv14, zv15, zv16, zv17, zv18, zv19, zv20, zv21, zv22, zv23, zv24] at *; omega) | (intro hg; (try simp only [reduceCtorEq, ints_len, bools_len, bif_t, bif_f, zv0, zv1, zv2, zv3, zv4, zv5, zv6, zv7, zv8, zv9, zv10, zv11, zv12, zv13, zv14, zv15, zv16, zv17, zv18, zv19, zv20, zv21, zv22, zv23, zv24] at hg); first | (with_reducible assumption) | omega | (simp only [reduceCtorEq, ints_len, bools_len, bif_t, bif_f, zv0, zv1, zv2, zv3, zv4, zv5, zv6, zv7, zv8, zv9, zv10, zv11, zv12, zv13, zv14, zv15, zv16, zv17, zv18, zv19, zv20, zv21, zv22, zv23, zv24] at *; omega) | (refine ⟨?_, ?_⟩ <;> omega)) | (refine ⟨?_, ?_⟩ <;> omega) | (simp [*]; done) | grind)); (conv => whnf))
      refine ⟨l.length - (i + 1), by omega, [], ?_⟩
      conv => whnf
      exact ⟨i + 1, c + (1 + nodesL xkids (most - c) 0), by omega, rfl, by omega, by rw [htk]; omega, by rw [← hat]; exact heq, rfl⟩
    · have he : nodesL l most 0 = c := by rw [← heq]; exact nodesL_end (by omega)
      rw [he]
      (refine ⟨[], ?_⟩; (conv => whnf); refine ⟨[], .nil, .nil, ?_⟩; (conv => whnf))
theorem ok14 : ∀ m : Nat, VSound Tryz.prog (14, R14 m)
  | 0 => ok14_0
  | m + 1 => ok14_s m (ok14 m)
def nodesS : List ASet → Int
  | [] => 0
  | s :: l => nodesL s.mask 500 0 + nodesL [s.val] 500 0 + nodesS l
theorem nodesS_take1 {l : List ASet} {i : Nat} {x : ASet} (h : l[i]? = some x) : nodesS (l.take (i + 1)) = nodesS (l.take i) + (nodesL x.mask 500 0 + nodesL [x.val] 500 0) := by
  induction l generalizing i with
  | nil => simp at h
  | cons s l ih =>
    cases i with
    | zero => simp at h; subst h; simp [nodesS]
    | succ i => rw [List.take_succ_cons, List.take_succ_cons, nodesS, nodesS, ih (by simpa using h)]; omega
theorem nodesS_bd : ∀ l : List ASet, 0 ≤ nodesS l ∧ nodesS l ≤ setsBulk l
  | [] => by simp [nodesS, setsBulk]
  | s :: l => by
    have h1 := nodesL_bd s.mask 500 0
    have h2 := nodesL_bd [s.val] 500 0
    have h3 := nodesS_bd l
    rw [nodesS, setsBulk, ASet.bulk]
    simp only [treesBulk] at h2
    omega
theorem setsBulk_taken : ∀ (l : List ASet) (i : Nat), setsBulk (l.take i) ≤ setsBulk l
  | [], i => by simp
  | s :: l, 0 => by simp [setsBulk]
  | s :: l, i + 1 => by have := setsBulk_taken l i; rw [List.take_succ_cons, setsBulk, setsBulk]; omega
def largeK (k : Kern) : Bool := decide (10 < k.ext.length ∨ 10 < k.sets.length ∨ 500 < nodesS k.sets)
def R4 : Ct := fun ss hp r out => ∃ k : Kern, ss = [.v (.ag (k.c.map .d))] ∧ hp = [] ∧ k.bulk ≤ 4194304 ∧ r = .db (largeK k) ∧ out = []
set_option maxHeartbeats 4000000 in
theorem ok4 : VSound Tryz.prog (4, R4) := by
  refine vsound (T := ty) (F := [(14, R14 4194305)]) (pl := [(5, [[], [], [1], [], [1, 2, 3], [1, 2, 3, 4], [1, 2, 3, 4, 5], [1, 2, 3, 4, 5, 6], [], [8], [], [8, 9, 10], [8, 9, 10, 11], [8, 9, 10, 11, 12], [8, 9, 10, 11, 12, 13], [1, 2, 3, 4, 5, 6, 7, 8, 9, 10, 11, 12, 13, 14], [1, 2, 3, 4, 5, 6, 7, 8, 9, 10, 11, 12, 13, 14, 15], [0, 1, 2, 3, 4, 5, 6, 7, 8, 9, 10, 11, 12, 13, 14, 15, 16], [0, 1, 2, 3, 4, 5, 6, 7, 8, 9, 10, 11, 12, 13, 14, 15, 16, 17]], .look 0 (.look 1 (.look 2 (.look 3 (.look 4 (.look 5 (.look 6 (.look 8 (.look 9 (.look 10 (.look 11 (.look 12 (.look 13 (.act 7 [0, 8, 9, 10, 11, 12, 13] (.act 14 [0, 1, 2, 3, 4, 5, 6] (.act 15 [0] (.look 16 (.look 17 (.look 18 .done))) .stop) .stop) (.act 14 [0, 1, 2, 3, 4, 5, 6] (.act 7 [0, 8, 9, 10, 11, 12, 13] (.act 15 [0] (.look 16 (.look 17 (.look 18 .done))) .stop) .stop) .stop)))))))))))))))]) (nw := true) (cuts := []) mix tyOk (.cons (ok14 4194305) .nil) Tryz.func4 (by kernel_rfl) (by kernel_rfl) ?_
  rintro _ _ _ _ ⟨⟨ext, sets⟩, rfl, rfl, hm, rfl, rfl⟩
  simp only [Kern.bulk] at hm
  have hkl := setsBulk_len sets
  conv => whnf
  refine ⟨[], [1, 3, 4], 1, fun n1 σ => ∃ i : Nat, i ≤ sets.length ∧ n1 = sets.length - i ∧ σ = (⟨[.junk, .one (.ptr 0 0), .junk, .di .i64 (nodesS (sets.take i)), .di .i64 i, .junk, .junk, .junk, .junk, .junk, .junk, .junk, .junk, .junk, .junk, .junk, .junk, .junk, .junk, .junk, .junk, .junk, .junk, .junk, .junk, .junk, .junk, .junk, .junk, .junk, .junk, .junk, .junk, .junk, .junk, .junk, .junk, .junk, .junk, .junk, .junk, .junk, .junk, .junk], [.box (List.map .d (Kern.mk ext sets).c)]⟩ : St), ?_, ?_⟩
  · refine ⟨sets.length, ?_⟩
    conv => whnf
    exact ⟨0, by omega, by omega, rfl⟩
  · rintro n1 _ ⟨i, hi, rfl, rfl⟩
    have htb := setsBulk_taken sets i
    have hnb := nodesS_bd (sets.take i)
    conv => whnf
    rw [map_len]
    ((with_reducible refine And.intro (fun (e : (_ : Bool) = true) => ?_) (fun (e : (_ : Bool) = false) => ?_)) <;> (try simp only [reduceCtorEq, ints_len, bools_len, bif_t, bif_f, zv0, zv1, zv2, zv3, zv4, zv5, zv6, zv7, zv8, zv9, zv10, zv11, zv12, zv13, zv14, zv15, zv16, zv17, zv18, zv19, zv20, zv21, zv22, zv23, zv24] at e) <;> (conv => whnf))
    · obtain ⟨x, hget⟩ := get_lt (l := sets) (i := i) (by omega)
      have hb := setsBulk_get hget
      have htk := nodesS_take1 hget
      have htb2 := setsBulk_taken sets (i + 1)
      have hnb2 := nodesS_bd (sets.take (i + 1))
      obtain ⟨⟨xa, xb, xs⟩, mask, ⟨op, kind, n, ⟨ra, rb, rs⟩, kids⟩⟩ := x
      simp only [ASet.bulk] at hb
      have hn1 := nodesL_bd mask 500 0
      have hn2 := nodesL_bd [.mk op kind n ⟨ra, rb, rs⟩ kids] 500 0
      have hB1 : treesBulk [.mk op kind n ⟨ra, rb, rs⟩ kids] < 4194305 := by simp only [treesBulk]; omega
      (refine ⟨_, And.intro ⟨by omega, enc_get hget⟩ ?_⟩; (conv => whnf))
      (refine ⟨_, And.intro ⟨by omega, enc_get hget⟩ ?_⟩; (conv => whnf))
      repeat' (first | (refine And.intro ?_ ?_; ((first | (with_reducible assumption) | (intro _; with_reducible assumption) | omega | (simp only [reduceCtorEq, ints_len, bools_len, bif_t, bif_f, zv0, zv1, zv2, zv3, zv4, zv5, zv6, zv7, zv8, zv9, zv10, zv11, zv12, zv13, zv14, zv15, zv16, zv17, zv18, zv19, zv20, zv21, zv22, zv23, zv24] at *; omega) | (intro hg; (try simp only [reduceCtorEq, ints_len, bools_len, bif_t, bif_f, zv0, zv1, zv2, zv3, zv4, zv5, zv6, zv7, zv8, zv9, zv10, zv11, zv12, zv13, zv14, zv15, zv16, zv17, zv18, zv19, zv20, zv21, zv22, zv23, zv24] at hg); first | (with_reducible assumption) | omega | (simp only [reduceCtorEq, ints_len, bools_len, bif_t, bif_f, zv0, zv1, zv2, zv3, zv4, zv5, zv6, zv7, zv8, zv9, zv10, zv11, zv12, zv13, zv14, zv15, zv16, zv17, zv18, zv19, zv20, zv21, zv22, zv23, zv24] at *; omega) | (refine ⟨?_, ?_⟩ <;> omega)) | (refine ⟨?_, ?_⟩ <;> omega) | (simp [*]; done) | grind)); (conv => whnf)) | (refine And.intro ?_ ?_ <;> (conv => whnf)) | (refine ⟨[], false, false, ?_⟩; (conv => whnf); refine ⟨_, _, ⟨mask, 500, rfl, rfl, by omega, by omega, by omega, by omega, rfl, rfl⟩, ?_⟩; (conv => whnf)) | (refine ⟨[], false, false, ?_⟩; (conv => whnf); refine ⟨_, _, ⟨[.mk op kind n ⟨ra, rb, rs⟩ kids], 500, rfl, rfl, hB1, by omega, by omega, by omega, rfl, rfl⟩, ?_⟩; (conv => whnf)))
      all_goals
        refine ⟨sets.length - (i + 1), by omega, [], ?_⟩
        conv => whnf
        refine ⟨i + 1, by omega, rfl, ?_⟩
        rw [htk]; rfl
    · have hi' : i = sets.length := by omega
      subst hi'
      rw [List.take_length] at *
      (repeat ((first | with_reducible refine And.intro (fun h => h) ?_ | with_reducible refine And.intro (fun _ => rfl) ?_ | with_reducible refine And.intro rfl ?_); conv => whnf))
      (refine ⟨[], ?_⟩; (conv => whnf); refine ⟨[], .nil, .nil, ?_⟩; (conv => whnf))
      congr 1
      unfold largeK
      simp only [ints_len, map_len]
      rw [show decide ((ext.length : Int) > 10) = decide (10 < ext.length) from decide_eq_decide.2 (by omega), show decide ((sets.length : Int) > 10) = decide (10 < sets.length) from decide_eq_decide.2 (by omega)]
      by_cases h1 : 10 < ext.length <;> by_cases h2 : 10 < sets.length <;> simp [h1, h2]
end Go.Proofs.YtahdihhhankhdaaGreat.V
-- Zm
namespace Go.Proofs.YtahdihhhankhdaaGreat.V
open Go.Proofs.YtahdihhhankhdaaGreatVY Go.RowKit
def loadB : ByteArray := ⟨#[108, 111, 97, 100]⟩
def K0 : Kern := ⟨[4], [⟨⟨0, 1, [1]⟩, [], .mk loadB 1 0 ⟨0, 0, [1]⟩ []⟩]⟩
def upN (i : Nat) : List Int := (List.range i).map fun (n : Nat) => (n : Int) + 1
def trues (i : Nat) : List Bool := List.replicate i true
theorem upN_succ (i : Nat) : upN (i + 1) = upN i ++ [(i : Int) + 1] := by unfold upN; rw [List.range_succ, List.map_append]; rfl
theorem trues_succ (i : Nat) : trues (i + 1) = trues i ++ [true] := List.replicate_succ'
theorem upN_len (i : Nat) : (upN i).length = i := by simp [upN]
theorem trues_len (i : Nat) : (trues i).length = i := by simp [trues]
/-- a store of ints -/
def storeC (N : List Int) (B : List Bool) : List D := [.int .i64 1, .sl 1 (N.map inC), .sl 1 (bools B)]
def R15 : Ct := fun ss hp r out => ss = [.di .i64 4] ∧ hp = [] ∧ r = .tup [.c (.own 0), .ag (K0.c.map .d)] ∧ out = [.row 3 [storeC (upN 5) (trues 5)]]
set_option maxHeartbeats 4000000 in
theorem ok15 : VSound Tryz.prog (15, R15) := by
  refine vsound (T := ty) (F := []) (pl := [(5, [[], [0], [], [2], [2, 3], [0, 1, 2, 3, 4], [], [6], [], [0, 1, 2, 3, 4, 5, 6, 7, 8], [0, 1, 2, 3, 4, 5, 6, 7], [0, 1, 2, 3, 4, 5, 6, 7, 8, 9, 10], [0, 1, 2, 3, 4, 5, 6, 7, 8, 9, 10, 11], [0, 1, 2, 3, 4, 5, 6, 7, 8, 9, 10, 11, 12]], .look 0 (.look 1 (.look 2 (.look 3 (.look 6 (.look 7 (.act 4 [0, 1, 6, 7] (.act 5 [6, 7] (.look 10 (.act 8 [0, 1, 2, 3, 6, 7, 10] (.act 9 [10] (.act 11 [] (.look 12 (.act 13 [] .done .stop)) .stop) .stop) .stop)) (.act 8 [0, 1, 2, 3, 6, 7] (.act 5 [6, 7] (.look 10 (.act 9 [10] (.act 11 [] (.look 12 (.act 13 [] .done .stop)) .stop) .stop)) .stop) .stop)) (.act 8 [0, 1, 2, 3, 6, 7] (.act 4 [0, 1, 6, 7] (.act 5 [6, 7] (.look 10 (.act 9 [10] (.act 11 [] (.look 12 (.act 13 [] .done .stop)) .stop) .stop)) .stop) .stop) .stop)))))))), (7, [[], [0], [], [0, 1], [0, 1, 2, 3]], .look 0 (.look 2 (.act 1 [2] (.look 3 (.act 4 [] .done .stop)) .stop)))]) (nw := true) (cuts := []) mix tyOk .nil Tryz.func15 (by kernel_rfl) (by kernel_rfl) ?_
  rintro _ _ _ _ ⟨rfl, rfl, rfl, rfl⟩
  conv => whnf
  refine ⟨[.cell 1 1, .cell 1 2], [0, 3, 4, 5], 4, fun n1 σ => ∃ i : Nat, i ≤ 5 ∧ n1 = 5 - i ∧ σ = (⟨[.di .i64 4, .junk, .junk, .one (.ptr 0 0), .one (.ptr 1 0), .di .i64 i, .junk, .junk, .junk, .junk, .junk, .junk, .junk, .junk, .junk, .junk, .junk, .junk, .junk, .junk, .junk, .junk, .junk, .junk, .junk, .junk, .junk, .junk, .junk, .junk, .junk, .junk, .junk, .junk, .junk, .junk, .junk, .junk], [.box [.emp 1, .emp 11], .box [.d (.int .i64 1), .own 2, .own 3], .row 1 ((upN i).map inC), .row 1 (bools (trues i))]⟩ : St), ?_, ?_⟩
  · refine ⟨5, ?_⟩
    conv => whnf
    exact ⟨0, by omega, by omega, rfl⟩
  · rintro n1 _ ⟨i, hi, rfl, rfl⟩
    conv => whnf
    ((with_reducible refine And.intro (fun (e : (_ : Bool) = true) => ?_) (fun (e : (_ : Bool) = false) => ?_)) <;> (try simp only [reduceCtorEq, ints_len, bools_len, bif_t, bif_f, zv0, zv1, zv2, zv3, zv4, zv5, zv6, zv7, zv8, zv9, zv10, zv11, zv12, zv13, zv14, zv15, zv16, zv17, zv18, zv19, zv20, zv21, zv22, zv23, zv24] at e) <;> (conv => whnf))
    · (refine And.intro ?_ ?_; ((first | (with_reducible assumption) | (intro _; with_reducible assumption) | omega | (simp only [reduceCtorEq, ints_len, bools_len, bif_t, bif_f, zv0, zv1, zv2, zv3, zv4, zv5, zv6, zv7, zv8, zv9, zv10, zv11, zv12, zv13, zv14, zv15, zv16, zv17, zv18, zv19, zv20, zv21, zv22, zv23, zv24] at *; omega) | (intro hg; (try simp only [reduceCtorEq, ints_len, bools_len, bif_t, bif_f, zv0, zv1, zv2, zv3, zv4, zv5, zv6, zv7, zv8, zv9, zv10, zv11, zv12, zv13, zv14, zv15, zv16, zv17, zv18, zv19, zv20, zv21, zv22, zv23, zv24] at hg); first | (with_reducible assumption) | omega | (simp only [reduceCtorEq, ints_len, bools_len, bif_t, bif_f, zv0, zv1, zv2, zv3, zv4, zv5, zv6, zv7, zv8, zv9, zv10, zv11, zv12, zv13, zv14, zv15, zv16, zv17, zv18, zv19, zv20, zv21, zv22, zv23, zv24] at *; omega) | (refine ⟨?_, ?_⟩ <;> omega)) | (refine ⟨?_, ?_⟩ <;> omega) | (simp [*]; done) | grind)); (conv => whnf))
      repeat' (first | (refine And.intro ?_ ?_; (rw [map_len, upN_len]; simp only [List.length_cons, List.length_nil]; omega); (conv => whnf)) | (refine And.intro ?_ ?_; (rw [bools_len, trues_len]; simp only [List.length_cons, List.length_nil]; omega); (conv => whnf)) | (refine And.intro ?_ ?_; ((first | (with_reducible assumption) | (intro _; with_reducible assumption) | omega | (simp only [reduceCtorEq, ints_len, bools_len, bif_t, bif_f, zv0, zv1, zv2, zv3, zv4, zv5, zv6, zv7, zv8, zv9, zv10, zv11, zv12, zv13, zv14, zv15, zv16, zv17, zv18, zv19, zv20, zv21, zv22, zv23, zv24] at *; omega) | (intro hg; (try simp only [reduceCtorEq, ints_len, bools_len, bif_t, bif_f, zv0, zv1, zv2, zv3, zv4, zv5, zv6, zv7, zv8, zv9, zv10, zv11, zv12, zv13, zv14, zv15, zv16, zv17, zv18, zv19, zv20, zv21, zv22, zv23, zv24] at hg); first | (with_reducible assumption) | omega | (simp only [reduceCtorEq, ints_len, bools_len, bif_t, bif_f, zv0, zv1, zv2, zv3, zv4, zv5, zv6, zv7, zv8, zv9, zv10, zv11, zv12, zv13, zv14, zv15, zv16, zv17, zv18, zv19, zv20, zv21, zv22, zv23, zv24] at *; omega) | (refine ⟨?_, ?_⟩ <;> omega)) | (refine ⟨?_, ?_⟩ <;> omega) | (simp [*]; done) | grind)); (conv => whnf)) | (refine And.intro ?_ ?_ <;> (conv => whnf)))
      all_goals
        refine ⟨5 - (i + 1), by omega, [], ?_⟩
        conv => whnf
        refine ⟨i + 1, by omega, rfl, ?_⟩
        rw [upN_succ, trues_succ, List.map_append]; unfold bools; rw [List.map_append]; rfl
    · have hi' : i = 5 := by omega
      subst hi'
      refine ⟨[], ?_⟩
      conv => whnf
      refine ⟨[9], by simp, .cons ⟨_, rfl, rfl, ?_⟩ .nil, .cons rfl (.cons ?_ .nil)⟩
      · rfl
      · exact .cons (.inl ⟨rfl, by simp⟩) (.cons (.inl ⟨rfl, by simp⟩) .nil)
end Go.Proofs.YtahdihhhankhdaaGreat.V
-- Zn
namespace Go.Proofs.YtahdihhhankhdaaGreat.V
open Go.Proofs.YtahdihhhankhdaaGreatVY Go.RowKit
def R78 : Ct := fun ss hp r out => ∃ n : Int, ss = [.di .i64 1, .di .i64 n] ∧ hp = [] ∧ 1 ≤ n ∧ n ≤ 5 ∧ r = .db true ∧ out = []
/-- of a function that is not reached nothing is asked -/
def noR : Ct := fun _ _ _ _ => False
theorem noOk {f : Nat} (h : enterB Tryz.prog f = true) : VSound Tryz.prog (f, noR) := by
  refine .inl ⟨?_, enterB_ok h⟩
  unfold Ok
  intros
  rename_i hR
  exact hR.elim
set_option maxHeartbeats 4000000 in
theorem ok78 : VSound Tryz.prog (78, R78) := by
  refine vsound (T := ty) (F := [(97, noR), (98, noR)]) (pl := []) (nw := true) (cuts := []) mix tyOk (.cons (noOk (by kernel_rfl)) (.cons (noOk (by kernel_rfl)) .nil)) Tryz.func78 (by kernel_rfl) (by kernel_rfl) ?_
  rintro _ _ _ _ ⟨n, rfl, rfl, h1, h5, rfl, rfl⟩
  conv => whnf
  refine ⟨fun _ => ?_, fun h => absurd h (by decide)⟩
  conv => whnf
  (repeat ((first | with_reducible refine And.intro (fun h => h) ?_ | with_reducible refine And.intro (fun _ => rfl) ?_ | with_reducible refine And.intro rfl ?_); conv => whnf))
  (refine ⟨[], ?_⟩; (conv => whnf); refine ⟨[], .nil, .nil, ?_⟩; (conv => whnf))
  congr 1
  simp; omega
def R65 : Ct := fun ss hp r out => ∃ n : Int, ss = [.v (.ag [.d (.int .i64 1), .d (.int .i64 n)])] ∧ hp = [] ∧ 1 ≤ n ∧ n ≤ 5 ∧ r = .db true ∧ out = []
set_option maxHeartbeats 4000000 in
theorem ok65 : VSound Tryz.prog (65, R65) := by
  refine vsound (T := ty) (F := [(78, R78)]) (pl := []) (nw := true) (cuts := []) mix tyOk (.cons (ok78) .nil) Tryz.func65 (by kernel_rfl) (by kernel_rfl) ?_
  rintro _ _ _ _ ⟨n, rfl, rfl, h1, h5, rfl, rfl⟩
  conv => whnf
  (refine ⟨[], false, false, ?_⟩; (conv => whnf); refine ⟨_, _, ⟨n, rfl, rfl, h1, h5, rfl, rfl⟩, ?_⟩; (conv => whnf))
  (refine ⟨[], ?_⟩; (conv => whnf); refine ⟨[], .nil, .nil, ?_⟩; (conv => whnf))
def R64 : Ct := fun ss hp r out => ∃ (n : Int) (N : List Int) (B : List Bool), ss = [.di .i64 n, .one (.pel (storeC N B))] ∧ hp = [] ∧ 1 ≤ n ∧ n ≤ 5 ∧ r = .db false ∧ out = []
set_option maxHeartbeats 4000000 in
theorem ok64 : VSound Tryz.prog (64, R64) := by
  refine vsound (T := ty) (F := [(65, R65)]) (pl := []) (nw := true) (cuts := []) mix tyOk (.cons (ok65) .nil) Tryz.func64 (by kernel_rfl) (by kernel_rfl) ?_
  rintro _ _ _ _ ⟨n, N, B, rfl, rfl, h1, h5, rfl, rfl⟩
  conv => whnf
  (refine ⟨[], false, false, ?_⟩; (conv => whnf); refine ⟨_, _, ⟨n, rfl, rfl, h1, h5, rfl, rfl⟩, ?_⟩; (conv => whnf))
  (refine ⟨[], ?_⟩; (conv => whnf); refine ⟨[], .nil, .nil, ?_⟩; (conv => whnf))
  rfl
/-- what is known of the example's store -/
structure Five (N : List Int) (B : List Bool) : Prop where
  n : N.length = 5
  b : B.length = 5
  at' : ∀ x ∈ N, 1 ≤ x ∧ x ≤ 5
def R44 : Ct := fun ss hp r out => ∃ (N : List Int) (B : List Bool), ss = [.one (.d (.sl 3 [storeC N B]))] ∧ hp = [] ∧ Five N B ∧ r = .db true ∧ out = []
set_option maxHeartbeats 4000000 in
theorem ok44 : VSound Tryz.prog (44, R44) := by
  refine vsound (T := ty) (F := [(53, R53 64 R64)]) (pl := []) (nw := true) (cuts := []) mix tyOk (.cons (ok53 64 R64 ok64) .nil) Tryz.func44 (by kernel_rfl) (by kernel_rfl) ?_
  rintro _ _ _ _ ⟨N, B, rfl, rfl, hF, rfl, rfl⟩
  have hn := hF.n
  have hb := hF.b
  conv => whnf
  (repeat' (first | ((with_reducible refine And.intro (fun (e : (_ : Bool) = true) => ?_) (fun (e : (_ : Bool) = false) => ?_)) <;> (try simp only [reduceCtorEq, ints_len, bools_len, bif_t, bif_f, zv0, zv1, zv2, zv3, zv4, zv5, zv6, zv7, zv8, zv9, zv10, zv11, zv12, zv13, zv14, zv15, zv16, zv17, zv18, zv19, zv20, zv21, zv22, zv23, zv24] at e) <;> (conv => whnf)) | ((with_reducible refine And.intro (fun (e : (_ : Bool) = false) => ?_) (fun (e : (_ : Bool) = true) => ?_)) <;> (try simp only [reduceCtorEq, ints_len, bools_len, bif_t, bif_f, zv0, zv1, zv2, zv3, zv4, zv5, zv6, zv7, zv8, zv9, zv10, zv11, zv12, zv13, zv14, zv15, zv16, zv17, zv18, zv19, zv20, zv21, zv22, zv23, zv24] at e) <;> (conv => whnf)) | (refine And.intro ?_ ?_; ((first | (with_reducible assumption) | (intro _; with_reducible assumption) | omega | (simp only [reduceCtorEq, ints_len, bools_len, bif_t, bif_f, zv0, zv1, zv2, zv3, zv4, zv5, zv6, zv7, zv8, zv9, zv10, zv11, zv12, zv13, zv14, zv15, zv16, zv17, zv18, zv19, zv20, zv21, zv22, zv23, zv24] at *; omega) | (intro hg; (try simp only [reduceCtorEq, ints_len, bools_len, bif_t, bif_f, zv0, zv1, zv2, zv3, zv4, zv5, zv6, zv7, zv8, zv9, zv10, zv11, zv12, zv13, zv14, zv15, zv16, zv17, zv18, zv19, zv20, zv21, zv22, zv23, zv24] at hg); first | (with_reducible assumption) | omega | (simp only [reduceCtorEq, ints_len, bools_len, bif_t, bif_f, zv0, zv1, zv2, zv3, zv4, zv5, zv6, zv7, zv8, zv9, zv10, zv11, zv12, zv13, zv14, zv15, zv16, zv17, zv18, zv19, zv20, zv21, zv22, zv23, zv24] at *; omega) | (refine ⟨?_, ?_⟩ <;> omega)) | (refine ⟨?_, ?_⟩ <;> omega) | (simp [*]; done) | grind)); (conv => whnf))))
  all_goals try (exfalso; simp at e; done)
  refine ⟨[], [0, 8, 9, 10], 0, fun n1 σ => ∃ i : Nat, i ≤ 1 ∧ n1 = 1 - i ∧ σ = (⟨[.one (.d (.sl 3 [storeC N B])), .junk, .junk, .junk, .junk, .junk, .junk, .junk, .one (.d (.sl 3 [storeC N B])), .di .i64 1, .di .i64 i, .junk, .junk, .junk, .junk, .junk, .junk, .junk, .junk, .junk, .junk, .junk, .junk, .junk, .junk, .junk, .junk, .junk, .junk, .junk, .junk, .junk, .junk, .junk, .junk, .junk, .junk, .junk, .junk, .junk, .junk, .junk], []⟩ : St), ?_, ?_⟩
  · refine ⟨1, ?_⟩
    conv => whnf
    exact ⟨0, by omega, by omega, rfl⟩
  · rintro n1 _ ⟨i, hi, rfl, rfl⟩
    conv => whnf
    ((with_reducible refine And.intro (fun (e : (_ : Bool) = true) => ?_) (fun (e : (_ : Bool) = false) => ?_)) <;> (try simp only [reduceCtorEq, ints_len, bools_len, bif_t, bif_f, zv0, zv1, zv2, zv3, zv4, zv5, zv6, zv7, zv8, zv9, zv10, zv11, zv12, zv13, zv14, zv15, zv16, zv17, zv18, zv19, zv20, zv21, zv22, zv23, zv24] at e) <;> (conv => whnf))
    · have hi' : i = 0 := by omega
      subst hi'
      refine ⟨_, And.intro ⟨by omega, rfl⟩ ?_⟩
      conv => whnf
      (repeat ((first | with_reducible refine And.intro (fun h => h) ?_ | with_reducible refine And.intro (fun _ => rfl) ?_ | with_reducible refine And.intro rfl ?_); conv => whnf))
      refine ⟨fun h => ?_, fun _ => ?_⟩
      · exfalso; simp [bools_len, hn, hb] at h
      conv => whnf
      (refine ⟨[], false, false, ?_⟩; (conv => whnf); refine ⟨_, _, ⟨N, _, fun _ => false, rfl, rfl, by omega, rfl, fun x hx => ⟨x, N, B, rfl, rfl, (hF.at' x hx).1, (hF.at' x hx).2, rfl, rfl⟩, rfl, rfl⟩, ?_⟩; (conv => whnf))
      refine ⟨fun h => ?_, fun _ => ?_⟩
      · exfalso; simp at h
      conv => whnf
      (refine And.intro ?_ ?_; ((first | (with_reducible assumption) | (intro _; with_reducible assumption) | omega | (simp only [reduceCtorEq, ints_len, bools_len, bif_t, bif_f, zv0, zv1, zv2, zv3, zv4, zv5, zv6, zv7, zv8, zv9, zv10, zv11, zv12, zv13, zv14, zv15, zv16, zv17, zv18, zv19, zv20, zv21, zv22, zv23, zv24] at *; omega) | (intro hg; (try simp only [reduceCtorEq, ints_len, bools_len, bif_t, bif_f, zv0, zv1, zv2, zv3, zv4, zv5, zv6, zv7, zv8, zv9, zv10, zv11, zv12, zv13, zv14, zv15, zv16, zv17, zv18, zv19, zv20, zv21, zv22, zv23, zv24] at hg); first | (with_reducible assumption) | omega | (simp only [reduceCtorEq, ints_len, bools_len, bif_t, bif_f, zv0, zv1, zv2, zv3, zv4, zv5, zv6, zv7, zv8, zv9, zv10, zv11, zv12, zv13, zv14, zv15, zv16, zv17, zv18, zv19, zv20, zv21, zv22, zv23, zv24] at *; omega) | (refine ⟨?_, ?_⟩ <;> omega)) | (refine ⟨?_, ?_⟩ <;> omega) | (simp [*]; done) | grind)); (conv => whnf))
      refine ⟨0, by omega, [], ?_⟩
      conv => whnf
      exact ⟨1, by omega, by omega, rfl⟩
    · (refine ⟨[], ?_⟩; (conv => whnf); refine ⟨[], .nil, .nil, ?_⟩; (conv => whnf))
end Go.Proofs.YtahdihhhankhdaaGreat.V
-- Zo
namespace Go.Proofs.YtahdihhhankhdaaGreat.V
open Go.Proofs.YtahdihhhankhdaaGreatVY Go.RowKit
def R79 : Ct := fun ss hp r out => ∃ b : Int, ss = [.one (.d (.sl 1 ([4].map inC))), .v (.ag ((Ref.mk 0 b [1]).c.map .d))] ∧ hp = [] ∧ 0 ≤ b ∧ b ≤ 1 ∧ r = .tup [.c (.d (.int .i64 b)), .c (.d (.int .i64 (b + 3)))] ∧ out = []
set_option maxHeartbeats 4000000 in
theorem ok79 : VSound Tryz.prog (79, R79) := by
  refine vsound (T := ty) (F := []) (pl := [(1, [[], [0], [], [2], [0, 1], [0, 1, 2, 3, 4]], .look 0 (.look 1 (.look 2 (.look 3 (.look 4 (.look 5 .done))))))]) (nw := true) (cuts := []) mix tyOk .nil Tryz.func79 (by kernel_rfl) (by kernel_rfl) ?_
  rintro _ _ _ _ ⟨b, rfl, rfl, h0, h1, rfl, rfl⟩
  conv => whnf
  refine ⟨[], [3, 4, 5, 13, 14, 15], 1, fun n1 σ => ∃ (i : Nat) (m : Int), i ≤ 1 ∧ n1 = 1 - i ∧ m = b + 3 * i ∧ σ = (⟨[.junk, .junk, .junk, .one (.ptr 0 0), .di .i64 b, .di .i64 m, .junk, .junk, .junk, .junk, .junk, .junk, .junk, .one (.d (.sl 1 ([4].map inC))), .di .i64 1, .di .i64 i, .junk, .junk, .junk, .junk, .junk, .junk, .junk, .junk, .junk, .junk, .junk, .junk, .junk, .junk, .junk, .junk, .junk, .junk, .junk, .junk, .junk, .junk, .junk], [.box (List.map .d (Ref.mk 0 b [1]).c)]⟩ : St), ?_, ?_⟩
  · refine ⟨1, ?_⟩
    conv => whnf
    exact ⟨0, b, by omega, by omega, by omega, rfl⟩
  · rintro n1 _ ⟨i, m, hi, rfl, hmm, rfl⟩
    conv => whnf
    ((with_reducible refine And.intro (fun (e : (_ : Bool) = true) => ?_) (fun (e : (_ : Bool) = false) => ?_)) <;> (try simp only [reduceCtorEq, ints_len, bools_len, bif_t, bif_f, zv0, zv1, zv2, zv3, zv4, zv5, zv6, zv7, zv8, zv9, zv10, zv11, zv12, zv13, zv14, zv15, zv16, zv17, zv18, zv19, zv20, zv21, zv22, zv23, zv24] at e) <;> (conv => whnf))
    · have hi' : i = 0 := by omega
      subst hi'
      refine ⟨_, And.intro ⟨by omega, rfl⟩ ?_⟩
      conv => whnf
      refine ⟨_, And.intro ⟨by omega, rfl⟩ ?_⟩
      conv => whnf
      (refine And.intro ?_ ?_; ((first | (with_reducible assumption) | (intro _; with_reducible assumption) | omega | (simp only [reduceCtorEq, ints_len, bools_len, bif_t, bif_f, zv0, zv1, zv2, zv3, zv4, zv5, zv6, zv7, zv8, zv9, zv10, zv11, zv12, zv13, zv14, zv15, zv16, zv17, zv18, zv19, zv20, zv21, zv22, zv23, zv24] at *; omega) | (intro hg; (try simp only [reduceCtorEq, ints_len, bools_len, bif_t, bif_f, zv0, zv1, zv2, zv3, zv4, zv5, zv6, zv7, zv8, zv9, zv10, zv11, zv12, zv13, zv14, zv15, zv16, zv17, zv18, zv19, zv20, zv21, zv22, zv23, zv24] at hg); first | (with_reducible assumption) | omega | (simp only [reduceCtorEq, ints_len, bools_len, bif_t, bif_f, zv0, zv1, zv2, zv3, zv4, zv5, zv6, zv7, zv8, zv9, zv10, zv11, zv12, zv13, zv14, zv15, zv16, zv17, zv18, zv19, zv20, zv21, zv22, zv23, zv24] at *; omega) | (refine ⟨?_, ?_⟩ <;> omega)) | (refine ⟨?_, ?_⟩ <;> omega) | (simp [*]; done) | grind)); (conv => whnf))
      (refine And.intro ?_ ?_; ((first | (with_reducible assumption) | (intro _; with_reducible assumption) | omega | (simp only [reduceCtorEq, ints_len, bools_len, bif_t, bif_f, zv0, zv1, zv2, zv3, zv4, zv5, zv6, zv7, zv8, zv9, zv10, zv11, zv12, zv13, zv14, zv15, zv16, zv17, zv18, zv19, zv20, zv21, zv22, zv23, zv24] at *; omega) | (intro hg; (try simp only [reduceCtorEq, ints_len, bools_len, bif_t, bif_f, zv0, zv1, zv2, zv3, zv4, zv5, zv6, zv7, zv8, zv9, zv10, zv11, zv12, zv13, zv14, zv15, zv16, zv17, zv18, zv19, zv20, zv21, zv22, zv23, zv24] at hg); first | (with_reducible assumption) | omega | (simp only [reduceCtorEq, ints_len, bools_len, bif_t, bif_f, zv0, zv1, zv2, zv3, zv4, zv5, zv6, zv7, zv8, zv9, zv10, zv11, zv12, zv13, zv14, zv15, zv16, zv17, zv18, zv19, zv20, zv21, zv22, zv23, zv24] at *; omega) | (refine ⟨?_, ?_⟩ <;> omega)) | (refine ⟨?_, ?_⟩ <;> omega) | (simp [*]; done) | grind)); (conv => whnf))
      rw [show (if (0 : Int) < 1 * (4 - 1) then (0 : Int) else 1 * (4 - 1)) = 0 by decide, Int.add_zero]
      (refine And.intro ?_ ?_; ((first | (with_reducible assumption) | (intro _; with_reducible assumption) | omega | (simp only [reduceCtorEq, ints_len, bools_len, bif_t, bif_f, zv0, zv1, zv2, zv3, zv4, zv5, zv6, zv7, zv8, zv9, zv10, zv11, zv12, zv13, zv14, zv15, zv16, zv17, zv18, zv19, zv20, zv21, zv22, zv23, zv24] at *; omega) | (intro hg; (try simp only [reduceCtorEq, ints_len, bools_len, bif_t, bif_f, zv0, zv1, zv2, zv3, zv4, zv5, zv6, zv7, zv8, zv9, zv10, zv11, zv12, zv13, zv14, zv15, zv16, zv17, zv18, zv19, zv20, zv21, zv22, zv23, zv24] at hg); first | (with_reducible assumption) | omega | (simp only [reduceCtorEq, ints_len, bools_len, bif_t, bif_f, zv0, zv1, zv2, zv3, zv4, zv5, zv6, zv7, zv8, zv9, zv10, zv11, zv12, zv13, zv14, zv15, zv16, zv17, zv18, zv19, zv20, zv21, zv22, zv23, zv24] at *; omega) | (refine ⟨?_, ?_⟩ <;> omega)) | (refine ⟨?_, ?_⟩ <;> omega) | (simp [*]; done) | grind)); (conv => whnf))
      rw [show (if (0 : Int) > 1 * (4 - 1) then (0 : Int) else 1 * (4 - 1)) = 3 by decide]
      (refine And.intro ?_ ?_; ((first | (with_reducible assumption) | (intro _; with_reducible assumption) | omega | (simp only [reduceCtorEq, ints_len, bools_len, bif_t, bif_f, zv0, zv1, zv2, zv3, zv4, zv5, zv6, zv7, zv8, zv9, zv10, zv11, zv12, zv13, zv14, zv15, zv16, zv17, zv18, zv19, zv20, zv21, zv22, zv23, zv24] at *; omega) | (intro hg; (try simp only [reduceCtorEq, ints_len, bools_len, bif_t, bif_f, zv0, zv1, zv2, zv3, zv4, zv5, zv6, zv7, zv8, zv9, zv10, zv11, zv12, zv13, zv14, zv15, zv16, zv17, zv18, zv19, zv20, zv21, zv22, zv23, zv24] at hg); first | (with_reducible assumption) | omega | (simp only [reduceCtorEq, ints_len, bools_len, bif_t, bif_f, zv0, zv1, zv2, zv3, zv4, zv5, zv6, zv7, zv8, zv9, zv10, zv11, zv12, zv13, zv14, zv15, zv16, zv17, zv18, zv19, zv20, zv21, zv22, zv23, zv24] at *; omega) | (refine ⟨?_, ?_⟩ <;> omega)) | (refine ⟨?_, ?_⟩ <;> omega) | (simp [*]; done) | grind)); (conv => whnf))
      (refine And.intro ?_ ?_; ((first | (with_reducible assumption) | (intro _; with_reducible assumption) | omega | (simp only [reduceCtorEq, ints_len, bools_len, bif_t, bif_f, zv0, zv1, zv2, zv3, zv4, zv5, zv6, zv7, zv8, zv9, zv10, zv11, zv12, zv13, zv14, zv15, zv16, zv17, zv18, zv19, zv20, zv21, zv22, zv23, zv24] at *; omega) | (intro hg; (try simp only [reduceCtorEq, ints_len, bools_len, bif_t, bif_f, zv0, zv1, zv2, zv3, zv4, zv5, zv6, zv7, zv8, zv9, zv10, zv11, zv12, zv13, zv14, zv15, zv16, zv17, zv18, zv19, zv20, zv21, zv22, zv23, zv24] at hg); first | (with_reducible assumption) | omega | (simp only [reduceCtorEq, ints_len, bools_len, bif_t, bif_f, zv0, zv1, zv2, zv3, zv4, zv5, zv6, zv7, zv8, zv9, zv10, zv11, zv12, zv13, zv14, zv15, zv16, zv17, zv18, zv19, zv20, zv21, zv22, zv23, zv24] at *; omega) | (refine ⟨?_, ?_⟩ <;> omega)) | (refine ⟨?_, ?_⟩ <;> omega) | (simp [*]; done) | grind)); (conv => whnf))
      refine ⟨0, by omega, [], ?_⟩
      conv => whnf
      exact ⟨1, m + 3, by omega, by omega, by omega, rfl⟩
    · have hi' : i = 1 := by omega
      subst hi'
      have : m = b + 3 := by omega
      subst this
      (refine ⟨[], ?_⟩; (conv => whnf); refine ⟨[], .nil, .nil, ?_⟩)
      exact .cons rfl (.cons rfl .nil)
theorem ok4ext : refOk [4] ⟨0, 0, [1]⟩ = true := by decide
theorem ok4to : refOk [4] ⟨0, 1, [1]⟩ = true := by decide
theorem many4 : many [4] = 4 := by decide
theorem okFour {b : Int} (h0 : 0 ≤ b) (h1 : b ≤ 1) : refOk [4] ⟨0, b, [1]⟩ = true := by
  obtain rfl | rfl : b = 0 ∨ b = 1 := by omega
  · exact ok4ext
  · exact ok4to
def R66 : Ct := fun ss hp r out => ∃ b : Int, ss = [.one (.d (.sl 1 ([4].map inC))), .v (.ag ((Ref.mk 0 b [1]).c.map .d)), .di .i64 5] ∧ hp = [] ∧ 0 ≤ b ∧ b ≤ 1 ∧ r = .tup [.c (.d (.bool true)), .c (.d (.int .i64 0))] ∧ out = []
set_option maxHeartbeats 4000000 in
theorem ok66 : VSound Tryz.prog (66, R66) := by
  refine vsound (T := ty) (F := [(34, R34), (36, R36), (79, R79)]) (pl := []) (nw := true) (cuts := []) mix tyOk (.cons (ok34) (.cons (ok36) (.cons (ok79) .nil))) Tryz.func66 (by kernel_rfl) (by kernel_rfl) ?_
  rintro _ _ _ _ ⟨b, rfl, rfl, h0, h1, rfl, rfl⟩
  conv => whnf
  (refine ⟨[], false, false, ?_⟩; (conv => whnf); refine ⟨_, _, ⟨[4], ⟨0, b, [1]⟩, rfl, rfl, by decide, by simp, rfl, rfl⟩, ?_⟩; (conv => whnf))
  rw [okFour h0 h1]
  refine ⟨fun h => absurd h (by decide), fun _ => ?_⟩
  conv => whnf
  (refine ⟨[], false, false, ?_⟩; (conv => whnf); refine ⟨_, _, ⟨[4], rfl, rfl, by decide, rfl, rfl⟩, ?_⟩; (conv => whnf))
  rw [many4]
  refine ⟨fun h => absurd h (by decide), fun _ => ?_⟩
  conv => whnf
  (refine ⟨[], false, false, ?_⟩; (conv => whnf); refine ⟨_, _, ⟨b, rfl, rfl, h0, h1, rfl, rfl⟩, ?_⟩; (conv => whnf))
  (repeat ((first | with_reducible refine And.intro (fun h => h) ?_ | with_reducible refine And.intro (fun _ => rfl) ?_ | with_reducible refine And.intro rfl ?_); conv => whnf))
  (refine ⟨[], ?_⟩; (conv => whnf); refine ⟨[], .nil, .nil, ?_⟩)
  refine .cons ?_ (.cons rfl .nil)
  rw [show (bif decide (b ≥ 0) then decide (b + 3 < 5) else false) = true by simp; omega]
  rfl
def R45 : Ct := fun ss hp r out => ∃ (b : Int) (N : List Int) (B : List Bool), ss = [.one (.d (.sl 3 [storeC N B])), .one (.d (.sl 1 ([4].map inC))), .v (.ag ((Ref.mk 0 b [1]).c.map .d))] ∧ hp = [] ∧ Five N B ∧ 0 ≤ b ∧ b ≤ 1 ∧ r = .db true ∧ out = []
set_option maxHeartbeats 4000000 in
theorem ok45 : VSound Tryz.prog (45, R45) := by
  refine vsound (T := ty) (F := [(66, R66)]) (pl := [(3, [[], [], [], [], [3], [2, 3, 4], [2, 3, 4, 5], [2, 3, 4, 5, 6], [2, 3, 4, 5, 6, 7], [0, 1, 2, 3, 4, 5, 6, 7, 8], [0, 1, 2, 3, 4, 5, 6, 7, 8, 9], [0, 1, 2, 3, 4, 5, 6, 7, 8, 9, 10], [0, 1, 2, 3, 4, 5, 6, 7, 8, 9, 10], [0, 1, 2, 3, 4, 5, 6, 7, 8, 9, 10, 11], [0, 1, 2, 3, 4, 5, 6, 7, 8, 9, 10, 11, 12, 13]], .look 0 (.look 1 (.look 2 (.look 3 (.look 4 (.look 5 (.look 6 (.look 7 (.look 8 (.act 9 [] (.look 10 (.look 11 (.look 12 (.look 13 (.look 14 .done))))) .stop))))))))))]) (nw := true) (cuts := []) mix tyOk (.cons (ok66) .nil) Tryz.func45 (by kernel_rfl) (by kernel_rfl) ?_
  rintro _ _ _ _ ⟨b, N, B, rfl, rfl, hF, h0, h1, rfl, rfl⟩
  have hn := hF.n
  conv => whnf
  (repeat ((first | with_reducible refine And.intro (fun h => h) ?_ | with_reducible refine And.intro (fun _ => rfl) ?_ | with_reducible refine And.intro rfl ?_); conv => whnf))
  refine ⟨fun h => ?_, fun _ => ?_⟩
  · exfalso; simp at h
  conv => whnf
  refine ⟨_, And.intro ⟨by simp only; omega, rfl⟩ ?_⟩
  conv => whnf
  rw [map_len, hn]
  (refine ⟨[], false, false, ?_⟩; (conv => whnf); refine ⟨_, _, ⟨b, rfl, rfl, h0, h1, rfl, rfl⟩, ?_⟩; (conv => whnf))
  (repeat ((first | with_reducible refine And.intro (fun h => h) ?_ | with_reducible refine And.intro (fun _ => rfl) ?_ | with_reducible refine And.intro rfl ?_); conv => whnf))
  (refine ⟨[], ?_⟩; (conv => whnf); refine ⟨[], .nil, .nil, ?_⟩; (conv => whnf))
  rfl
/-- the example's tree -/
def T0 : Tree := .mk loadB 1 0 ⟨0, 0, [1]⟩ []
def R47 : Ct := fun ss hp r out => ss = [.v (.ag (T0.c.map .d))] ∧ hp = [] ∧ r = .di .i64 1 ∧ out = []
set_option maxHeartbeats 4000000 in
theorem ok47 : VSound Tryz.prog (47, R47) := by
  refine vsound (T := ty) (F := [(47, noR)]) (pl := []) (nw := true) (cuts := []) mix tyOk (.cons (noOk (by kernel_rfl)) .nil) Tryz.func47 (by kernel_rfl) (by kernel_rfl) ?_
  rintro _ _ _ _ ⟨rfl, rfl, rfl, rfl⟩
  conv => whnf
  refine ⟨[], [1, 3, 7, 8, 9], 1, fun n1 σ => n1 = 0 ∧ σ = (⟨[.junk, .one (.ptr 0 0), .junk, .di .i64 1, .junk, .junk, .junk, .one (.d (.sl 7 [])), .di .i64 0, .di .i64 0, .junk, .junk, .junk, .junk, .junk, .junk, .junk, .junk, .junk], [.box (List.map .d T0.c)]⟩ : St), ?_, ?_⟩
  · refine ⟨0, ?_⟩
    conv => whnf
    exact ⟨rfl, rfl⟩
  · rintro n1 _ ⟨rfl, rfl⟩
    conv => whnf
    refine ⟨fun h => absurd h (by decide), fun _ => ?_⟩
    conv => whnf
    (refine ⟨[], ?_⟩; (conv => whnf); refine ⟨[], .nil, .nil, ?_⟩; (conv => whnf))
def R48 : Ct := fun ss hp r out => ss = [.v (.ag (T0.c.map .d))] ∧ hp = [] ∧ r = .di .i64 1 ∧ out = []
set_option maxHeartbeats 4000000 in
theorem ok48 : VSound Tryz.prog (48, R48) := by
  refine vsound (T := ty) (F := [(48, noR)]) (pl := []) (nw := true) (cuts := []) mix tyOk (.cons (noOk (by kernel_rfl)) .nil) Tryz.func48 (by kernel_rfl) (by kernel_rfl) ?_
  rintro _ _ _ _ ⟨rfl, rfl, rfl, rfl⟩
  conv => whnf
  refine ⟨[], [1, 3, 7, 8, 9], 1, fun n1 σ => n1 = 0 ∧ σ = (⟨[.junk, .one (.ptr 0 0), .junk, .di .i64 0, .junk, .junk, .junk, .one (.d (.sl 7 [])), .di .i64 0, .di .i64 0, .junk, .junk, .junk, .junk, .junk, .junk, .junk, .junk, .junk, .junk], [.box (List.map .d T0.c)]⟩ : St), ?_, ?_⟩
  · refine ⟨0, ?_⟩
    conv => whnf
    exact ⟨rfl, rfl⟩
  · rintro n1 _ ⟨rfl, rfl⟩
    conv => whnf
    refine ⟨fun h => absurd h (by decide), fun _ => ?_⟩
    conv => whnf
    (refine And.intro ?_ ?_; ((first | (with_reducible assumption) | (intro _; with_reducible assumption) | omega | (simp only [reduceCtorEq, ints_len, bools_len, bif_t, bif_f, zv0, zv1, zv2, zv3, zv4, zv5, zv6, zv7, zv8, zv9, zv10, zv11, zv12, zv13, zv14, zv15, zv16, zv17, zv18, zv19, zv20, zv21, zv22, zv23, zv24] at *; omega) | (intro hg; (try simp only [reduceCtorEq, ints_len, bools_len, bif_t, bif_f, zv0, zv1, zv2, zv3, zv4, zv5, zv6, zv7, zv8, zv9, zv10, zv11, zv12, zv13, zv14, zv15, zv16, zv17, zv18, zv19, zv20, zv21, zv22, zv23, zv24] at hg); first | (with_reducible assumption) | omega | (simp only [reduceCtorEq, ints_len, bools_len, bif_t, bif_f, zv0, zv1, zv2, zv3, zv4, zv5, zv6, zv7, zv8, zv9, zv10, zv11, zv12, zv13, zv14, zv15, zv16, zv17, zv18, zv19, zv20, zv21, zv22, zv23, zv24] at *; omega) | (refine ⟨?_, ?_⟩ <;> omega)) | (refine ⟨?_, ?_⟩ <;> omega) | (simp [*]; done) | grind)); (conv => whnf))
    (refine ⟨[], ?_⟩; (conv => whnf); refine ⟨[], .nil, .nil, ?_⟩; (conv => whnf))
    rfl
def R49 : Ct := fun ss hp r out => ∃ (N : List Int) (B : List Bool), ss = [.one (.d (.sl 3 [storeC N B])), .one (.d (.sl 1 ([4].map inC))), .v (.ag (T0.c.map .d))] ∧ hp = [] ∧ Five N B ∧ r = .db true ∧ out = []
set_option maxHeartbeats 4000000 in
theorem ok49 : VSound Tryz.prog (49, R49) := by
  refine vsound (T := ty) (F := [(45, R45), (65, noR), (67, noR), (68, noR), (70, noR)]) (pl := [(3, [[], [0], [0, 1], [0, 1, 2], [0, 1, 2, 3], [0, 1, 2, 3, 4], [0, 1, 2, 3, 4, 5], [0, 1, 2, 3, 4, 5, 6], [0, 1, 2, 3, 4, 5, 6, 7], [0, 1, 2, 3, 4, 5, 6, 7, 8], [0, 1, 2, 3, 4, 5, 6, 7, 8, 9], [0, 1, 2, 3, 4, 5, 6, 7, 8, 9], [0, 1, 2, 3, 4, 5, 6, 7, 8, 9], [0, 1, 2, 3, 4, 5, 6, 7, 8, 9, 12], [0, 1, 2, 3, 4, 5, 6, 7, 8, 9, 10, 11, 12, 13], [0, 1, 2, 3, 4, 5, 6, 7, 8, 9, 10, 11, 12, 13, 14], [0, 1, 2, 3, 4, 5, 6, 7, 8, 9, 10, 11, 12, 13, 14, 15], [0, 1, 2, 3, 4, 5, 6, 7, 8, 9, 10, 11, 12, 13, 14, 15, 16], [0, 1, 2, 3, 4, 5, 6, 7, 8, 9, 10, 11, 12, 13, 14, 15, 16, 17], [0, 1, 2, 3, 4, 5, 6, 7, 8, 9, 10, 11, 12, 13, 14, 15, 16], [0, 1, 2, 3, 4, 5, 6, 7, 8, 9, 10, 11, 12, 13, 14, 15, 16], [0, 1, 2, 3, 4, 5, 6, 7, 8, 9, 10, 11, 12, 13, 14, 15, 16, 20], [0, 1, 2, 3, 4, 5, 6, 7, 8, 9, 10, 11, 12, 13, 14, 15, 16, 20, 21], [0, 1, 2, 3, 4, 5, 6, 7, 8, 9, 10, 11, 12, 13, 14, 15, 16, 19, 20, 21, 22], [0, 1, 2, 3, 4, 5, 6, 7, 8, 9, 10, 11, 12, 13, 14, 15, 16, 19, 20, 21, 22, 23], [0, 1, 2, 3, 4, 5, 6, 7, 8, 9, 10, 11, 12, 13, 14, 15, 16, 19, 20, 21, 22, 23, 24], [0, 1, 2, 3, 4, 5, 6, 7, 8, 9, 10, 11, 12, 13, 14, 15, 16, 17, 18, 19, 20, 21, 22, 23, 24, 25], [0, 1, 2, 3, 4, 5, 6, 7, 8, 9, 10, 11, 12, 13, 14, 15, 16, 17, 18, 19, 20, 21, 22, 23, 24, 25, 26], [0, 1, 2, 3, 4, 5, 6, 7, 8, 9, 10, 11, 12, 13, 14, 15, 16, 17, 18, 19, 20, 21, 22, 23, 24, 25, 26, 27]], .look 0 (.look 1 (.look 2 (.look 3 (.look 4 (.look 5 (.look 6 (.look 7 (.look 8 (.look 9 (.look 10 (.look 11 (.look 12 (.look 13 (.act 14 [] (.look 15 (.look 16 (.look 17 (.look 18 (.look 19 (.look 20 (.look 21 (.look 22 (.look 23 (.look 24 (.look 25 (.look 26 (.look 27 (.look 28 .done)))))))))))))) .stop)))))))))))))))]) (nw := true) (cuts := []) mix tyOk (.cons (ok45) (.cons (noOk (by kernel_rfl)) (.cons (noOk (by kernel_rfl)) (.cons (noOk (by kernel_rfl)) (.cons (noOk (by kernel_rfl)) .nil))))) Tryz.func49 (by kernel_rfl) (by kernel_rfl) ?_
  rintro _ _ _ _ ⟨N, B, rfl, rfl, hF, rfl, rfl⟩
  conv => whnf
  refine ⟨fun _ => ?_, fun h => absurd h (by decide +kernel)⟩
  conv => whnf
  (repeat ((first | with_reducible refine And.intro (fun h => h) ?_ | with_reducible refine And.intro (fun _ => rfl) ?_ | with_reducible refine And.intro rfl ?_); conv => whnf))
  refine ⟨fun _ => ?_, fun h => ?_⟩
  rotate_left
  · exact absurd h (by decide)
  conv => whnf
  (repeat ((first | with_reducible refine And.intro (fun h => h) ?_ | with_reducible refine And.intro (fun _ => rfl) ?_ | with_reducible refine And.intro rfl ?_); conv => whnf))
  (refine ⟨[], false, false, ?_⟩; (conv => whnf); refine ⟨_, _, ⟨0, N, B, rfl, rfl, hF, by omega, by omega, rfl, rfl⟩, ?_⟩; (conv => whnf))
  (repeat ((first | with_reducible refine And.intro (fun h => h) ?_ | with_reducible refine And.intro (fun _ => rfl) ?_ | with_reducible refine And.intro rfl ?_); conv => whnf))
  refine ⟨_, And.intro (fun _ => ⟨by simp only; omega, rfl⟩) ?_⟩
  conv => whnf
  (repeat ((first | with_reducible refine And.intro (fun h => h) ?_ | with_reducible refine And.intro (fun _ => rfl) ?_ | with_reducible refine And.intro rfl ?_); conv => whnf))
  (refine ⟨[], ?_⟩; (conv => whnf); refine ⟨[], .nil, .nil, ?_⟩; (conv => whnf))
  rfl
end Go.Proofs.YtahdihhhankhdaaGreat.V
-- Zp
namespace Go.Proofs.YtahdihhhankhdaaGreat.V
open Go.Proofs.YtahdihhhankhdaaGreatVY Go.RowKit
def R46 : Ct := fun ss hp r out => ss = [.one (.d (.sl 7 []))] ∧ hp = [] ∧ r = .one (.own 0) ∧ out = [.row 7 []]
set_option maxHeartbeats 4000000 in
theorem ok46 : VSound Tryz.prog (46, R46) := by
  refine vsound (T := ty) (F := []) (pl := []) (nw := true) (cuts := []) mix tyOk .nil Tryz.func46 (by kernel_rfl) (by kernel_rfl) ?_
  rintro _ _ _ _ ⟨rfl, rfl, rfl, rfl⟩
  conv => whnf
  refine ⟨fun h0 => ?_, ?_⟩
  · conv => whnf
    refine ⟨[.slot 2 true], ?_⟩
    conv => whnf
    exact ⟨[0], by simp, .cons ⟨_, rfl, rfl, rfl⟩ .nil, rfl⟩
  · conv => whnf
    refine ⟨?_, ?_⟩
    · simp
    conv => whnf
    refine ⟨[], ?_⟩
    conv => whnf
    exact ⟨[0], by simp, .cons ⟨_, rfl, rfl, rfl⟩ .nil, rfl⟩
def R30 : Ct := fun ss hp r out => ∃ (N : List Int) (B : List Bool), ss = [.one (.d (.sl 3 [storeC N B])), .v (.ag (K0.c.map .d))] ∧ hp = [] ∧ Five N B ∧ r = .db true ∧ out = []
set_option maxHeartbeats 4000000 in
theorem ok30 : VSound Tryz.prog (30, R30) := by
  refine vsound (T := ty) (F := [(34, R34), (44, R44), (45, R45), (46, R46), (47, R47), (48, R48), (49, R49)]) (pl := [(8, [[], [0], [0, 1], [], [3], [3, 4], [0, 1, 2, 3, 4, 5], [0, 1, 2, 3, 4, 5, 6], []], .look 0 (.look 1 (.look 3 (.look 4 (.look 8 (.act 2 [3, 4, 8] (.act 5 [0, 1, 8] (.act 6 [8] (.look 7 .done) .stop) .stop) (.act 5 [0, 1, 8] (.act 2 [3, 4, 8] (.act 6 [8] (.look 7 .done) .stop) .stop) .stop))))))), (14, [[], [0], [0, 1], [0, 1, 2], [0, 1, 2, 3], [0, 1, 2, 3, 4], [0, 1, 2, 3, 4, 5], [0, 1, 2, 3, 4, 5, 6], [0, 1, 2, 3, 4, 5, 6, 7], [0, 1, 2, 3, 4, 5, 6, 7, 8], [0, 1, 2, 3, 4, 5, 6, 7, 8, 9], [0, 1, 2, 3, 4, 5, 6, 7, 8, 9, 10], [0, 1, 2, 3, 4, 5, 6, 7, 8, 9, 10, 11], [0, 1, 2, 3, 4, 5, 6, 7, 8, 9, 10, 11, 12], [0, 1, 2, 3, 4, 5, 6, 7, 8, 9, 10, 11, 12, 13], [0, 1, 2, 3, 4, 5, 6, 7, 8, 9, 10, 11, 12, 13, 14], [0, 1, 2, 3, 4, 5, 6, 7, 8, 9, 10, 11, 12], [0, 1, 2, 3, 4, 5, 6, 7, 8, 9, 10, 11, 12], [0, 1, 2, 3, 4, 5, 6, 7, 8, 9, 10, 11, 12, 17], [0, 1, 2, 3, 4, 5, 6, 7, 8, 9, 10, 11, 12, 17, 18], [0, 1, 2, 3, 4, 5, 6, 7, 8, 9, 10, 11, 12, 16, 17, 18, 19], [0, 1, 2, 3, 4, 5, 6, 7, 8, 9, 10, 11, 12, 16, 17, 18, 19, 20], [0, 1, 2, 3, 4, 5, 6, 7, 8, 9, 10, 11, 12, 16, 17, 18, 19, 20, 21], [0, 1, 2, 3, 4, 5, 6, 7, 8, 9, 10, 11, 12, 13, 14, 15, 16, 17, 18, 19, 20, 21, 22], [0, 1, 2, 3, 4, 5, 6, 7, 8, 9, 10, 11, 12, 13, 14, 15, 16, 17, 18, 19, 20, 21, 22, 23]], .look 0 (.look 1 (.look 2 (.look 3 (.look 4 (.look 5 (.look 6 (.look 7 (.look 8 (.look 9 (.look 10 (.look 11 (.look 12 (.look 13 (.look 14 (.look 15 (.look 16 (.look 17 (.look 18 (.look 19 (.look 20 (.look 21 (.look 22 (.look 23 (.look 24 .done)))))))))))))))))))))))))]) (nw := true) (cuts := []) mix tyOk (.cons (ok34) (.cons (ok44) (.cons (ok45) (.cons (ok46) (.cons (ok47) (.cons (ok48) (.cons (ok49) .nil))))))) Tryz.func30 (by kernel_rfl) (by kernel_rfl) ?_
  rintro _ _ _ _ ⟨N, B, rfl, rfl, hF, rfl, rfl⟩
  conv => whnf
  (refine ⟨[], false, false, ?_⟩; (conv => whnf); refine ⟨_, _, ⟨N, B, rfl, rfl, hF, rfl, rfl⟩, ?_⟩; (conv => whnf))
  (repeat ((first | with_reducible refine And.intro (fun h => h) ?_ | with_reducible refine And.intro (fun _ => rfl) ?_ | with_reducible refine And.intro rfl ?_); conv => whnf))
  refine ⟨fun _ => ?_, fun h => ?_⟩
  rotate_left
  · exact absurd h (by decide)
  conv => whnf
  (repeat ((first | with_reducible refine And.intro (fun h => h) ?_ | with_reducible refine And.intro (fun _ => rfl) ?_ | with_reducible refine And.intro rfl ?_); conv => whnf))
  (refine ⟨[], false, false, ?_⟩; (conv => whnf); refine ⟨_, _, ⟨[4], rfl, rfl, by decide, rfl, rfl⟩, ?_⟩; (conv => whnf))
  rw [many4]
  (repeat ((first | with_reducible refine And.intro (fun h => h) ?_ | with_reducible refine And.intro (fun _ => rfl) ?_ | with_reducible refine And.intro rfl ?_); conv => whnf))
  refine ⟨fun h => absurd h (by decide), fun _ => ?_⟩
  conv => whnf
  refine ⟨[], [0, 3, 31, 32, 33], 1, fun n1 σ => ∃ i : Nat, i ≤ 1 ∧ n1 = 1 - i ∧ σ = (⟨[.one (.d (.sl 3 [storeC N B])), .junk, .junk, .one (.ptr 0 0), .junk, .junk, .junk, .junk, .junk, .junk, .junk, .junk, .junk, .junk, .junk, .junk, .junk, .junk, .junk, .junk, .junk, .junk, .junk, .junk, .junk, .junk, .junk, .junk, .junk, .junk, .junk, .one (.d (.sl 11 (K0.sets.map ASet.c))), .di .i64 1, .di .i64 i, .junk, .junk, .junk, .junk, .junk, .junk, .junk, .junk, .junk, .junk, .junk, .junk, .junk, .junk, .junk, .junk, .junk, .junk, .junk, .junk, .junk, .junk, .junk, .junk, .junk, .junk, .junk, .junk, .junk, .junk, .junk, .junk, .junk, .junk, .junk, .junk, .junk, .junk, .junk, .junk, .junk, .junk, .junk, .junk, .junk, .junk, .junk, .junk, .junk, .junk, .junk, .junk, .junk, .junk, .junk, .junk, .junk, .junk, .junk, .junk, .junk, .junk, .junk, .junk, .junk, .junk, .junk, .junk, .junk, .junk, .junk], [.box (List.map .d K0.c)]⟩ : St), ?_, ?_⟩
  · refine ⟨1, ?_⟩
    conv => whnf
    exact ⟨0, by omega, by omega, rfl⟩
  · rintro n1 _ ⟨i, hi, rfl, rfl⟩
    conv => whnf
    ((with_reducible refine And.intro (fun (e : (_ : Bool) = true) => ?_) (fun (e : (_ : Bool) = false) => ?_)) <;> (try simp only [reduceCtorEq, ints_len, bools_len, bif_t, bif_f, zv0, zv1, zv2, zv3, zv4, zv5, zv6, zv7, zv8, zv9, zv10, zv11, zv12, zv13, zv14, zv15, zv16, zv17, zv18, zv19, zv20, zv21, zv22, zv23, zv24] at e) <;> (conv => whnf))
    · have hi' : i = 0 := by omega
      subst hi'
      refine ⟨_, And.intro ⟨by omega, rfl⟩ ?_⟩
      conv => whnf
      (refine ⟨[], false, false, ?_⟩; (conv => whnf); refine ⟨_, _, ⟨1, N, B, rfl, rfl, hF, by omega, by omega, rfl, rfl⟩, ?_⟩; (conv => whnf))
      (repeat ((first | with_reducible refine And.intro (fun h => h) ?_ | with_reducible refine And.intro (fun _ => rfl) ?_ | with_reducible refine And.intro rfl ?_); conv => whnf))
      refine ⟨fun h => absurd h (by decide), fun _ => ?_⟩
      conv => whnf
      repeat' (first | (refine And.intro (by simp only [List.length_cons, List.length_nil]; omega) ?_; (conv => whnf)) | (refine And.intro ?_ ?_ <;> (conv => whnf)) | (refine ⟨[], false, false, ?_⟩; (conv => whnf); refine ⟨_, _, ⟨rfl, rfl, rfl, rfl⟩, ?_⟩; (conv => whnf)))
      all_goals first
        | (refine ⟨[], [0, 3, 6, 31, 32, 33, 56, 57, 58], 4, fun n2 σ => ∃ j : Nat, j ≤ 1 ∧ n2 = 1 - j ∧ σ = (⟨[.one (.d (.sl 3 [storeC N B])), .junk, .junk, .one (.ptr 0 0), .junk, .junk, .one (.ptr 1 0), .junk, .junk, .junk, .junk, .junk, .junk, .junk, .junk, .junk, .junk, .junk, .junk, .junk, .junk, .junk, .junk, .junk, .junk, .junk, .junk, .junk, .junk, .junk, .junk, .one (.d (.sl 11 (K0.sets.map ASet.c))), .di .i64 1, .di .i64 0, .junk, .junk, .junk, .junk, .junk, .junk, .junk, .junk, .junk, .junk, .junk, .junk, .junk, .junk, .junk, .junk, .junk, .junk, .junk, .junk, .junk, .junk, .one (.own 2), .di .i64 1, .di .i64 j, .junk, .junk, .junk, .junk, .junk, .junk, .junk, .junk, .junk, .junk, .junk, .junk, .junk, .junk, .junk, .junk, .junk, .junk, .junk, .junk, .junk, .junk, .junk, .junk, .junk, .junk, .junk, .junk, .junk, .junk, .junk, .junk, .junk, .junk, .junk, .junk, .junk, .junk, .junk, .junk, .junk, .junk, .junk, .junk, .junk, .junk], [.box (List.map .d K0.c), .box (List.map .d (ASet.mk ⟨0, 1, [1]⟩ [] T0).c), .row 7 [T0.c], .row 7 [T0.c]]⟩ : St), ?_, ?_⟩
           · refine ⟨1, ?_⟩
             conv => whnf
             exact ⟨0, by omega, by omega, rfl⟩
           · rintro n2 _ ⟨j, hj, rfl, rfl⟩
             conv => whnf
             ((with_reducible refine And.intro (fun (e : (_ : Bool) = true) => ?_) (fun (e : (_ : Bool) = false) => ?_)) <;> (try simp only [reduceCtorEq, ints_len, bools_len, bif_t, bif_f, zv0, zv1, zv2, zv3, zv4, zv5, zv6, zv7, zv8, zv9, zv10, zv11, zv12, zv13, zv14, zv15, zv16, zv17, zv18, zv19, zv20, zv21, zv22, zv23, zv24] at e) <;> (conv => whnf))
             · have hj' : j = 0 := by omega
               subst hj'
               refine And.intro ⟨by omega, by simp⟩ ?_
               conv => whnf
               refine ⟨_, And.intro rfl ?_⟩
               conv => whnf
               (refine ⟨[], false, false, ?_⟩; (conv => whnf); refine ⟨_, _, ⟨rfl, rfl, rfl, rfl⟩, ?_⟩; (conv => whnf))
               (repeat ((first | with_reducible refine And.intro (fun h => h) ?_ | with_reducible refine And.intro (fun _ => rfl) ?_ | with_reducible refine And.intro rfl ?_); conv => whnf))
               refine ⟨fun _ => ?_, fun h => absurd h (by decide)⟩
               conv => whnf
               (repeat ((first | with_reducible refine And.intro (fun h => h) ?_ | with_reducible refine And.intro (fun _ => rfl) ?_ | with_reducible refine And.intro rfl ?_); conv => whnf))
               (refine ⟨[], false, false, ?_⟩; (conv => whnf); refine ⟨_, _, ⟨rfl, rfl, rfl, rfl⟩, ?_⟩; (conv => whnf))
               (repeat ((first | with_reducible refine And.intro (fun h => h) ?_ | with_reducible refine And.intro (fun _ => rfl) ?_ | with_reducible refine And.intro rfl ?_); conv => whnf))
               refine ⟨fun _ => ?_, fun h => absurd h (by decide)⟩
               conv => whnf
               (repeat ((first | with_reducible refine And.intro (fun h => h) ?_ | with_reducible refine And.intro (fun _ => rfl) ?_ | with_reducible refine And.intro rfl ?_); conv => whnf))
               (refine ⟨[], false, false, ?_⟩; (conv => whnf); refine ⟨_, _, ⟨N, B, rfl, rfl, hF, rfl, rfl⟩, ?_⟩; (conv => whnf))
               (repeat ((first | with_reducible refine And.intro (fun h => h) ?_ | with_reducible refine And.intro (fun _ => rfl) ?_ | with_reducible refine And.intro rfl ?_); conv => whnf))
               refine ⟨fun h => absurd h (by decide), fun _ => ?_⟩
               conv => whnf
               (refine And.intro ?_ ?_; ((first | (with_reducible assumption) | (intro _; with_reducible assumption) | omega | (simp only [reduceCtorEq, ints_len, bools_len, bif_t, bif_f, zv0, zv1, zv2, zv3, zv4, zv5, zv6, zv7, zv8, zv9, zv10, zv11, zv12, zv13, zv14, zv15, zv16, zv17, zv18, zv19, zv20, zv21, zv22, zv23, zv24] at *; omega) | (intro hg; (try simp only [reduceCtorEq, ints_len, bools_len, bif_t, bif_f, zv0, zv1, zv2, zv3, zv4, zv5, zv6, zv7, zv8, zv9, zv10, zv11, zv12, zv13, zv14, zv15, zv16, zv17, zv18, zv19, zv20, zv21, zv22, zv23, zv24] at hg); first | (with_reducible assumption) | omega | (simp only [reduceCtorEq, ints_len, bools_len, bif_t, bif_f, zv0, zv1, zv2, zv3, zv4, zv5, zv6, zv7, zv8, zv9, zv10, zv11, zv12, zv13, zv14, zv15, zv16, zv17, zv18, zv19, zv20, zv21, zv22, zv23, zv24] at *; omega) | (refine ⟨?_, ?_⟩ <;> omega)) | (refine ⟨?_, ?_⟩ <;> omega) | (simp [*]; done) | grind)); (conv => whnf))
               refine ⟨0, by omega, [], ?_⟩
               conv => whnf
               exact ⟨1, by omega, by omega, rfl⟩
             · (repeat ((first | with_reducible refine And.intro (fun h => h) ?_ | with_reducible refine And.intro (fun _ => rfl) ?_ | with_reducible refine And.intro rfl ?_); conv => whnf))
               refine ⟨T0.c, And.intro (fun h => absurd h (by decide)) ?_⟩
               conv => whnf
               (repeat ((first | with_reducible refine And.intro (fun h => h) ?_ | with_reducible refine And.intro (fun _ => rfl) ?_ | with_reducible refine And.intro rfl ?_); conv => whnf))
               refine ⟨_, And.intro (fun _ => ⟨by simp only; omega, rfl⟩) ?_⟩
               conv => whnf
               (repeat ((first | with_reducible refine And.intro (fun h => h) ?_ | with_reducible refine And.intro (fun _ => rfl) ?_ | with_reducible refine And.intro rfl ?_); conv => whnf))
               refine ⟨fun h => absurd h (by decide), fun _ => ?_⟩
               conv => whnf
               (refine And.intro ?_ ?_; ((first | (with_reducible assumption) | (intro _; with_reducible assumption) | omega | (simp only [reduceCtorEq, ints_len, bools_len, bif_t, bif_f, zv0, zv1, zv2, zv3, zv4, zv5, zv6, zv7, zv8, zv9, zv10, zv11, zv12, zv13, zv14, zv15, zv16, zv17, zv18, zv19, zv20, zv21, zv22, zv23, zv24] at *; omega) | (intro hg; (try simp only [reduceCtorEq, ints_len, bools_len, bif_t, bif_f, zv0, zv1, zv2, zv3, zv4, zv5, zv6, zv7, zv8, zv9, zv10, zv11, zv12, zv13, zv14, zv15, zv16, zv17, zv18, zv19, zv20, zv21, zv22, zv23, zv24] at hg); first | (with_reducible assumption) | omega | (simp only [reduceCtorEq, ints_len, bools_len, bif_t, bif_f, zv0, zv1, zv2, zv3, zv4, zv5, zv6, zv7, zv8, zv9, zv10, zv11, zv12, zv13, zv14, zv15, zv16, zv17, zv18, zv19, zv20, zv21, zv22, zv23, zv24] at *; omega) | (refine ⟨?_, ?_⟩ <;> omega)) | (refine ⟨?_, ?_⟩ <;> omega) | (simp [*]; done) | grind)); (conv => whnf))
               refine ⟨0, by omega, [], ?_⟩
               conv => whnf
               exact ⟨1, by omega, by omega, rfl⟩)
        | (refine ⟨[], [0, 3, 6, 31, 32, 33, 56, 57, 58], 4, fun n2 σ => ∃ j : Nat, j ≤ 1 ∧ n2 = 1 - j ∧ σ = (⟨[.one (.d (.sl 3 [storeC N B])), .junk, .junk, .one (.ptr 0 0), .junk, .junk, .one (.ptr 1 0), .junk, .junk, .junk, .junk, .junk, .junk, .junk, .junk, .junk, .junk, .junk, .junk, .junk, .junk, .junk, .junk, .junk, .junk, .junk, .junk, .junk, .junk, .junk, .junk, .one (.d (.sl 11 (K0.sets.map ASet.c))), .di .i64 1, .di .i64 0, .junk, .junk, .junk, .junk, .junk, .junk, .junk, .junk, .junk, .junk, .junk, .junk, .junk, .junk, .junk, .junk, .junk, .junk, .junk, .junk, .junk, .junk, .one (.own 3), .di .i64 1, .di .i64 j, .junk, .junk, .junk, .junk, .junk, .junk, .junk, .junk, .junk, .junk, .junk, .junk, .junk, .junk, .junk, .junk, .junk, .junk, .junk, .junk, .junk, .junk, .junk, .junk, .junk, .junk, .junk, .junk, .junk, .junk, .junk, .junk, .junk, .junk, .junk, .junk, .junk, .junk, .junk, .junk, .junk, .junk, .junk, .junk, .junk, .junk], [.box (List.map .d K0.c), .box (List.map .d (ASet.mk ⟨0, 1, [1]⟩ [] T0).c), .row 7 [T0.c], .row 7 [T0.c]]⟩ : St), ?_, ?_⟩
           · refine ⟨1, ?_⟩
             conv => whnf
             exact ⟨0, by omega, by omega, rfl⟩
           · rintro n2 _ ⟨j, hj, rfl, rfl⟩
             conv => whnf
             ((with_reducible refine And.intro (fun (e : (_ : Bool) = true) => ?_) (fun (e : (_ : Bool) = false) => ?_)) <;> (try simp only [reduceCtorEq, ints_len, bools_len, bif_t, bif_f, zv0, zv1, zv2, zv3, zv4, zv5, zv6, zv7, zv8, zv9, zv10, zv11, zv12, zv13, zv14, zv15, zv16, zv17, zv18, zv19, zv20, zv21, zv22, zv23, zv24] at e) <;> (conv => whnf))
             · have hj' : j = 0 := by omega
               subst hj'
               refine And.intro ⟨by omega, by simp⟩ ?_
               conv => whnf
               refine ⟨_, And.intro rfl ?_⟩
               conv => whnf
               (refine ⟨[], false, false, ?_⟩; (conv => whnf); refine ⟨_, _, ⟨rfl, rfl, rfl, rfl⟩, ?_⟩; (conv => whnf))
               (repeat ((first | with_reducible refine And.intro (fun h => h) ?_ | with_reducible refine And.intro (fun _ => rfl) ?_ | with_reducible refine And.intro rfl ?_); conv => whnf))
               refine ⟨fun _ => ?_, fun h => absurd h (by decide)⟩
               conv => whnf
               (repeat ((first | with_reducible refine And.intro (fun h => h) ?_ | with_reducible refine And.intro (fun _ => rfl) ?_ | with_reducible refine And.intro rfl ?_); conv => whnf))
               (refine ⟨[], false, false, ?_⟩; (conv => whnf); refine ⟨_, _, ⟨rfl, rfl, rfl, rfl⟩, ?_⟩; (conv => whnf))
               (repeat ((first | with_reducible refine And.intro (fun h => h) ?_ | with_reducible refine And.intro (fun _ => rfl) ?_ | with_reducible refine And.intro rfl ?_); conv => whnf))
               refine ⟨fun _ => ?_, fun h => absurd h (by decide)⟩
               conv => whnf
               (repeat ((first | with_reducible refine And.intro (fun h => h) ?_ | with_reducible refine And.intro (fun _ => rfl) ?_ | with_reducible refine And.intro rfl ?_); conv => whnf))
               (refine ⟨[], false, false, ?_⟩; (conv => whnf); refine ⟨_, _, ⟨N, B, rfl, rfl, hF, rfl, rfl⟩, ?_⟩; (conv => whnf))
               (repeat ((first | with_reducible refine And.intro (fun h => h) ?_ | with_reducible refine And.intro (fun _ => rfl) ?_ | with_reducible refine And.intro rfl ?_); conv => whnf))
               refine ⟨fun h => absurd h (by decide), fun _ => ?_⟩
               conv => whnf
               (refine And.intro ?_ ?_; ((first | (with_reducible assumption) | (intro _; with_reducible assumption) | omega | (simp only [reduceCtorEq, ints_len, bools_len, bif_t, bif_f, zv0, zv1, zv2, zv3, zv4, zv5, zv6, zv7, zv8, zv9, zv10, zv11, zv12, zv13, zv14, zv15, zv16, zv17, zv18, zv19, zv20, zv21, zv22, zv23, zv24] at *; omega) | (intro hg; (try simp only [reduceCtorEq, ints_len, bools_len, bif_t, bif_f, zv0, zv1, zv2, zv3, zv4, zv5, zv6, zv7, zv8, zv9, zv10, zv11, zv12, zv13, zv14, zv15, zv16, zv17, zv18, zv19, zv20, zv21, zv22, zv23, zv24] at hg); first | (with_reducible assumption) | omega | (simp only [reduceCtorEq, ints_len, bools_len, bif_t, bif_f, zv0, zv1, zv2, zv3, zv4, zv5, zv6, zv7, zv8, zv9, zv10, zv11, zv12, zv13, zv14, zv15, zv16, zv17, zv18, zv19, zv20, zv21, zv22, zv23, zv24] at *; omega) | (refine ⟨?_, ?_⟩ <;> omega)) | (refine ⟨?_, ?_⟩ <;> omega) | (simp [*]; done) | grind)); (conv => whnf))
               refine ⟨0, by omega, [], ?_⟩
               conv => whnf
               exact ⟨1, by omega, by omega, rfl⟩
             · (repeat ((first | with_reducible refine And.intro (fun h => h) ?_ | with_reducible refine And.intro (fun _ => rfl) ?_ | with_reducible refine And.intro rfl ?_); conv => whnf))
               refine ⟨T0.c, And.intro (fun h => absurd h (by decide)) ?_⟩
               conv => whnf
               (repeat ((first | with_reducible refine And.intro (fun h => h) ?_ | with_reducible refine And.intro (fun _ => rfl) ?_ | with_reducible refine And.intro rfl ?_); conv => whnf))
               refine ⟨_, And.intro (fun _ => ⟨by simp only; omega, rfl⟩) ?_⟩
               conv => whnf
               (repeat ((first | with_reducible refine And.intro (fun h => h) ?_ | with_reducible refine And.intro (fun _ => rfl) ?_ | with_reducible refine And.intro rfl ?_); conv => whnf))
               refine ⟨fun h => absurd h (by decide), fun _ => ?_⟩
               conv => whnf
               (refine And.intro ?_ ?_; ((first | (with_reducible assumption) | (intro _; with_reducible assumption) | omega | (simp only [reduceCtorEq, ints_len, bools_len, bif_t, bif_f, zv0, zv1, zv2, zv3, zv4, zv5, zv6, zv7, zv8, zv9, zv10, zv11, zv12, zv13, zv14, zv15, zv16, zv17, zv18, zv19, zv20, zv21, zv22, zv23, zv24] at *; omega) | (intro hg; (try simp only [reduceCtorEq, ints_len, bools_len, bif_t, bif_f, zv0, zv1, zv2, zv3, zv4, zv5, zv6, zv7, zv8, zv9, zv10, zv11, zv12, zv13, zv14, zv15, zv16, zv17, zv18, zv19, zv20, zv21, zv22, zv23, zv24] at hg); first | (with_reducible assumption) | omega | (simp only [reduceCtorEq, ints_len, bools_len, bif_t, bif_f, zv0, zv1, zv2, zv3, zv4, zv5, zv6, zv7, zv8, zv9, zv10, zv11, zv12, zv13, zv14, zv15, zv16, zv17, zv18, zv19, zv20, zv21, zv22, zv23, zv24] at *; omega) | (refine ⟨?_, ?_⟩ <;> omega)) | (refine ⟨?_, ?_⟩ <;> omega) | (simp [*]; done) | grind)); (conv => whnf))
               refine ⟨0, by omega, [], ?_⟩
               conv => whnf
               exact ⟨1, by omega, by omega, rfl⟩)
    · (refine ⟨[], ?_⟩; (conv => whnf); refine ⟨[], .nil, .nil, ?_⟩; (conv => whnf))
end Go.Proofs.YtahdihhhankhdaaGreat.V
-- Zq
namespace Go.Proofs.YtahdihhhankhdaaGreat.V
open Go.Proofs.YtahdihhhankhdaaGreatVY Go.RowKit
def R50 : Ct := fun ss hp r out => ∃ (l : List Bool), ss = [.one (.d (.sl 1 (bools l)))] ∧ hp = [] ∧ l.length ≤ 4194304 ∧ r = .one (.own 0) ∧ out = [.row 1 (bools l)]
set_option maxHeartbeats 4000000 in
theorem ok50 : VSound Tryz.prog (50, R50) := by
  refine vsound (T := ty) (F := []) (pl := []) (nw := true) (cuts := []) mix tyOk .nil Tryz.func50 (by kernel_rfl) (by kernel_rfl) ?_
  rintro _ _ _ _ ⟨l, rfl, rfl, hl, rfl, rfl⟩
  conv => whnf
  refine ⟨fun h0 => ?_, ?_⟩
  · conv => whnf
    refine ⟨[.slot 2 true], ?_⟩
    conv => whnf
    have : l = [] := by
      have := bools_len l
      rw [h0] at this
      exact List.length_eq_zero_iff.1 (by omega)
    subst this
    exact ⟨[0], by simp, .cons ⟨_, rfl, rfl, rfl⟩ .nil, rfl⟩
  · conv => whnf
    refine ⟨?_, ?_⟩
    · rw [bools_len]; simp only [List.length_nil]; omega
    conv => whnf
    refine ⟨[], ?_⟩
    conv => whnf
    exact ⟨[0], by simp, .cons ⟨_, rfl, rfl, rfl⟩ .nil, rfl⟩
def R31 : Ct := fun ss hp r out => ∃ (N : List Int) (B : List Bool), ss = [.one (.d (.sl 3 [storeC N B]))] ∧ hp = [] ∧ N.length = 5 ∧ B.length = 5 ∧ r = .one (.own 0) ∧ out = [.rowt 3 [] [.d (.int .i64 1), .own 1, .own 2], .row 1 (N.map inC), .row 1 (bools B)]
set_option maxHeartbeats 4000000 in
theorem ok31 : VSound Tryz.prog (31, R31) := by
  refine vsound (T := ty) (F := [(22, R22), (50, R50)]) (pl := [(5, [[], [], [1], [], [3], [3, 4], [], [6], [3, 4, 5, 6, 7], [1, 2, 3, 4, 5, 6, 7, 8], [1, 2, 3, 4, 5, 6, 7, 8, 9], [0, 1, 2, 3, 4, 5, 6, 7, 8, 9, 10], [0, 1, 2, 3, 4, 5, 6, 7, 8, 9, 10, 11]], .look 0 (.look 1 (.look 2 (.look 3 (.look 4 (.look 6 (.look 7 (.act 5 [0, 1, 2, 6, 7] (.act 8 [0, 1, 2] (.look 9 (.act 10 [0] (.act 11 [] (.look 12 .done) .stop) .stop)) .stop) .stop))))))))]) (nw := true) (cuts := [1000000]) mix tyOk (.cons (ok22) (.cons (ok50) .nil)) Tryz.func31 (by kernel_rfl) (by kernel_rfl) ?_
  rintro _ _ _ _ ⟨N, B, rfl, rfl, hn, hb, rfl, rfl⟩
  conv => whnf
  refine ⟨[.slot 3 true, .pad, .pad], [3, 6, 7, 8], 3, fun n1 σ => (n1 = 1 ∧ σ = (⟨[.junk, .junk, .junk, .one (.own 0), .junk, .junk, .one (.d (.sl 3 [storeC N B])), .di .i64 1, .di .i64 0, .junk, .junk, .junk, .junk, .junk, .junk, .junk, .junk, .junk, .junk, .junk, .junk, .junk, .junk, .junk, .junk, .junk], [.row 3 [], .row 1 [], .row 1 []]⟩ : St)) ∨ (n1 = 0 ∧ σ = (⟨[.junk, .junk, .junk, .one (.own 0), .junk, .junk, .one (.d (.sl 3 [storeC N B])), .di .i64 1, .di .i64 1, .junk, .junk, .junk, .junk, .junk, .junk, .junk, .junk, .junk, .junk, .junk, .junk, .junk, .junk, .junk, .junk, .junk], [.rowt 3 [] [.d (.int .i64 1), .own 1, .own 2], .row 1 (N.map inC), .row 1 (bools B)]⟩ : St)), ?_, ?_⟩
  · refine ⟨1, ?_⟩
    conv => whnf
    exact .inl ⟨rfl, rfl⟩
  · rintro n1 _ (⟨rfl, rfl⟩ | ⟨rfl, rfl⟩)
    · conv => whnf
      refine ⟨fun _ => ?_, fun h => absurd h (by decide)⟩
      conv => whnf
      refine ⟨_, And.intro ⟨by omega, rfl⟩ ?_⟩
      conv => whnf
      (refine ⟨[], false, false, ?_⟩; (conv => whnf); refine ⟨_, _, ⟨N, rfl, rfl, by omega, rfl, rfl⟩, ?_⟩; (conv => whnf))
      (refine ⟨[], false, false, ?_⟩; (conv => whnf); refine ⟨_, _, ⟨B, rfl, rfl, by omega, rfl, rfl⟩, ?_⟩; (conv => whnf))
      refine ⟨by simp, ?_⟩
      conv => whnf
      (refine And.intro ?_ ?_; ((first | (with_reducible assumption) | (intro _; with_reducible assumption) | omega | (simp only [reduceCtorEq, ints_len, bools_len, bif_t, bif_f, zv0, zv1, zv2, zv3, zv4, zv5, zv6, zv7, zv8, zv9, zv10, zv11, zv12, zv13, zv14, zv15, zv16, zv17, zv18, zv19, zv20, zv21, zv22, zv23, zv24] at *; omega) | (intro hg; (try simp only [reduceCtorEq, ints_len, bools_len, bif_t, bif_f, zv0, zv1, zv2, zv3, zv4, zv5, zv6, zv7, zv8, zv9, zv10, zv11, zv12, zv13, zv14, zv15, zv16, zv17, zv18, zv19, zv20, zv21, zv22, zv23, zv24] at hg); first | (with_reducible assumption) | omega | (simp only [reduceCtorEq, ints_len, bools_len, bif_t, bif_f, zv0, zv1, zv2, zv3, zv4, zv5, zv6, zv7, zv8, zv9, zv10, zv11, zv12, zv13, zv14, zv15, zv16, zv17, zv18, zv19, zv20, zv21, zv22, zv23, zv24] at *; omega) | (refine ⟨?_, ?_⟩ <;> omega)) | (refine ⟨?_, ?_⟩ <;> omega) | (simp [*]; done) | grind)); (conv => whnf))
      refine ⟨0, by omega, [.ren 1 4, .ren 2 5], ?_⟩
      conv => whnf
      exact .inr ⟨rfl, rfl⟩
    · conv => whnf
      refine ⟨fun h => absurd h (by decide), fun _ => ?_⟩
      conv => whnf
      refine ⟨[], ?_⟩
      conv => whnf
      refine ⟨[0, 1, 2], by simp, .cons ⟨_, rfl, rfl, rfl, .cons rfl (.cons rfl (.cons rfl .nil))⟩ (.cons ⟨_, rfl, rfl, rfl⟩ (.cons ⟨_, rfl, rfl, rfl⟩ .nil)), rfl⟩
end Go.Proofs.YtahdihhhankhdaaGreat.V
-- Zr
namespace Go.Proofs.YtahdihhhankhdaaGreat.V
open Go.Proofs.YtahdihhhankhdaaGreatVY Go.RowKit
/-- a runner, as it is read: its memory, its kernel, no fault -/
def runC (N : List Int) (B : List Bool) : List D := [.sl 3 [storeC N B]] ++ K0.c ++ [.int .i64 0, .int .i64 0, .int .i64 0, .int .i64 0, .bool false]
def R72 : Ct := fun ss hp r out => ∃ (N : List Int) (B : List Bool) (b i : Int), ss = [.one (.pel (runC N B)), .v (.ag ((Ref.mk 0 b [1]).c.map .d)), .di .i64 i] ∧ hp = [] ∧ 0 ≤ b ∧ b ≤ 1 ∧ 0 ≤ i ∧ i ≤ 3 ∧ r = .di .i64 (b + i) ∧ out = []
set_option maxHeartbeats 4000000 in
theorem ok72 : VSound Tryz.prog (72, R72) := by
  refine vsound (T := ty) (F := []) (pl := [(5, [[], [], [], [1, 2], [], [4], [], [4, 5, 6], [4, 5, 6, 7], [1, 2, 3, 4, 5, 6, 7, 8], [0, 1, 2, 3, 4, 5, 6, 7, 8, 9], [0, 1, 2, 3, 4, 5, 6, 7, 8, 9, 10]], .look 0 (.look 1 (.look 2 (.look 3 (.look 4 (.look 5 (.look 6 (.look 7 (.look 8 (.look 9 (.look 10 (.look 11 .done))))))))))))]) (nw := true) (cuts := []) mix tyOk .nil Tryz.func72 (by kernel_rfl) (by kernel_rfl) ?_
  rintro _ _ _ _ ⟨N, B, b, i, rfl, rfl, h0, h1, h2, h3, rfl, rfl⟩
  conv => whnf
  refine ⟨[], [2, 4, 7, 16, 17, 18], 1, fun n1 σ => ∃ (j : Nat) (q v : Int), j ≤ 1 ∧ n1 = 1 - j ∧ (j = 0 → q = i ∧ v = b) ∧ (j = 1 → v = b + i) ∧ σ = (⟨[.junk, .junk, .di .i64 q, .junk, .one (.ptr 0 0), .junk, .junk, .di .i64 v, .junk, .junk, .junk, .junk, .junk, .junk, .junk, .junk, .one (.d (.sl 1 ([4].map inC))), .di .i64 1, .di .i64 j, .junk, .junk, .junk, .junk, .junk, .junk, .junk, .junk, .junk, .junk, .junk, .junk, .junk, .junk, .junk, .junk, .junk, .junk, .junk, .junk], [.box (List.map .d (Ref.mk 0 b [1]).c)]⟩ : St), ?_, ?_⟩
  · refine ⟨1, ?_⟩
    conv => whnf
    exact ⟨0, i, b, by omega, by omega, fun _ => ⟨rfl, rfl⟩, by omega, rfl⟩
  · rintro n1 _ ⟨j, q, v, hj, rfl, hq, hv, rfl⟩
    conv => whnf
    ((with_reducible refine And.intro (fun (e : (_ : Bool) = true) => ?_) (fun (e : (_ : Bool) = false) => ?_)) <;> (try simp only [reduceCtorEq, ints_len, bools_len, bif_t, bif_f, zv0, zv1, zv2, zv3, zv4, zv5, zv6, zv7, zv8, zv9, zv10, zv11, zv12, zv13, zv14, zv15, zv16, zv17, zv18, zv19, zv20, zv21, zv22, zv23, zv24] at e) <;> (conv => whnf))
    · have hj' : j = 0 := by omega
      subst hj'
      obtain ⟨rfl, rfl⟩ := hq rfl
      refine ⟨_, And.intro ⟨by omega, rfl⟩ ?_⟩
      conv => whnf
      have ht : q.tmod 4 = q := Int.tmod_eq_of_lt h2 (by omega)
      refine ⟨by decide, ?_⟩
      conv => whnf
      rw [ht]
      refine ⟨_, And.intro ⟨by omega, rfl⟩ ?_⟩
      conv => whnf
      rw [Int.mul_one]
      (refine And.intro ?_ ?_; ((first | (with_reducible assumption) | (intro _; with_reducible assumption) | omega | (simp only [reduceCtorEq, ints_len, bools_len, bif_t, bif_f, zv0, zv1, zv2, zv3, zv4, zv5, zv6, zv7, zv8, zv9, zv10, zv11, zv12, zv13, zv14, zv15, zv16, zv17, zv18, zv19, zv20, zv21, zv22, zv23, zv24] at *; omega) | (intro hg; (try simp only [reduceCtorEq, ints_len, bools_len, bif_t, bif_f, zv0, zv1, zv2, zv3, zv4, zv5, zv6, zv7, zv8, zv9, zv10, zv11, zv12, zv13, zv14, zv15, zv16, zv17, zv18, zv19, zv20, zv21, zv22, zv23, zv24] at hg); first | (with_reducible assumption) | omega | (simp only [reduceCtorEq, ints_len, bools_len, bif_t, bif_f, zv0, zv1, zv2, zv3, zv4, zv5, zv6, zv7, zv8, zv9, zv10, zv11, zv12, zv13, zv14, zv15, zv16, zv17, zv18, zv19, zv20, zv21, zv22, zv23, zv24] at *; omega) | (refine ⟨?_, ?_⟩ <;> omega)) | (refine ⟨?_, ?_⟩ <;> omega) | (simp [*]; done) | grind)); (conv => whnf))
      (refine And.intro ?_ ?_; ((first | (with_reducible assumption) | (intro _; with_reducible assumption) | omega | (simp only [reduceCtorEq, ints_len, bools_len, bif_t, bif_f, zv0, zv1, zv2, zv3, zv4, zv5, zv6, zv7, zv8, zv9, zv10, zv11, zv12, zv13, zv14, zv15, zv16, zv17, zv18, zv19, zv20, zv21, zv22, zv23, zv24] at *; omega) | (intro hg; (try simp only [reduceCtorEq, ints_len, bools_len, bif_t, bif_f, zv0, zv1, zv2, zv3, zv4, zv5, zv6, zv7, zv8, zv9, zv10, zv11, zv12, zv13, zv14, zv15, zv16, zv17, zv18, zv19, zv20, zv21, zv22, zv23, zv24] at hg); first | (with_reducible assumption) | omega | (simp only [reduceCtorEq, ints_len, bools_len, bif_t, bif_f, zv0, zv1, zv2, zv3, zv4, zv5, zv6, zv7, zv8, zv9, zv10, zv11, zv12, zv13, zv14, zv15, zv16, zv17, zv18, zv19, zv20, zv21, zv22, zv23, zv24] at *; omega) | (refine ⟨?_, ?_⟩ <;> omega)) | (refine ⟨?_, ?_⟩ <;> omega) | (simp [*]; done) | grind)); (conv => whnf))
      have hd : q.tdiv 4 = 0 := Int.tdiv_eq_zero_of_lt h2 (by omega)
      refine ⟨by decide, ?_⟩
      conv => whnf
      rw [hd]
      (refine And.intro ?_ ?_; ((first | (with_reducible assumption) | (intro _; with_reducible assumption) | omega | (simp only [reduceCtorEq, ints_len, bools_len, bif_t, bif_f, zv0, zv1, zv2, zv3, zv4, zv5, zv6, zv7, zv8, zv9, zv10, zv11, zv12, zv13, zv14, zv15, zv16, zv17, zv18, zv19, zv20, zv21, zv22, zv23, zv24] at *; omega) | (intro hg; (try simp only [reduceCtorEq, ints_len, bools_len, bif_t, bif_f, zv0, zv1, zv2, zv3, zv4, zv5, zv6, zv7, zv8, zv9, zv10, zv11, zv12, zv13, zv14, zv15, zv16, zv17, zv18, zv19, zv20, zv21, zv22, zv23, zv24] at hg); first | (with_reducible assumption) | omega | (simp only [reduceCtorEq, ints_len, bools_len, bif_t, bif_f, zv0, zv1, zv2, zv3, zv4, zv5, zv6, zv7, zv8, zv9, zv10, zv11, zv12, zv13, zv14, zv15, zv16, zv17, zv18, zv19, zv20, zv21, zv22, zv23, zv24] at *; omega) | (refine ⟨?_, ?_⟩ <;> omega)) | (refine ⟨?_, ?_⟩ <;> omega) | (simp [*]; done) | grind)); (conv => whnf))
      (refine And.intro ?_ ?_; ((first | (with_reducible assumption) | (intro _; with_reducible assumption) | omega | (simp only [reduceCtorEq, ints_len, bools_len, bif_t, bif_f, zv0, zv1, zv2, zv3, zv4, zv5, zv6, zv7, zv8, zv9, zv10, zv11, zv12, zv13, zv14, zv15, zv16, zv17, zv18, zv19, zv20, zv21, zv22, zv23, zv24] at *; omega) | (intro hg; (try simp only [reduceCtorEq, ints_len, bools_len, bif_t, bif_f, zv0, zv1, zv2, zv3, zv4, zv5, zv6, zv7, zv8, zv9, zv10, zv11, zv12, zv13, zv14, zv15, zv16, zv17, zv18, zv19, zv20, zv21, zv22, zv23, zv24] at hg); first | (with_reducible assumption) | omega | (simp only [reduceCtorEq, ints_len, bools_len, bif_t, bif_f, zv0, zv1, zv2, zv3, zv4, zv5, zv6, zv7, zv8, zv9, zv10, zv11, zv12, zv13, zv14, zv15, zv16, zv17, zv18, zv19, zv20, zv21, zv22, zv23, zv24] at *; omega) | (refine ⟨?_, ?_⟩ <;> omega)) | (refine ⟨?_, ?_⟩ <;> omega) | (simp [*]; done) | grind)); (conv => whnf))
      refine ⟨0, by omega, [], ?_⟩
      conv => whnf
      exact ⟨1, 0, v + q, by omega, by omega, by omega, by omega, rfl⟩
    · have hj' : j = 1 := by omega
      rw [hv hj']
      (refine ⟨[], ?_⟩; (conv => whnf); refine ⟨[], .nil, .nil, ?_⟩; (conv => whnf))
def R84 : Ct := fun ss hp r out => ∃ (N : List Int) (B : List Bool) (i : Nat) (x : Int), ss = [.one (.pel (runC N B)), .v (.ag (T0.c.map .d)), .one (.d (.sl 2 [])), .di .i64 i] ∧ hp = [] ∧ N.length = 5 ∧ i ≤ 3 ∧ N[i]? = some x ∧ B[i]? = some true ∧ r = .tup [.ag [.d (.int .i64 1), .d (.int .i64 x)], .c (.d (.int .i64 0))] ∧ out = []
set_option maxHeartbeats 4000000 in
theorem ok84 : VSound Tryz.prog (84, R84) := by
  refine vsound (T := ty) (F := [(72, R72), (101, noR), (102, noR), (103, noR), (104, noR)]) (pl := [(3, [[], [0], [0, 1], [0, 1, 2], [], [4], [4, 5], [0, 1, 2, 3, 4, 5, 6], [0, 1, 2, 3, 4, 5, 6, 7], [], [], [10], [], [9, 10, 11, 12], [], [0, 1, 2, 3, 4, 5, 6, 7, 8, 9, 10, 11, 12, 13, 14], [0, 1, 2, 3, 4, 5, 6, 7, 8, 9, 10, 11, 12, 13, 14, 15]], .look 0 (.look 1 (.look 2 (.look 3 (.look 4 (.look 5 (.look 6 (.look 7 (.look 8 (.look 9 (.look 10 (.look 11 (.look 12 (.act 13 [0, 1, 2, 3, 4, 5, 6, 7, 8] (.act 14 [0, 1, 2, 3, 4, 5, 6, 7, 8, 9, 10, 11, 12] (.act 15 [] (.look 16 .done) .stop) .stop) (.act 14 [0, 1, 2, 3, 4, 5, 6, 7, 8, 9, 10, 11, 12] (.act 13 [0, 1, 2, 3, 4, 5, 6, 7, 8] (.act 15 [] (.look 16 .done) .stop) .stop) .stop))))))))))))))), (6, [[], [0], [], [2], [], [2, 3, 4], [2, 3, 4, 5], [0, 1, 2, 3, 4, 5, 6], [0, 1, 2, 3, 4, 5, 6, 7], [0, 1, 2, 3, 4, 5, 6, 7, 8]], .look 0 (.look 1 (.look 2 (.look 3 (.look 4 (.look 5 (.look 6 (.look 7 (.act 8 [] (.look 9 .done) .stop))))))))), (10, [[], [0], [], [2], [2, 3], [0, 1, 2, 3, 4], [0, 1, 2, 3, 4, 5], [0, 1, 2, 3, 4, 5], [0, 1, 2, 3, 4, 5, 6, 7], [0, 1, 2, 3, 4, 5, 6, 7, 8]], .look 0 (.look 1 (.look 2 (.look 3 (.look 4 (.act 5 [] (.look 6 (.look 7 (.act 8 [] (.look 9 .done) .stop))) .stop)))))), (18, [[], [0], [], [2], [2, 3], [0, 1, 2, 3, 4], [0, 1, 2, 3, 4, 5], [0, 1, 2, 3, 4, 5], [0, 1, 2, 3, 4, 5, 6, 7], [0, 1, 2, 3, 4, 5, 6, 7, 8]], .look 0 (.look 1 (.look 2 (.look 3 (.look 4 (.act 5 [] (.look 6 (.look 7 (.act 8 [] (.look 9 .done) .stop))) .stop)))))), (19, [[], [0], [], [2], [2, 3], [], [5], [5, 6], [0, 1, 2, 3, 4, 5, 6, 7], [0, 1, 2, 3, 4, 5, 6, 7, 8], [0, 1, 2, 3, 4, 5, 6, 7, 8], [0, 1, 2, 3, 4, 5, 6, 7, 8, 9, 10], [0, 1, 2, 3, 4, 5, 6, 7, 8, 9, 10, 11]], .look 0 (.look 1 (.look 2 (.look 3 (.look 4 (.look 5 (.look 6 (.look 7 (.act 8 [] (.look 9 (.look 10 (.act 11 [] (.look 12 .done) .stop))) .stop)))))))))]) (nw := true) (cuts := []) mix tyOk (.cons (ok72) (.cons (noOk (by kernel_rfl)) (.cons (noOk (by kernel_rfl)) (.cons (noOk (by kernel_rfl)) (.cons (noOk (by kernel_rfl)) .nil))))) Tryz.func84 (by kernel_rfl) (by kernel_rfl) ?_
  rintro _ _ _ _ ⟨N, B, i, x, rfl, rfl, hn, hi, hx, hb, rfl, rfl⟩
  conv => whnf
  refine ⟨fun _ => ?_, fun h => absurd h (by decide +kernel)⟩
  conv => whnf
  refine ⟨_, And.intro ⟨by simp only; omega, rfl⟩ ?_⟩
  conv => whnf
  have hb' : (bools B)[(i : Int).toNat]? = some [.bool true] := by
    rw [Int.toNat_natCast]; unfold bools; rw [List.getElem?_map, hb]; rfl
  refine And.intro ?_ ?_ <;> (conv => whnf)
  all_goals
    (refine ⟨[], false, false, ?_⟩; (conv => whnf); refine ⟨_, _, ⟨N, B, 0, i, rfl, rfl, by omega, by omega, by omega, by omega, rfl, rfl⟩, ?_⟩; (conv => whnf))
    rw [Int.zero_add]
    refine ⟨_, And.intro ⟨by omega, hb'⟩ ?_⟩
    conv => whnf
    refine ⟨fun h => absurd h (by decide), fun _ => ?_⟩
    conv => whnf
    (refine ⟨_, And.intro ⟨by omega, enc_get hx⟩ ?_⟩; (conv => whnf))
    (refine ⟨[], ?_⟩; (conv => whnf); refine ⟨[], .nil, .nil, ?_⟩)
    exact .cons (.cons rfl (.cons rfl .nil)) (.cons rfl .nil)
def R71 : Ct := fun ss hp r out => ∃ (N : List Int) (B : List Bool) (i : Nat) (x : Int), ss = [.one (.pel (runC N B)), .v (.ag (T0.c.map .d)), .di .i64 0, .di .i64 0, .di .i64 i] ∧ hp = [] ∧ N.length = 5 ∧ i ≤ 3 ∧ N[i]? = some x ∧ B[i]? = some true ∧ r = .tup [.ag [.d (.int .i64 1), .d (.int .i64 x)], .c (.d (.int .i64 1))] ∧ out = []
set_option maxHeartbeats 4000000 in
theorem ok71 : VSound Tryz.prog (71, R71) := by
  refine vsound (T := ty) (F := [(71, noR), (84, R84), (85, noR)]) (pl := []) (nw := true) (cuts := []) mix tyOk (.cons (noOk (by kernel_rfl)) (.cons (ok84) (.cons (noOk (by kernel_rfl)) .nil))) Tryz.func71 (by kernel_rfl) (by kernel_rfl) ?_
  rintro _ _ _ _ ⟨N, B, i, x, rfl, rfl, hn, hi, hx, hb, rfl, rfl⟩
  conv => whnf
  refine ⟨[], [0, 2, 3, 4, 6, 10, 12, 19, 20, 21], 2, fun n1 σ => n1 = 0 ∧ σ = (⟨[.one (.pel (runC N B)), .junk, .di .i64 0, .di .i64 0, .di .i64 i, .junk, .one (.ptr 0 0), .junk, .junk, .junk, .one (.ptr 1 0), .junk, .one (.emp 2), .junk, .junk, .junk, .junk, .junk, .junk, .one (.d (.sl 7 [])), .di .i64 0, .di .i64 0, .junk, .junk, .junk, .junk, .junk, .junk, .junk, .junk, .junk, .junk, .junk, .junk, .junk, .junk, .junk, .junk, .junk, .junk, .junk, .junk, .junk, .junk, .junk, .junk, .junk, .junk, .junk, .junk, .junk, .junk, .junk, .junk, .junk, .junk, .junk, .junk, .junk, .junk, .junk, .junk, .junk], [.box (List.map .d T0.c), .box [.d (.int .i64 0), .d (.int .i64 0)]]⟩ : St), ?_, ?_⟩
  · refine ⟨0, ?_⟩
    conv => whnf
    exact ⟨rfl, rfl⟩
  · rintro n1 _ ⟨rfl, rfl⟩
    conv => whnf
    refine ⟨fun h => absurd h (by decide), fun _ => ?_⟩
    conv => whnf
    (refine ⟨[], false, false, ?_⟩; (conv => whnf); refine ⟨_, _, ⟨N, B, i, x, rfl, rfl, hn, hi, hx, hb, rfl, rfl⟩, ?_⟩; (conv => whnf))
    refine ⟨fun h => absurd h (by decide), fun _ => ?_⟩
    conv => whnf
    (refine And.intro ?_ ?_; ((first | (with_reducible assumption) | (intro _; with_reducible assumption) | omega | (simp only [reduceCtorEq, ints_len, bools_len, bif_t, bif_f, zv0, zv1, zv2, zv3, zv4, zv5, zv6, zv7, zv8, zv9, zv10, zv11, zv12, zv13, zv14, zv15, zv16, zv17, zv18, zv19, zv20, zv21, zv22, zv23, zv24] at *; omega) | (intro hg; (try simp only [reduceCtorEq, ints_len, bools_len, bif_t, bif_f, zv0, zv1, zv2, zv3, zv4, zv5, zv6, zv7, zv8, zv9, zv10, zv11, zv12, zv13, zv14, zv15, zv16, zv17, zv18, zv19, zv20, zv21, zv22, zv23, zv24] at hg); first | (with_reducible assumption) | omega | (simp only [reduceCtorEq, ints_len, bools_len, bif_t, bif_f, zv0, zv1, zv2, zv3, zv4, zv5, zv6, zv7, zv8, zv9, zv10, zv11, zv12, zv13, zv14, zv15, zv16, zv17, zv18, zv19, zv20, zv21, zv22, zv23, zv24] at *; omega) | (refine ⟨?_, ?_⟩ <;> omega)) | (refine ⟨?_, ?_⟩ <;> omega) | (simp [*]; done) | grind)); (conv => whnf))
    (refine ⟨[], ?_⟩; (conv => whnf); refine ⟨[], .nil, .nil, ?_⟩)
    exact .cons (.cons rfl (.cons rfl .nil)) (.cons rfl .nil)
def R51 : Ct := fun ss hp r out => ∃ (N : List Int) (B : List Bool) (i : Nat) (x : Int), ss = [.one (.pel (runC N B)), .di .i64 0, .di .i64 i] ∧ hp = [] ∧ N.length = 5 ∧ i ≤ 3 ∧ N[i]? = some x ∧ B[i]? = some true ∧ r = .tup [.ag [.d (.int .i64 1), .d (.int .i64 x)], .c (.d (.bool true))] ∧ out = []
set_option maxHeartbeats 4000000 in
theorem ok51 : VSound Tryz.prog (51, R51) := by
  refine vsound (T := ty) (F := [(71, R71)]) (pl := []) (nw := true) (cuts := []) mix tyOk (.cons (ok71) .nil) Tryz.func51 (by kernel_rfl) (by kernel_rfl) ?_
  rintro _ _ _ _ ⟨N, B, i, x, rfl, rfl, hn, hi, hx, hb, rfl, rfl⟩
  conv => whnf
  refine ⟨_, And.intro ⟨by omega, rfl⟩ ?_⟩
  conv => whnf
  refine ⟨fun h => absurd h (by decide), fun _ => ?_⟩
  conv => whnf
  (first | (refine And.intro ?_ ?_ <;> (conv => whnf)) | skip)
  all_goals
    (refine ⟨[], false, false, ?_⟩; (conv => whnf); refine ⟨_, _, ⟨N, B, i, x, rfl, rfl, hn, hi, hx, hb, rfl, rfl⟩, ?_⟩; (conv => whnf))
    (refine ⟨[], ?_⟩; (conv => whnf); refine ⟨[], .nil, .nil, ?_⟩)
    exact .cons (.cons rfl (.cons rfl .nil)) (.cons rfl .nil)
end Go.Proofs.YtahdihhhankhdaaGreat.V
-- Zs
namespace Go.Proofs.YtahdihhhankhdaaGreat.V
open Go.Proofs.YtahdihhhankhdaaGreatVY Go.RowKit
/-- a runner of one's own: its memory stands in three handles from h on -/
def runB (h : Nat) : List C := [.own h] ++ (K0.c.map C.d) ++ [.d (.int .i64 0), .d (.int .i64 0), .d (.int .i64 0), .d (.int .i64 0), .d (.bool false)]
def R52 : Ct := fun ss hp r out => ∃ (N : List Int) (B : List Bool) (i : Nat) (x : Int) (v0 v1 v2 v3 : Value), ss = [.one (.ptr 0 0), .di .i64 0, .di .i64 i, .v (.ag [.d (.int .i64 1), .d (.int .i64 x)])] ∧
  hp = [.box (runB 1), .rowt 3 [] [.d (.int .i64 1), .own 2, .own 3], .row 1 (N.map inC), .row 1 (bools B), .mem v0 (.ptr 0 0), .mem v1 (.own 1), .mem v2 (.own 2), .mem v3 (.own 3)] ∧ N.length = 5 ∧ B.length = 5 ∧ i ≤ 3 ∧ r = .tup [] ∧
  out = [.box (runB 1), .rowt 3 [] [.d (.int .i64 1), .own 2, .own 3], .row 1 ((N.set (1 + i) x).map inC), .row 1 (bools (B.set (1 + i) true)), .mem v0 (.ptr 0 0), .mem v1 (.own 1), .mem v2 (.own 2), .mem v3 (.own 3)]
set_option maxHeartbeats 4000000 in
theorem ok52 : VSound Tryz.prog (52, R52) := by
  refine vsound (T := ty) (F := [(72, R72)]) (pl := [(2, [[], [0], [0, 1], [0, 1, 2], [], [4], [0, 1, 2, 3, 4, 5], [0, 1, 2, 3, 4, 5, 6], [], [], [], [8, 9, 10], [], [0, 1, 2, 3, 4, 5, 6, 7, 8, 9, 10, 11, 12], [0, 1, 2, 3, 4, 5, 6, 7, 8, 9, 10, 11, 12, 13]], .look 0 (.look 1 (.look 2 (.look 3 (.look 4 (.look 5 (.look 6 (.look 7 (.look 8 (.look 9 (.look 10 (.act 11 [0, 1, 2, 3, 4, 5, 6, 7] (.act 12 [0, 1, 2, 3, 4, 5, 6, 7, 8, 9, 10] (.act 13 [] (.look 14 .done) .stop) .stop) (.act 12 [0, 1, 2, 3, 4, 5, 6, 7, 8, 9, 10] (.act 11 [0, 1, 2, 3, 4, 5, 6, 7] (.act 13 [] (.look 14 .done) .stop) .stop) .stop))))))))))))), (3, [[], [0], [], [], [3], [], [], [6], [0, 1, 2, 6, 7], [0, 1, 2, 6, 7, 8], [0, 1, 2, 3, 4, 5, 6, 7, 8, 9], [0, 1, 2, 3, 4, 5, 6, 7, 8, 9, 10]], .look 0 (.look 1 (.look 2 (.look 3 (.look 4 (.look 5 (.look 6 (.look 7 (.look 8 (.act 9 [3, 4, 5] (.look 10 (.act 11 [] .done .stop)) .stop))))))))))]) (nw := true) (cuts := []) mix tyOk (.cons (ok72) .nil) Tryz.func52 (by kernel_rfl) (by kernel_rfl) ?_
  rintro _ _ _ _ ⟨N, B, i, x, v0, v1, v2, v3, rfl, rfl, hn, hb, hi, rfl, rfl⟩
  obtain ⟨a, ha⟩ := get_lt (l := N) (i := 1 + i) (by omega)
  obtain ⟨b, hb'⟩ := get_lt (l := B) (i := 1 + i) (by omega)
  have hi1 : ((1 : Int) + (i : Int)).toNat = 1 + i := by omega
  have hbe : (bools B)[1 + i]? = some [.bool b] := by unfold bools; rw [List.getElem?_map, hb']; rfl
  have hbs : (bools B).set (1 + i) [.bool true] = bools (B.set (1 + i) true) := by unfold bools; rw [List.map_set]
  have hns : (N.map inC).set (1 + i) [D.int .i64 x] = (N.set (1 + i) x).map inC := by rw [List.map_set]
  conv => whnf
  refine ⟨_, And.intro ⟨by omega, rfl⟩ ?_⟩
  conv => whnf
  refine ⟨by simp, ?_⟩
  conv => whnf
  refine ⟨by simp, ?_⟩
  conv => whnf
  refine And.intro ?_ ?_ <;> (conv => whnf)
  all_goals
    (refine ⟨[], false, false, ?_⟩; (conv => whnf); refine ⟨_, _, ⟨N, B, 1, i, rfl, rfl, by omega, by omega, by omega, by omega, rfl, rfl⟩, ?_⟩; (conv => whnf))
    refine And.intro ⟨by omega, by rw [List.length_map]; omega⟩ ?_
    conv => whnf
    rw [hi1]
    refine ⟨_, And.intro (enc_get ha) ?_⟩
    conv => whnf
    first | rw [hns] | rw [hi1, hns] | skip
    refine And.intro ⟨by omega, by rw [bools_len]; omega⟩ ?_
    conv => whnf
    rw [hi1]
    refine ⟨_, And.intro hbe ?_⟩
    conv => whnf
    refine ⟨[], ?_⟩
    conv => whnf
    refine ⟨[0, 1, 2, 3, 4, 5, 6, 7], by simp, .cons ⟨_, rfl, ?_⟩ (.cons ⟨_, rfl, rfl, rfl, .cons rfl (.cons rfl (.cons rfl .nil))⟩ (.cons ⟨_, rfl, rfl, rfl⟩ (.cons ⟨_, rfl, rfl, hbs⟩ (.cons ⟨_, rfl, rfl, rfl, rfl⟩ (.cons ⟨_, rfl, rfl, rfl⟩ (.cons ⟨_, rfl, rfl, rfl⟩ (.cons ⟨_, rfl, rfl, rfl⟩ .nil))))))), .nil⟩
    unfold runB
    repeat' (first | exact All2.nil | refine All2.cons rfl ?_)
end Go.Proofs.YtahdihhhankhdaaGreat.V
