/-
  V: slices.Sort of a row of one's own, by the shelf's contract. By the session's own hand.
-/
import Derived.Test.YtahdihhhankhdaaVh
import Derived.Test.YtahdihhhankhdaaVshelf
import Derived.Sort.Grow
set_option linter.unusedVariables false
set_option linter.unusedSimpArgs false
set_option maxRecDepth 100000
set_option linter.all false
set_option linter.unnecessarySimpa false
set_option linter.deprecated false
namespace Go.Proofs.Ytahdihhhankhdaa.V
open Go.Proofs.YtahdihhhankhdaaVY Go.RowKit
def sortI (l : List Int) : List Int := l.mergeSort fun x y => decide (x ≤ y)
theorem sortI_len (l : List Int) : (sortI l).length = l.length := List.length_mergeSort l
theorem sortI_perm (l : List Int) : (sortI l).Perm l := List.mergeSort_perm ..
theorem sortI_sorted (l : List Int) : (sortI l).Pairwise (· ≤ ·) := by
  have := List.pairwise_mergeSort (le := fun x y : Int => decide (x ≤ y)) (by simp; omega) (by simp; omega) l
  exact this.imp fun h => by simpa using h
/-- cells that read as ints -/
theorem ints_cells {A : Nat → Prop} {w : World} {b off : Nat} {l : List Int} (h : RdL A w b off 1 (l.map inC)) {j : Nat} (hj : j < l.length) : w.cell? ⟨b, off + j, none⟩ = some (.int .i64 (l[j]'hj)) := by
  have h1 : (l.map inC)[j]? = some (inC l[j]) := by rw [List.getElem?_map, List.getElem?_eq_getElem hj]; rfl
  have h2 := (h.get h1).2
  simp only [RdC] at h2
  obtain ⟨⟨v, hv, hx⟩, _⟩ := h2
  simp only [Rd] at hx
  subst hx
  rw [Nat.mul_one] at hv
  exact hv
theorem ints_read {A : Nat → Prop} {w : World} {b off : Nat} {l : List Int} (h : ∀ (j : Nat) (hj : j < l.length), w.cell? ⟨b, off + j, none⟩ = some (.int .i64 (l[j]'hj))) : RdL A w b off 1 (l.map inC) := by
  refine RdL_mk fun i e he => ?_
  rw [List.getElem?_map] at he
  obtain ⟨n, hn, rfl⟩ := Option.map_eq_some_iff.1 he
  obtain ⟨hi, rfl⟩ := List.getElem?_eq_some_iff.1 hn
  refine ⟨rfl, RdC_mk fun j x hx => ?_⟩
  cases j with
  | zero => simp at hx; subst hx; exact ⟨_, by rw [Nat.mul_one, Nat.add_zero]; exact h i hi, by simp only [Rd]⟩
  | succ j => simp at hx
def R132 : Ct := fun ss hp r out => ∃ (l : List Int) (v : Value), ss = [.one (.own 0)] ∧ hp = [.row 1 (l.map inC), .mem v (.own 0)] ∧ l.length < 4611686018427387904 ∧ r = .tup [] ∧ out = [.row 1 ((sortI l).map inC), .mem v (.own 0)]
theorem ok132 : VSound Try.prog (132, R132) := by
  refine .inl ⟨?_, enterB_ok (by kernel_rfl)⟩
  intro X w args ss hp ρ r out hG hX hH hgl ha hR
  obtain ⟨l, v, rfl, rfl, hl, rfl, rfl⟩ := hR
  obtain ⟨v0, hv0, a, c, rfl, hlc, hz, hrow⟩ := hH.val (h := 0) (r := .row 1 (l.map inC)) rfl
  obtain ⟨v1, hv1, hmem⟩ := hH.val (h := 1) (r := .mem v (.own 0)) rfl
  rw [map_len] at hlc hv0
  obtain ⟨av, rfl⟩ : ∃ av, args = #[av] := by
    obtain ⟨args⟩ := args
    cases ha with
    | cons h1 h2 => cases h2; exact ⟨_, rfl⟩
  obtain ⟨hav, _⟩ : ρ[0]? = some av ∧ Flat av := by
    cases ha with
    | cons h1 h2 => exact h1
  rw [hv0] at hav; cases hav
  have tup : ∀ w', SRel ρ (Av X ρ [.row 1 ((sortI l).map inC), .mem v (.own 0)]) w' (.tuple #[]) (.tup []) := fun w' => ⟨#[], rfl, .nil⟩
  by_cases h0 : l.length = 0
  · have hl0 : l = [] := List.length_eq_zero_iff.1 h0
    subst hl0
    rw [show sortI [] = [] by simp [sortI]] at tup ⊢
    refine (Try.slices_Sort_int_none a c w).mono ?_
    rintro e w' ⟨rfl, rfl⟩
    exact ⟨_, ρ, rfl, tup _, hH, Nat.le_refl _, ⟨rfl, rfl, rfl⟩, fun _ _ _ => rfl, fun b hb => .inl hb⟩
  · rcases hrow with rfl | ⟨b, off, T, vs, rfl, hb, hsz, hL⟩
    · omega
    · have hlt : b < w.heap.size := (Array.getElem?_eq_some_iff.1 hb).1
      have hHolds : Sort.Holds (Value.int .i64) w b off l.toArray := fun j hj => by
        have hj' : j < l.length := by simpa using hj
        refine ⟨?_, by simp [World.frozen?, hb]⟩
        rw [ints_cells hL hj']
        simp [hj']
      refine (Try.slices_Sort_int b off c l w hHolds hlt hl).mono ?_
      rintro e w' ⟨rfl, n, os, hw⟩
      change w' = Sort.grow (Sort.putRow (Value.int .i64) (Sort.ahead w n) b off (sortI l).toArray) os at hw
      have hs : (sortI l).toArray.size = l.toArray.size := by simp [sortI_len]
      have hold : ∀ k, k < w.heap.size → k ≠ b → w'.heap[k]? = w.heap[k]? := by
        intro k hk hne
        rw [hw, show (Sort.grow (Sort.putRow (Value.int .i64) (Sort.ahead w n) b off (sortI l).toArray) os).heap = (Sort.putRow (Value.int .i64) (Sort.ahead w n) b off (sortI l).toArray).heap ++ os from rfl, Array.getElem?_append_left (by simpa using hk)]
        simp [Sort.putRow, Sort.mapBlock, Sort.ahead, Array.getElem?_modify, Ne.symm hne]
      have hnew : w'.heap[b]? = some (.cells (Sort.putCells (Value.int .i64) off (sortI l).toArray vs) T (0, 0)) := by
        rw [hw, show (Sort.grow (Sort.putRow (Value.int .i64) (Sort.ahead w n) b off (sortI l).toArray) os).heap = (Sort.putRow (Value.int .i64) (Sort.ahead w n) b off (sortI l).toArray).heap ++ os from rfl, Array.getElem?_append_left (by simpa using hlt)]
        simp [Sort.putRow, Sort.mapBlock, Sort.ahead, Array.getElem?_modify, hb, Sort.onCells]
      have hgr : w.heap.size ≤ w'.heap.size := by rw [hw]; simp [Sort.ahead]
      have hst : Str w w' := by rw [hw]; exact ⟨rfl, rfl, rfl⟩
      clear hw
      obtain ⟨c1, rfl⟩ : ∃ c1, c = c1 + 1 := ⟨c - 1, by omega⟩
      obtain ⟨l1, hl1⟩ : ∃ l1, l.length = l1 + 1 := ⟨l.length - 1, by omega⟩
      have hbk : Bk (.slice (some ⟨b, off, none⟩) l.length (c1 + 1)) b := rfl
      have T' : Go.Proofs.YtahdihhhankhdaaVY.Touch X ρ ρ [.row 1 (l.map inC), .mem v (.own 0)] [.row 1 ((sortI l).map inC), .mem v (.own 0)] w w' 0 (.row 1 ((sortI l).map inC)) (.slice (some ⟨b, off, none⟩) l.length (c1 + 1)) none := {
        len' := hH.len
        oth := fun h hne => by
          rw [loseO_none_map]
          refine ⟨?_, rfl⟩
          cases h with
          | zero => exact absurd rfl hne
          | succ h => rfl
        hpt := rfl
        ρt := hv0
        grow := hgr
        inv0 := .inl rfl
        keep := fun _ _ => hv0
        row := fun h => by cases h
        fresh := fun _ b' hb' => .inr ⟨_, _, rfl, rfl, hv0, hb'⟩
        same := fun k hk => by
          by_cases e : k = b
          · subst e; exact .inr ⟨_, _, rfl, rfl, hv0, hbk⟩
          · exact .inl (hold k hk e)
        xlt := hX
        str := hst }
      refine ⟨_, ρ, rfl, tup _, hH.touch T' ?_, hgr, hst, fun k hk hn => ?_, fun k hk => ?_⟩
      · refine ⟨some ⟨b, off, none⟩, c1 + 1, by rw [map_len, sortI_len], by rw [map_len, sortI_len]; exact hlc, hz, .inr ⟨b, off, T, _, rfl, hnew, by simpa [Sort.putCells] using hsz, ints_read fun j hj => ?_⟩⟩
        have hj' : j < l.length := by rw [sortI_len] at hj; exact hj
        have hc := ints_cells hL hj'
        simp only [World.cell?, hb] at hc
        simp only [World.cell?, hnew]
        simp only [Option.isSome_none, Bool.false_eq_true, if_false] at hc ⊢
        have hlt2 : off + j < vs.size := (Array.getElem?_eq_some_iff.1 hc).1
        simp [Sort.putCells, hj, hlt2]
      · by_cases e : k = b
        · subst e; exact absurd ⟨0, _, _, rfl, rfl, hv0, hbk⟩ hn
        · exact hold k hk e
      · exact (T'.live hk).elim .inr .inl
end Go.Proofs.Ytahdihhhankhdaa.V

