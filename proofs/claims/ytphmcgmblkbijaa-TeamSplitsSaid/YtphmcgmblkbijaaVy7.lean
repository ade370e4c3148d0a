/-
  VY: append. By the session's own hand.
-/
import Derived.Test.YtphmcgmblkbijaaVy6
set_option linter.unusedSectionVars false
set_option linter.unusedVariables false
set_option linter.unusedSimpArgs false
set_option linter.all false
set_option linter.unnecessarySimpa false
set_option linter.deprecated false
namespace Go.Proofs.YtphmcgmblkbijaaVY
section
variable {P : Program} {w : World} {X : Nat → Prop} {w0 : World} {B0 : Nat → Prop} [hGP : GPc X B0 w0] {σ : St} {a : Act} {ρ : Hs}
/-- cells that a slice begins with -/
def Heads (w : World) (a' : Option Addr) (us : List Value) : Prop := us = [] ∨ ∃ b off, a' = some ⟨b, off, none⟩ ∧ b < w.heap.size ∧ ∀ (j : Nat) (u : Value), us[j]? = some u → w.cell? ⟨b, off + j, none⟩ = some u
theorem run_first {w1 : World} (hw : ∀ x, w1.cell? x = w.cell? x) {a' : Option Addr} {us : List Value} {sz n len cap : Nat} (h : Heads w a' us) (hl : us.length = n * sz) :
    (Builtin.firstCells sz n (.slice a' len cap)).run P w1 = .ok us.toArray w1 := by
  cases a' with
  | none =>
    rcases h with rfl | ⟨b, off, h, _⟩
    · simp [Builtin.firstCells]
    · cases h
  | some x =>
    refine run_firstCells_some (P := P) w1 sz n x len cap us hl ?_
    intro j v hv
    rcases h with rfl | ⟨b, off, h, _, hc⟩
    · simp at hv
    · cases h; rw [Addr.add_lit, hw]; exact hc j v hv
theorem run_append_fit {T T2 ty e e2 : TypeId} {i : TypeInfo} (hd : P.underlying T = some (.slice e)) (hd2 : P.underlying T2 = some (.slice e2)) (hi : P.info? e = some i)
    {a0 a1 : Option Addr} {n c m c1 : Nat} {vs : List Value} (hv : Heads w a1 vs) (hvl : vs.length = m * i.size) (hf : ∀ v ∈ vs, Flat v) (hroom : n + m ≤ c)
    (hb : vs = [] ∨ ∃ b off Tb cur, a0 = some ⟨b, off, none⟩ ∧ w.heap[b]? = some (.cells cur Tb (0, 0)) ∧ off + n * i.size + vs.length ≤ cur.size) :
    ∃ w', (Builtin.append_ #[T, T2] ty #[.slice a0 n c, .slice a1 m c1]).run P w = .ok (.slice a0 (n + m) c) w' ∧
      ((vs = [] ∧ w' = w) ∨ ∃ b off Tb cur, a0 = some ⟨b, off, none⟩ ∧ w.heap[b]? = some (.cells cur Tb (0, 0)) ∧ off + n * i.size + vs.length ≤ cur.size ∧
        w' = w.setRow b (cur.toList.take (off + n * i.size) ++ vs ++ cur.toList.drop (off + n * i.size + vs.length)).toArray) := by
  have h1 := run_first (P := P) (fun _ => rfl) (len := m) (cap := c1) hv hvl
  rcases hb with rfl | ⟨b, off, Tb, cur, rfl, hcur, hsz⟩
  · refine ⟨w, ?_, .inl ⟨rfl, rfl⟩⟩
    cases a0 with
    | none => simp [Builtin.append_, run_underlying hd, run_underlying hd2, sizeOf, typeInfo, hi, Builtin.lenOf, hroom, h1]
    | some x => simp [Builtin.append_, run_underlying hd, run_underlying hd2, sizeOf, typeInfo, hi, Builtin.lenOf, hroom, h1, storeCells]
  · refine ⟨_, ?_, .inr ⟨b, off, Tb, cur, rfl, hcur, hsz, rfl⟩⟩
    have h2 := run_puts (P := P) (w := w) (b := b) (off := off + n * i.size) hcur hsz hf
    simp [Builtin.append_, run_underlying hd, run_underlying hd2, sizeOf, typeInfo, hi, Builtin.lenOf, hroom, h1, Addr.add_lit, h2]
theorem run_append_more {T T2 ty e e2 : TypeId} {i : TypeInfo} {z : Value} (hd : P.underlying T = some (.slice e)) (hd2 : P.underlying T2 = some (.slice e2)) (hi : P.info? e = some i) (hz : i.zero = some z) (hb1 : 1 ≤ i.bytes)
    {a0 a1 : Option Addr} {n c m c1 : Nat} {us vs : List Value} (hu : Heads w a0 us) (hul : us.length = n * i.size) (hv : Heads w a1 vs) (hvl : vs.length = m * i.size) (hroom : c < n + m) (hbig : (n + m) * i.bytes ≤ 140737488355328) :
    ∃ w' zs cap, (Builtin.append_ #[T, T2] ty #[.slice a0 n c, .slice a1 m c1]).run P w = .ok (.slice (some ⟨w.heap.size, 0, none⟩) (n + m) cap) w' ∧ n + m ≤ cap ∧ Str w w' ∧
      w'.heap = w.heap.push (.cells (us ++ vs ++ zs).toArray e (0, 0)) ∧ (us ++ vs ++ zs).length = n * i.size + m * i.size + (cap - (n + m)) * z.cells.size := by
  have h0 : ¬ n + m ≤ c := by omega
  have h63 : ¬ ((9223372036854775807 : Int) < (n : Int) + m ∧ i.bytes = 0) := by omega
  have h48 : ¬ (281474976710656 < Builtin.nextslicecap (n + m) c * i.bytes) := by have := growslice_fits hroom hbig; omega
  have h1 := run_first (P := P) (w := w) (w1 := w.drew) (fun _ => World.cell?_drew ..) (len := n) (cap := c) hu hul
  have h2 := run_first (P := P) (w := w) (w1 := w.drew) (fun _ => World.cell?_drew ..) (len := m) (cap := c1) hv hvl
  refine ⟨w.drew.alloc (.cells (us ++ vs ++ (Builtin.zeroCells z.cells (grownCap w (n + m) c e - (n + m))).toList).toArray e), (Builtin.zeroCells z.cells (grownCap w (n + m) c e - (n + m))).toList, grownCap w (n + m) c e, ?_, grownCap_ge .., ⟨rfl, rfl, rfl, Nat.le_succ _⟩, rfl, ?_⟩
  · simp [Builtin.append_, run_underlying hd, run_underlying hd2, sizeOf, typeInfo, zeroValue, hi, hz, Builtin.lenOf, h0, h63, h48, Question.forced, h1, h2, newRow, grownCap]
    congr 2; apply Array.ext'; simp [List.append_assoc]
  · simp [hul, hvl, size_zeroCells]
    omega

theorem baseK_ok (I : Inv X w0 B0 σ a w ρ) {c : C} {v : Value} {k : Option Nat → Nat → List (List D) → Prop} (hc : CRel ρ (Av X ρ σ.hp) w v c) (h : baseK σ.hp c k) :
    ∃ h? sz L, k h? sz L ∧ ∃ a' cap, v = .slice a' L.length cap ∧ L.length ≤ cap ∧ ((h? = none ∧ cap = 0 ∧ L = []) ∨ ∃ hd L0 v0, h? = some hd ∧ σ.hp[hd]? = some (.row sz L0) ∧ ρ[hd]? = some v0 ∧ (∃ a l c, v0 = .slice a l c) ∧
      (cap = 0 ∨ ∃ b off T cur, a' = some ⟨b, off, none⟩ ∧ Bk v0 b ∧ w.heap[b]? = some (.cells cur T (0, 0)) ∧ off + cap * sz ≤ cur.size ∧ RdL (Av X ρ σ.hp) w b off sz L)) := by
  unfold baseK at h
  split at h
  · rename_i sz
    obtain ⟨a', rfl⟩ := hc
    exact ⟨_, _, _, h, a', 0, rfl, Nat.le_refl _, .inl ⟨rfl, rfl, rfl⟩⟩
  · rename_i hd
    replace h := nthK_ok h
    obtain ⟨r, hr, h⟩ := h
    obtain ⟨v0, hv0, hR⟩ := I.hp.val hr
    obtain rfl : v0 = v := by have := hc.1; rw [hv0] at this; exact Option.some.inj this
    split at h
    · rename_i sz L
      obtain ⟨a', cap, hv, hcap, hz, hR⟩ := hR
      refine ⟨_, _, _, h, a', cap, hv, hcap, .inr ⟨hd, L, v0, rfl, hr, hv0, ⟨_, _, _, hv⟩, ?_⟩⟩
      cases cap with
      | zero => exact .inl rfl
      | succ cap =>
        rcases hR with hR | ⟨b, off, T, cur, ha, hcur, hsz, hL⟩
        · cases hR
        · exact .inr ⟨b, off, T, cur, ha, by rw [hv, ha]; rfl, hcur, hsz, hL⟩
    · exact h.elim
  · rename_i hd sz lo n
    replace h := nthK_ok h
    obtain ⟨r, hr, h⟩ := h
    obtain ⟨v0, hv0, hR⟩ := I.hp.val hr
    obtain ⟨a0, l0, c0, hρ, hlo, hl0, a', hv, ha'⟩ := hc
    have e0 : v0 = .slice a0 l0 c0 := by rw [hv0] at hρ; exact Option.some.inj hρ
    subst e0
    split at h
    · rename_i sz' L
      replace h := tt_ok h
      obtain ⟨hq, h⟩ := h
      obtain rfl := Nat.eq_of_beq_eq_true hq
      obtain ⟨a'', c'', he, hl, hz, hR⟩ := hR
      cases he
      have hlen : ((L.drop lo).take n).length = n := by simp; omega
      refine ⟨_, _, _, h, a', c0 - lo, by rw [hlen]; exact hv, by rw [hlen]; omega, .inr ⟨hd, L, _, rfl, hr, hv0, ⟨_, _, _, rfl⟩, ?_⟩⟩
      by_cases hq : c0 = lo
      · exact .inl (by omega)
      · rcases hR with rfl | ⟨b, off, T, cur, rfl, hcur, hsz, hL⟩
        · exact .inl (by omega)
        · rcases ha' with e | rfl
          · exact absurd e hq
          · refine .inr ⟨b, off + lo * sz, T, cur, by simp [Addr.add_lit], ?_, hcur, ?_, (hL.drop lo).take n⟩
            · obtain ⟨c1, rfl⟩ : ∃ c1, c0 = c1 + 1 := ⟨c0 - 1, by omega⟩
              rfl
            · have : lo * sz + (c0 - lo) * sz = c0 * sz := by rw [← Nat.add_mul]; congr 1; omega
              omega
    · exact h.elim
  · exact h.elim

theorem RdL_cells {A : Nat → Prop} {w : World} {b off sz : Nat} {T : TypeId} {cur : Array Value} {L : List (List D)} (hb : w.heap[b]? = some (.cells cur T (0, 0))) (hl : ∀ e ∈ L, e.length = sz)
    (h : ∀ (j : Nat) (x : D), L.flatten[j]? = some x → ∃ u, cur[off + j]? = some u ∧ Rd A w u x) : RdL A w b off sz L := RdL_iff.2 ⟨hl, RdC_of hb h⟩
/-- a row is made -/
theorem newRow' (I : Inv X w0 B0 σ a w ρ) {T : TypeId} {vs : Array Value} {sz : Nat} {L : List (List D)} {c : Nat} (hsz : 0 < sz) (hL : ∀ e ∈ L, e.length = sz) (hc : L.length ≤ c) (hcs : c * sz ≤ vs.size)
    (hv : ∀ (j : Nat) (x : D), L.flatten[j]? = some x → ∃ u, vs[j]? = some u ∧ Rd (Av X ρ σ.hp) w u x) {dst : Option Tmp} :
    Inv X w0 B0 (σ.after dst (.one (.own σ.hp.length)) [] [.row sz L] none) (a.put dst (.slice (some ⟨w.heap.size, 0, none⟩) L.length c)) { w with heap := w.heap.push (.cells vs T (0, 0)) } (ρ ++ [.slice (some ⟨w.heap.size, 0, none⟩) L.length c]) := by
  have T' := touchNew I (w' := { w with heap := w.heap.push (.cells vs T (0, 0)) }) (r := .row sz L) (v := .slice (some ⟨w.heap.size, 0, none⟩) L.length c) rfl ⟨rfl, rfl, rfl, Nat.le_refl _⟩ (fun b hb => by
    cases c with
    | zero => simp [Bk, blk] at hb
    | succ c => simp [Bk, blk] at hb; omega)
  have hl := T'.ρt
  have hb : ({ w with heap := w.heap.push (.cells vs T (0, 0)) } : World).heap[w.heap.size]? = some (.cells vs T (0, 0)) := by simp
  rw [after_new]
  have := I.touchPut T' (dst := dst) (v := .slice (some ⟨w.heap.size, 0, none⟩) L.length c) (s := .one (.own σ.hp.length))
    ⟨some ⟨w.heap.size, 0, none⟩, c, rfl, hc, hsz, .inr ⟨w.heap.size, 0, T, vs, rfl, hb, by omega, RdL_cells hb hL fun j x hx => by
      obtain ⟨u, hu, hr⟩ := hv j x hx
      exact ⟨u, by rw [Nat.zero_add]; exact hu, hr.lasts T'.lasts⟩⟩⟩
    (sown hl ⟨by simp, by simp⟩)
  rwa [map_sloseO_none] at this
theorem chunkK_ok {sz : Nat} : ∀ {n : Nat} {l : List D} {k : List (List D) → Prop}, chunkK sz n l k → ∃ L, k L ∧ (∀ e ∈ L, e.length = sz) ∧ L.length = n ∧ ∀ (j : Nat) (x : D), L.flatten[j]? = some x → l[j]? = some x
  | 0, l, k, h => ⟨[], h, by simp, rfl, by simp⟩
  | n + 1, l, k, h => by
    unfold chunkK at h
    replace h := takeK_ok h
    obtain ⟨hle, h⟩ := h
    replace h := dropK_ok h
    obtain ⟨_, h⟩ := h
    obtain ⟨L, h, h1, h2, h3⟩ := chunkK_ok h
    have hl : (l.take sz).length = sz := by simp; omega
    have hall : ∀ e ∈ l.take sz :: L, e.length = sz := by
      intro e he
      rcases List.mem_cons.1 he with rfl | he
      · exact hl
      · exact h1 e he
    refine ⟨_, h, hall, by simp [h2], fun j x hx => ?_⟩
    rw [List.flatten_cons] at hx
    rcases Nat.lt_or_ge j sz with hj | hj
    · rw [List.getElem?_append_left (by omega), List.getElem?_take, if_pos hj] at hx; exact hx
    · rw [List.getElem?_append_right (by omega), hl] at hx
      have := h3 _ _ hx
      rw [List.getElem?_drop] at this
      rwa [Nat.add_sub_cancel' hj] at this
theorem zerosOf_get {ez : List D} {sz : Nat} (hs : ez.length = sz) (h1 : 1 ≤ sz) : ∀ (n j : Nat), j < n * sz → (zerosOf ez n)[j]? = (ez[j % sz]?).map .d
  | 0, j, h => by omega
  | n + 1, j, h => by
    rw [zerosOf]
    rcases Nat.lt_or_ge j sz with hj | hj
    · rw [List.getElem?_append_left (by simp; omega), List.getElem?_map, Nat.mod_eq_of_lt hj]
    · rw [List.getElem?_append_right (by simp; omega), List.length_map, hs, zerosOf_get hs h1 n (j - sz) (by rw [Nat.add_mul] at h; omega)]
      rw [show j % sz = (j - sz) % sz from Nat.mod_eq_sub_mod hj]
theorem zerosOf_len {ez : List D} (n : Nat) : (zerosOf ez n).length = n * ez.length := by
  induction n with
  | zero => simp [zerosOf]
  | succ n ih => rw [zerosOf, List.length_append, ih, List.length_map, Nat.add_mul, Nat.one_mul, Nat.add_comm]
theorem zeroCells_rel {z : Value} {ez : List D} {sz : Nat} (hz : z.cells.size = sz) (h1 : 1 ≤ sz) (he : All2 (fun v x => ∀ A w, Rd A w v x) z.cells.toList ez) {A : Nat → Prop} {w : World} (n : Nat) :
    ∀ (j : Nat), j < n * sz → ∃ x, ez[j % sz]? = some x ∧ ∃ u, ((Array.range (n * sz)).map (z.cells[· % z.cells.size]!))[j]? = some u ∧ Rd A w u x := by
  intro j hj
  have hm : j % sz < sz := Nat.mod_lt _ h1
  have hel := he.length
  have hm1 : j % sz < ez.length := by rw [← hel]; simpa [hz] using hm
  refine ⟨ez[j % sz], List.getElem?_eq_getElem hm1, z.cells[j % sz]'(by omega), ?_, ?_⟩
  · rw [Array.getElem?_map, Array.getElem?_range, if_pos hj]
    simp only [Option.map_some, hz]
    rw [getElem!_pos z.cells (j % sz) (by omega)]
  · exact he.get (i := j % sz) (by simp [hz, hm]) (List.getElem?_eq_getElem hm1) A w
/-- what became of a row's old place: it is there still, or it was left behind -/
def Stay (X : Nat → Prop) (ρ ρ' : Hs) (hp' : List Reg) (w' : World) (h sz : Nat) (L : List (List D)) : Prop :=
  (∃ a l l' c, ρ[h]? = some (.slice a l c) ∧ ρ'[h]? = some (.slice a l' c) ∧ l ≤ l' ∧ l' ≤ c) ∨
  ∃ a l c, ρ[h]? = some (.slice a l c) ∧ Rd (Av X ρ' hp') w' (.slice a l c) (.sl sz L)
/-- a row that is longer now, or that was made -/
theorem append_wp2 (I : Inv X w0 B0 σ a w ρ) {T T2 ty e e2 : TypeId} {i : TypeInfo} {z : Value} (hd : P.underlying T = some (.slice e)) (hd2 : P.underlying T2 = some (.slice e2)) (hi : P.info? e = some i) (hz : i.zero = some z) (hzs : z.cells.size = i.size) (hb1 : 1 ≤ i.bytes) (hs1 : 1 ≤ i.size)
    {va vb : Value} {h? : Option Nat} {L M : List (List D)} {a0 : Option Addr} {cap : Nat} (hva : va = .slice a0 L.length cap) (hLc : L.length ≤ cap)
    (hbase : (h? = none ∧ cap = 0 ∧ L = []) ∨ ∃ hd L0 v0, h? = some hd ∧ σ.hp[hd]? = some (.row i.size L0) ∧ ρ[hd]? = some v0 ∧ (∃ a l c, v0 = .slice a l c) ∧
      (cap = 0 ∨ ∃ b off T cur, a0 = some ⟨b, off, none⟩ ∧ Bk v0 b ∧ w.heap[b]? = some (.cells cur T (0, 0)) ∧ off + cap * i.size ≤ cur.size ∧ RdL (Av X ρ σ.hp) w b off i.size L))
    {a1 : Option Addr} {cap1 : Nat} (hvb : vb = .slice a1 M.length cap1) (hM : M = [] ∨ ∃ b off, a1 = some ⟨b, off, none⟩ ∧ b < w.heap.size ∧ RdL (Av X ρ σ.hp) w b off i.size M)
    (hbig : (L.length + M.length) * i.bytes ≤ 140737488355328) {dst : Option Tmp} :
    ∃ v' w' ρ', (Builtin.append_ #[T, T2] ty #[va, vb]).run P w = .ok v' w' ∧ Inv X w0 B0 (match h? with
        | none => σ.after dst (.one (.own σ.hp.length)) [] [.row i.size (L ++ M)] none
        | some h => σ.after dst (.one (.own h)) [(h, .row i.size (L ++ M))] [] (some h)) (a.put dst v') w' ρ' ∧ ∀ h, h? = some h → ρ[h]? = some va → Stay X ρ ρ' ((σ.hp.map (Reg.loseO (some h))).set h (.row i.size (L ++ M))) w' h i.size L := by
  subst hva; subst hvb
  have hL : L = [] ∨ ∃ b off, a0 = some ⟨b, off, none⟩ ∧ b < w.heap.size ∧ RdL (Av X ρ σ.hp) w b off i.size L := by
    rcases hbase with ⟨_, _, h⟩ | ⟨hd, L0, v0, _, _, _, _, h | ⟨b, off, T, cur, h1, _, h2, _, h3⟩⟩
    · exact .inl h
    · subst h; exact .inl (List.length_eq_zero_iff.1 (by omega))
    · exact .inr ⟨b, off, h1, (Array.getElem?_eq_some_iff.1 h2).1, h3⟩
  obtain ⟨us, hus, husl, hLe, hLc'⟩ := row_vals hL
  obtain ⟨vs, hvs, hvsl, hMe, hMc⟩ := row_vals hM
  have hHu : Heads w a0 us := hLc'.imp (·.2) id
  have hHv : Heads w a1 vs := hMc.imp (·.2) id
  have hLMe : ∀ e ∈ L ++ M, e.length = i.size := fun e he => (List.mem_append.1 he).elim (hLe e) (hMe e)
  have hvf : ∀ v ∈ vs, Flat v := by
    intro v hv
    obtain ⟨j, hj⟩ := List.getElem?_of_mem hv
    obtain ⟨x, hx⟩ : ∃ x, M.flatten[j]? = some x := by
      have : j < M.flatten.length := by rw [← hvs.length]; exact (List.getElem?_eq_some_iff.1 hj).1
      exact ⟨_, List.getElem?_eq_getElem this⟩
    exact (hvs.get hj hx).flat
  -- what is left to show, once the run is known
  have fin : ∀ (v' : Value) (w' : World) (c' : Nat) (a' : Option Addr), v' = .slice a' (L ++ M).length c' → (L ++ M).length ≤ c' → w.heap.size ≤ w'.heap.size → Str w w' →
      (∀ b, b < w.heap.size → w'.heap[b]? = w.heap[b]? ∨ ∃ hd v0, h? = some hd ∧ ρ[hd]? = some v0 ∧ Bk v0 b) →
      (∀ b, Bk v' b → w.heap.size ≤ b ∨ ∃ hd v0, h? = some hd ∧ ρ[hd]? = some v0 ∧ Bk v0 b) →
      (∀ A', Lasts (Av X ρ σ.hp) A' w w' → c' = 0 ∨ ∃ b off T vs, a' = some ⟨b, off, none⟩ ∧ w'.heap[b]? = some (.cells vs T (0, 0)) ∧ off + c' * i.size ≤ vs.size ∧ RdL A' w' b off i.size (L ++ M)) →
      ∃ ρ', Inv X w0 B0 (match h? with
        | none => σ.after dst (.one (.own σ.hp.length)) [] [.row i.size (L ++ M)] none
        | some h => σ.after dst (.one (.own h)) [(h, .row i.size (L ++ M))] [] (some h)) (a.put dst v') w' ρ' ∧ ∀ h, h? = some h → ρ' = ρ.set h v' ∧ Lasts (Av X ρ σ.hp) (Av X ρ' ((σ.hp.map (Reg.loseO (some h))).set h (.row i.size (L ++ M)))) w w' := by
    intro v' w' c' a' hv' hc' hgrow hst hsame hblk hreg
    have hflat : Flat v' := by subst hv'; exact ⟨by simp, by simp⟩
    rcases hbase with ⟨rfl, _, _⟩ | ⟨hd, L0, v0, rfl, hr, hv0, hsl, _⟩
    · have T' := touchAdd I (w' := w') (r := .row i.size (L ++ M)) (v := v') hgrow (fun b hb => (hsame b hb).resolve_right (by rintro ⟨_, _, h, _⟩; cases h)) hst (fun _ b hb => (hblk b hb).resolve_right (by rintro ⟨_, _, h, _⟩; cases h))
      have hl := T'.ρt
      refine ⟨ρ ++ [v'], ?_, fun h hh => by cases hh⟩
      have := I.touchPut T' (dst := dst) (v := v') (s := .one (.own σ.hp.length)) ⟨a', c', hv', hc', by omega, hreg _ T'.lasts⟩ (sown hl hflat)
      rw [map_sloseO_none] at this
      show Inv X w0 B0 (σ.after dst _ [] [_] none) _ _ _
      rw [after_new]; exact this
    · have T' := touchMove I (w' := w') (r' := .row i.size (L ++ M)) (v' := v') hr rfl hv0 hgrow hst (fun b hb => (hsame b hb).imp id (by rintro ⟨h1, v1, h, h2, h3⟩; cases h; rw [hv0] at h2; cases h2; exact h3)) (by obtain ⟨_, _, _, rfl⟩ := hsl; exact Mov.slice)
        (fun b hb => (hblk b hb).imp id (by rintro ⟨h1, v1, h, h2, h3⟩; cases h; rw [hv0] at h2; cases h2; exact h3))
      have hl := T'.ρt
      refine ⟨ρ.set hd v', ?_, fun h hh => by cases hh; exact ⟨rfl, T'.lasts⟩⟩
      have := I.touchPut T' (dst := dst) (v := v') (s := .one (.own hd)) ⟨a', c', hv', hc', by omega, hreg _ T'.lasts⟩ (sown hl hflat)
      show Inv X w0 B0 (σ.after dst _ [_] [] (some hd)) _ _ _
      rw [after_move]; exact this
  have hlen : (L ++ M).length = L.length + M.length := List.length_append
  have hfl : (L ++ M).flatten = L.flatten ++ M.flatten := List.flatten_append
  have hLf := flatten_length hLe
  by_cases hroom : L.length + M.length ≤ cap
  · have stay1 : ∀ {ρ' : Hs} {w' : World}, (∀ h, h? = some h → ρ' = ρ.set h (.slice a0 (L.length + M.length) cap) ∧ Lasts (Av X ρ σ.hp) (Av X ρ' ((σ.hp.map (Reg.loseO (some h))).set h (.row i.size (L ++ M)))) w w') → ∀ h, h? = some h → ρ[h]? = some (.slice a0 L.length cap) → Stay X ρ ρ' ((σ.hp.map (Reg.loseO (some h))).set h (.row i.size (L ++ M))) w' h i.size L := by
      intro ρ' w' hs h hh hva
      obtain ⟨e, _⟩ := hs h hh
      subst e
      exact .inl ⟨a0, L.length, L.length + M.length, cap, hva, by rw [List.getElem?_set_self (List.getElem?_eq_some_iff.1 hva).1], by omega, hroom⟩
    have none_case : cap = 0 → ∃ v' w' ρ', (Builtin.append_ #[T, T2] ty #[.slice a0 L.length cap, .slice a1 M.length cap1]).run P w = .ok v' w' ∧ Inv X w0 B0 (match h? with
        | none => σ.after dst (.one (.own σ.hp.length)) [] [.row i.size (L ++ M)] none
        | some h => σ.after dst (.one (.own h)) [(h, .row i.size (L ++ M))] [] (some h)) (a.put dst v') w' ρ' ∧ ∀ h, h? = some h → ρ[h]? = some (.slice a0 L.length cap) → Stay X ρ ρ' ((σ.hp.map (Reg.loseO (some h))).set h (.row i.size (L ++ M))) w' h i.size L := by
      intro hcap
      have hM0 : M = [] := List.length_eq_zero_iff.1 (by omega)
      have hL0 : L = [] := List.length_eq_zero_iff.1 (by omega)
      have hvs0 : vs = [] := List.length_eq_zero_iff.1 (by rw [hvsl, hM0]; simp)
      obtain ⟨w', hrun, hw'⟩ := run_append_fit (ty := ty) hd hd2 hi hHv hvsl hvf (a0 := a0) (c1 := cap1) hroom (.inl hvs0)
      rcases hw' with ⟨_, rfl⟩ | ⟨b, off, Tb, cur, rfl, hcur, hsz, rfl⟩
      · obtain ⟨ρ', h, hs⟩ := fin (.slice a0 (L.length + M.length) cap) w' cap a0 (by rw [hlen]) (by omega) (Nat.le_refl _) (Str.refl _) (fun b hb => .inl rfl) (fun b hb => by subst hcap; cases a0 <;> simp [Bk, blk] at hb) (fun _ _ => .inl hcap)
        exact ⟨_, w', ρ', hrun, h, stay1 hs⟩
      · subst hvs0
        have hself : w.setRow b (cur.toList.take (off + L.length * i.size) ++ [] ++ cur.toList.drop (off + L.length * i.size + ([] : List Value).length)).toArray = w := by
          simp only [List.append_nil, List.length_nil, Nat.add_zero, List.take_append_drop, Array.toArray_toList]
          exact setRow_self w b cur Tb (0, 0) hcur
        rw [hself] at hrun
        obtain ⟨ρ', h, hs⟩ := fin (.slice (some ⟨b, off, none⟩) (L.length + M.length) cap) w cap (some ⟨b, off, none⟩) (by rw [hlen]) (by omega) (Nat.le_refl _) (Str.refl _) (fun b hb => .inl rfl) (fun b hb => by subst hcap; simp [Bk, blk] at hb) (fun _ _ => .inl hcap)
        exact ⟨_, w, ρ', hrun, h, stay1 hs⟩
    rcases hbase with ⟨_, h, _⟩ | ⟨hd', L0, v0, rfl, hr, hv0, hsl, h | ⟨b, off, Tb, cur, rfl, hb, hcur, hsz, hLr⟩⟩
    · exact none_case h
    · exact none_case h
    · by_cases hcap : cap = 0
      · exact none_case hcap
      · have hmul : (L.length + M.length) * i.size ≤ cap * i.size := Nat.mul_le_mul_right _ hroom
        rw [Nat.add_mul] at hmul
        obtain ⟨c0, rfl⟩ : ∃ c0, cap = c0 + 1 := ⟨cap - 1, by omega⟩
        obtain ⟨w', hrun, hw'⟩ := run_append_fit (ty := ty) hd hd2 hi hHv hvsl hvf (a0 := some ⟨b, off, none⟩) (c1 := cap1) hroom (.inr ⟨b, off, Tb, cur, rfl, hcur, by omega⟩)
        have hblk : ∀ b', Bk (Value.slice (some ⟨b, off, none⟩) (L.length + M.length) (c0 + 1)) b' → w.heap.size ≤ b' ∨ ∃ hd v0, some hd' = some hd ∧ ρ[hd]? = some v0 ∧ Bk v0 b' := by
          intro b' hb'
          simp only [Bk, blk, Option.some.injEq] at hb'
          subst hb'
          exact .inr ⟨hd', v0, rfl, hv0, hb⟩
        have hall : All2 (Rd (Av X ρ σ.hp) w) (us ++ vs) (L ++ M).flatten := by rw [hfl]; exact hus.append hvs
        rcases hw' with ⟨hvs0, rfl⟩ | ⟨b', off', Tb', cur', he, hcur', hsz', rfl⟩
        · have hM0 : M = [] := by
            cases M with
            | nil => rfl
            | cons x M => rw [hvs0] at hvsl; simp [Nat.add_mul] at hvsl; omega
          obtain ⟨ρ', h, hs⟩ := fin _ w' (c0 + 1) (some ⟨b, off, none⟩) (by rw [hlen]) (by omega) (Nat.le_refl _) (Str.refl _) (fun b hb => .inl rfl) hblk
            (fun A' hl => .inr ⟨b, off, Tb, cur, rfl, hcur, hsz, by rw [hM0, List.append_nil]; exact RdL.rows hl rfl hLr⟩)
          exact ⟨_, w', ρ', hrun, h, stay1 hs⟩
        · cases he
          rw [hcur] at hcur'; cases hcur'
          have hnew := setRow_heap w b cur (cur.toList.take (off + L.length * i.size) ++ vs ++ cur.toList.drop (off + L.length * i.size + vs.length)).toArray Tb (0, 0) hcur
          obtain ⟨ρ', h, hs⟩ := fin _ (w.setRow b (cur.toList.take (off + L.length * i.size) ++ vs ++ cur.toList.drop (off + L.length * i.size + vs.length)).toArray) (c0 + 1) (some ⟨b, off, none⟩) (by rw [hlen]) (by omega) (by simp) ⟨rfl, rfl, rfl, Nat.le_refl _⟩ (fun b' hb' => by
              by_cases e : b' = b
              · subst e; exact .inr ⟨hd', v0, rfl, hv0, hb⟩
              · exact .inl (setRow_other w b b' _ e)) hblk
            (fun A' hl => .inr ⟨b, off, Tb, _, rfl, hnew, by simp; omega, RdL_cells hnew hLMe fun j x hj => by
              obtain ⟨u, hu, hx⟩ := hall.get' hj
              refine ⟨u, ?_, hx.lasts hl⟩
              rw [List.getElem?_toArray, List.append_assoc]
              by_cases hj' : j < L.length * i.size
              · rw [List.getElem?_append_left (by simp; omega), List.getElem?_take, if_pos (by omega)]
                rw [List.getElem?_append_left (by omega)] at hu
                rcases hHu with rfl | ⟨b2, off2, he2, _, hc2⟩
                · simp at hu
                · cases he2
                  have := hc2 j u hu
                  rw [cell_of_row w b _ cur Tb (0, 0) hcur] at this
                  simpa using this
              · rw [List.getElem?_append_right (by omega)] at hu
                rw [List.getElem?_append_right (by simp; omega), List.getElem?_append_left (by have := (List.getElem?_eq_some_iff.1 hu).1; simp; omega)]
                rw [← hu]; congr 1; simp; omega⟩)
          exact ⟨_, _, ρ', hrun, h, stay1 hs⟩
  · obtain ⟨w', zs, c', hrun, hc', hstr, hheap, hzl⟩ := run_append_more (ty := ty) hd hd2 hi hz hb1 hHu husl hHv hvsl (c1 := cap1) (by omega : cap < L.length + M.length) hbig
    have hpush := push_same hheap
    have hnew : w'.heap[w.heap.size]? = some (.cells (us ++ vs ++ zs).toArray e (0, 0)) := by rw [hheap]; simp
    obtain ⟨ρ', h, hs⟩ := fin _ w' c' (some ⟨w.heap.size, 0, none⟩) (by rw [hlen]) (by omega) hpush.1 hstr (fun b hb => .inl (hpush.2 b hb)) (fun b hb => .inl (by
        cases c' with
        | zero => simp [Bk, blk] at hb
        | succ c' => simp [Bk, blk] at hb; omega)) (fun A' hl => .inr ⟨w.heap.size, 0, e, _, rfl, hnew, by
          have : (c' - (L.length + M.length)) * i.size + (L.length + M.length) * i.size = c' * i.size := by rw [← Nat.add_mul]; congr 1; omega
          rw [Nat.add_mul] at this
          rw [hzs] at hzl
          simp only [List.size_toArray]; omega, RdL_cells hnew hLMe fun j x hj => by
            have hall : All2 (Rd (Av X ρ σ.hp) w) (us ++ vs) (L ++ M).flatten := by rw [hfl]; exact hus.append hvs
            obtain ⟨u, hu, hx⟩ := hall.get' hj
            refine ⟨u, ?_, hx.lasts hl⟩
            rw [Nat.zero_add, List.getElem?_toArray, List.getElem?_append_left (List.getElem?_eq_some_iff.1 hu).1]; exact hu⟩)
    refine ⟨_, w', ρ', hrun, h, fun hd hh hva => .inr ⟨a0, L.length, cap, hva, ?_⟩⟩
    obtain ⟨e, hl⟩ := hs hd hh
    subst e
    have hlt : hd < ρ.length := (List.getElem?_eq_some_iff.1 hva).1
    rcases hbase with ⟨h0, _⟩ | ⟨hd', L0, v0, rfl, hr, hv0, hsl, hb⟩
    · rw [h0] at hh; cases hh
    cases hh
    rw [hva] at hv0; cases hv0
    simp only [Rd]
    refine ⟨a0, cap, rfl, hLc, ?_⟩
    rcases hb with h0 | ⟨b, off, Tb, cur, rfl, hb, hcur, hsz, hLr⟩
    · exact .inl (List.length_eq_zero_iff.1 (by omega))
    refine .inr ⟨b, off, rfl, ⟨Nat.lt_of_lt_of_le (Array.getElem?_eq_some_iff.1 hcur).1 hl.grow, ?_⟩, RdL.rows hl (hpush.2 b (Array.getElem?_eq_some_iff.1 hcur).1) hLr⟩
    have hlive : Live ρ σ.hp b := ⟨hd, _, _, hr, rfl, hva, hb⟩
    rintro (hx | ⟨h2, r2, v2, g1, g2, g3, g4⟩)
    · exact I.hp.fre b hlive hx
    · by_cases e : h2 = hd
      · subst e
        rw [List.getElem?_set_self hlt] at g3
        cases g3
        cases c' with
        | zero => simp [Bk, blk] at g4
        | succ c' => simp [Bk, blk] at g4; have := (Array.getElem?_eq_some_iff.1 hcur).1; omega
      · rw [List.getElem?_set_ne (Ne.symm e)] at g1 g3
        rw [List.getElem?_map] at g1
        obtain ⟨r3, g5, g6⟩ := Option.map_eq_some_iff.1 g1
        have g7 : r3.live = true := by rw [← g6] at g2; cases r3 <;> first | rfl | exact g2
        exact e (I.hp.dis h2 hd r3 _ v2 _ b g5 hr g7 rfl g3 hva g4 hb)
theorem append_wp (I : Inv X w0 B0 σ a w ρ) {T T2 ty e e2 : TypeId} {i : TypeInfo} {z : Value} (hd : P.underlying T = some (.slice e)) (hd2 : P.underlying T2 = some (.slice e2)) (hi : P.info? e = some i) (hz : i.zero = some z) (hzs : z.cells.size = i.size) (hb1 : 1 ≤ i.bytes) (hs1 : 1 ≤ i.size)
    {va vb : Value} {h? : Option Nat} {L M : List (List D)} {a0 : Option Addr} {cap : Nat} (hva : va = .slice a0 L.length cap) (hLc : L.length ≤ cap)
    (hbase : (h? = none ∧ cap = 0 ∧ L = []) ∨ ∃ hd L0 v0, h? = some hd ∧ σ.hp[hd]? = some (.row i.size L0) ∧ ρ[hd]? = some v0 ∧ (∃ a l c, v0 = .slice a l c) ∧
      (cap = 0 ∨ ∃ b off T cur, a0 = some ⟨b, off, none⟩ ∧ Bk v0 b ∧ w.heap[b]? = some (.cells cur T (0, 0)) ∧ off + cap * i.size ≤ cur.size ∧ RdL (Av X ρ σ.hp) w b off i.size L))
    {a1 : Option Addr} {cap1 : Nat} (hvb : vb = .slice a1 M.length cap1) (hM : M = [] ∨ ∃ b off, a1 = some ⟨b, off, none⟩ ∧ b < w.heap.size ∧ RdL (Av X ρ σ.hp) w b off i.size M)
    (hbig : (L.length + M.length) * i.bytes ≤ 140737488355328) {dst : Option Tmp} :
    ∃ v' w' ρ', (Builtin.append_ #[T, T2] ty #[va, vb]).run P w = .ok v' w' ∧ Inv X w0 B0 (match h? with
        | none => σ.after dst (.one (.own σ.hp.length)) [] [.row i.size (L ++ M)] none
        | some h => σ.after dst (.one (.own h)) [(h, .row i.size (L ++ M))] [] (some h)) (a.put dst v') w' ρ' := by
  obtain ⟨v', w', ρ', h1, h2, _⟩ := append_wp2 I (ty := ty) hd hd2 hi hz hzs hb1 hs1 hva hLc hbase hvb hM hbig (dst := dst)
  exact ⟨v', w', ρ', h1, h2⟩
theorem allC_iff {h : Nat} {l : List C} : allC h l = true ↔ ∀ c ∈ l, c.steady h = true := by
  induction l with
  | nil => simp [allC]
  | cons c l ih =>
    unfold allC
    split
    · rename_i e; rw [ih]; simp [e]
    · rename_i e; simp [e]
theorem C.steady_ok {h : Nat} {c : C} (hs : c.steady h = true) : c.lose h = c := by
  have key : ∀ {x : Nat}, (match Nat.beq h x with | true => false | false => true) = true → (h == x) = false := by
    intro x hx
    split at hx
    · cases hx
    · rename_i e
      have : h ≠ x := fun h' => by subst h'; simp at e
      simpa using this
  cases c <;> simp only [C.steady] at hs <;> simp only [C.lose]
  case fn f cs =>
    have : cs.map (Cap.lose h) = cs := by
      rw [List.all_eq_true] at hs
      induction cs with
      | nil => rfl
      | cons c cs ih =>
        rw [List.map_cons, ih fun x hx => hs x (List.mem_cons_of_mem _ hx)]
        have h1 := hs c (List.mem_cons_self ..)
        cases c <;> simp only [Cap.steady] at h1 <;> simp only [Cap.lose]
        rw [key h1]; rfl
    rw [this]
  all_goals (rw [key hs]; rfl)
theorem map_steady {h : Nat} {l : List C} (hs : allC h l = true) : l.map (C.lose h) = l := by
  have := allC_iff.1 hs
  induction l with
  | nil => rfl
  | cons c l ih =>
    have h1 := this c (List.mem_cons_self ..)
    have h2 : ∀ c ∈ l, c.steady h = true := fun c hc => this c (List.mem_cons_of_mem _ hc)
    rw [List.map_cons, C.steady_ok h1, ih (allC_iff.2 h2) h2]
theorem TailAt.vals {A : Nat → Prop} {b off : Nat} {cs : List C} (h : TailAt ρ A w b off cs) : ∃ vs : List Value, All2 (fun u c => Flat u ∧ CRel ρ A w u c) vs cs ∧ ∀ (j : Nat) (u : Value), vs[j]? = some u → w.cell? ⟨b, off + j, none⟩ = some u := by
  induction cs generalizing off with
  | nil => exact ⟨[], .nil, by simp⟩
  | cons c cs ih =>
    obtain ⟨⟨u, hu, hf, hr⟩, h⟩ := h
    obtain ⟨vs, h1, h2⟩ := ih h
    refine ⟨u :: vs, .cons ⟨hf, hr⟩ h1, fun j x hx => ?_⟩
    cases j with
    | zero => simp at hx; subst hx; exact hu
    | succ j => have := h2 j x (by simpa using hx); rwa [Nat.add_assoc, Nat.add_comm 1 j] at this
/-- a row of one element is made -/
theorem newTail (I : Inv X w0 B0 σ a w ρ) {T : TypeId} {vs : Array Value} {sz : Nat} {cs : List C} (hsz : 0 < sz) (hcl : cs.length = sz) (hcs : sz ≤ vs.size)
    (hv : ∀ (j : Nat) (x : C), cs[j]? = some x → ∃ u, vs[j]? = some u ∧ Flat u ∧ CRel ρ (Av X ρ σ.hp) w u x) {dst : Option Tmp} :
    Inv X w0 B0 (σ.after dst (.one (.own σ.hp.length)) [] [.rowt sz [] cs] none) (a.put dst (.slice (some ⟨w.heap.size, 0, none⟩) 1 1)) { w with heap := w.heap.push (.cells vs T (0, 0)) } (ρ ++ [.slice (some ⟨w.heap.size, 0, none⟩) 1 1]) := by
  have T' := touchNew I (w' := { w with heap := w.heap.push (.cells vs T (0, 0)) }) (r := .rowt sz [] cs) (v := .slice (some ⟨w.heap.size, 0, none⟩) 1 1) rfl ⟨rfl, rfl, rfl, Nat.le_refl _⟩ (fun b hb => by simp [Bk, blk] at hb; omega)
  have hl := T'.ρt
  have hb : ({ w with heap := w.heap.push (.cells vs T (0, 0)) } : World).heap[w.heap.size]? = some (.cells vs T (0, 0)) := by simp
  rw [after_new]
  have := I.touchPut T' (dst := dst) (v := .slice (some ⟨w.heap.size, 0, none⟩) 1 1) (s := .one (.own σ.hp.length))
    ⟨some ⟨w.heap.size, 0, none⟩, 1, rfl, Nat.le_refl _, hsz, hcl, w.heap.size, 0, T, vs, rfl, hb, by omega, by simp only [RdL], by
      rw [List.length_nil, Nat.zero_mul]
      refine TailAt_iff.2 fun j x hx => ?_
      obtain ⟨u, hu, hf, hr⟩ := hv j x hx
      refine ⟨u, ?_, hf, CRel.lasts' T'.lasts (T'.keeps I.hp.len) rfl hr⟩
      rw [cell_of_row _ _ _ vs T (0, 0) hb, Nat.zero_add]; exact hu⟩
    (sown hl ⟨by simp, by simp⟩)
  rwa [map_sloseO_none] at this
/-- a last element is appended -/
theorem append_one (I : Inv X w0 B0 σ a w ρ) {T T2 ty e e2 : TypeId} {i : TypeInfo} {z : Value} (hd : P.underlying T = some (.slice e)) (hd2 : P.underlying T2 = some (.slice e2)) (hi : P.info? e = some i) (hz : i.zero = some z) (hzs : z.cells.size = i.size) (hb1 : 1 ≤ i.bytes) (hs1 : 1 ≤ i.size)
    {h : Nat} {L : List (List D)} {cs : List C} {va vb : Value} (hr : σ.hp[h]? = some (.row i.size L)) (hva : ρ[h]? = some va) {b1 off1 cap1 : Nat} (hvb : vb = .slice (some ⟨b1, off1, none⟩) 1 cap1) (hb1' : b1 < w.heap.size)
    (hcl : cs.length = i.size) (hC : TailAt ρ (Av X ρ σ.hp) w b1 off1 cs) (hst : allC h cs = true) (hbig : (L.length + 1) * i.bytes ≤ 140737488355328) {dst : Option Tmp} :
    ∃ v' w' ρ', (Builtin.append_ #[T, T2] ty #[va, vb]).run P w = .ok v' w' ∧ Inv X w0 B0 (σ.after dst (.one (.own h)) [(h, .rowt i.size L cs)] [] (some h)) (a.put dst v') w' ρ' := by
  obtain ⟨va', hva', hRow⟩ := I.hp.val hr
  rw [hva] at hva'; cases hva'
  obtain ⟨a0, cap, rfl, hLc, _, hR⟩ := hRow
  subst hvb
  obtain ⟨vs, hvs, hvc⟩ := hC.vals
  have hvl : vs.length = 1 * i.size := by rw [hvs.length, hcl, Nat.one_mul]
  have hHv : Heads w (some ⟨b1, off1, none⟩) vs := .inr ⟨b1, off1, rfl, hb1', hvc⟩
  have hvf : ∀ v ∈ vs, Flat v := by
    intro v hv
    obtain ⟨j, hj⟩ := List.getElem?_of_mem hv
    obtain ⟨x, hx⟩ : ∃ x, cs[j]? = some x := ⟨_, List.getElem?_eq_getElem (by rw [← hvs.length]; exact (List.getElem?_eq_some_iff.1 hj).1)⟩
    exact (hvs.get hj hx).1
  have hL : L = [] ∨ ∃ b off, a0 = some ⟨b, off, none⟩ ∧ b < w.heap.size ∧ RdL (Av X ρ σ.hp) w b off i.size L := by
    rcases hR with h0 | ⟨b, off, Tb, cur, h1, h2, _, h3⟩
    · exact .inl (List.length_eq_zero_iff.1 (by omega))
    · exact .inr ⟨b, off, h1, (Array.getElem?_eq_some_iff.1 h2).1, h3⟩
  obtain ⟨us, hus, husl, hLe, hLc'⟩ := row_vals hL
  have hHu : Heads w a0 us := hLc'.imp (·.2) id
  -- what is left to show, once the run is known
  have fin : ∀ (w' : World) (c' b off : Nat) (Tb : TypeId) (cur : Array Value), L.length + 1 ≤ c' → w.heap.size ≤ w'.heap.size → Str w w' →
      (∀ b', b' < w.heap.size → w'.heap[b']? = w.heap[b']? ∨ Bk (.slice a0 L.length cap) b') → (w.heap.size ≤ b ∨ Bk (.slice a0 L.length cap) b) →
      w'.heap[b]? = some (.cells cur Tb (0, 0)) → off + c' * i.size ≤ cur.size → (∀ j u, us[j]? = some u → cur[off + j]? = some u) → (∀ j u, vs[j]? = some u → cur[off + L.length * i.size + j]? = some u) →
      ∃ ρ', Inv X w0 B0 (σ.after dst (.one (.own h)) [(h, .rowt i.size L cs)] [] (some h)) (a.put dst (.slice (some ⟨b, off, none⟩) (L.length + 1) c')) w' ρ' := by
    intro w' c' b off Tb cur hc' hgrow hstr hsame hblk hcur hsz hcu hcv
    have T' := touchMove I (w' := w') (r' := .rowt i.size L cs) (v' := .slice (some ⟨b, off, none⟩) (L.length + 1) c') hr rfl hva hgrow hstr hsame Mov.slice
      (fun b' hb' => by
        cases c' with
        | zero => omega
        | succ c' => simp only [Bk, blk, Option.some.injEq] at hb'; subst hb'; exact hblk)
    refine ⟨ρ.set h (.slice (some ⟨b, off, none⟩) (L.length + 1) c'), ?_⟩
    have hl := T'.ρt
    have := I.touchPut T' (dst := dst) (v := .slice (some ⟨b, off, none⟩) (L.length + 1) c') (s := .one (.own h))
      ⟨_, c', rfl, hc', by omega, hcl, b, off, Tb, cur, rfl, hcur, hsz, RdL_cells hcur hLe (fun j x hx => by
        obtain ⟨u, hu, hr⟩ := hus.get' hx
        exact ⟨u, hcu j u hu, hr.lasts T'.lasts⟩), TailAt_iff.2 (fun j x hx => by
        obtain ⟨u, hu, hf, hr⟩ := hvs.get' hx
        refine ⟨u, ?_, hf, ?_⟩
        · rw [cell_of_row _ _ _ cur Tb (0, 0) hcur]; exact hcv j u hu
        · have h1 := CRel.lasts T'.lasts (T'.keeps I.hp.len) hr
          rw [show x.loseO (some h) = x from C.steady_ok (allC_iff.1 hst x (List.mem_of_getElem? hx))] at h1
          exact h1)⟩ (sown hl ⟨by simp, by simp⟩)
    rw [after_move]; exact this
  by_cases hroom : L.length + 1 ≤ cap
  · rcases hR with h0 | ⟨b, off, Tb, cur, rfl, hcur, hsz, _⟩
    · omega
    · obtain ⟨c0, rfl⟩ : ∃ c0, cap = c0 + 1 := ⟨cap - 1, by omega⟩
      have hmul : (L.length + 1) * i.size ≤ (c0 + 1) * i.size := Nat.mul_le_mul_right _ hroom
      rw [Nat.add_mul L.length] at hmul
      obtain ⟨w', hrun, hw'⟩ := run_append_fit (ty := ty) hd hd2 hi hHv hvl hvf (a0 := some ⟨b, off, none⟩) (c1 := cap1) hroom (.inr ⟨b, off, Tb, cur, rfl, hcur, by omega⟩)
      rcases hw' with ⟨hvs0, _⟩ | ⟨b', off', Tb', cur', he, hcur', hsz', rfl⟩
      · rw [hvs0] at hvl; simp at hvl; omega
      · cases he
        rw [hcur] at hcur'; cases hcur'
        have hnew := setRow_heap w b cur (cur.toList.take (off + L.length * i.size) ++ vs ++ cur.toList.drop (off + L.length * i.size + vs.length)).toArray Tb (0, 0) hcur
        have htl : (cur.toList.take (off + L.length * i.size)).length = off + L.length * i.size := by rw [List.length_take]; have := Array.length_toList (xs := cur); omega
        obtain ⟨ρ', hI⟩ := fin (w.setRow b (cur.toList.take (off + L.length * i.size) ++ vs ++ cur.toList.drop (off + L.length * i.size + vs.length)).toArray) (c0 + 1) b off Tb _ hroom (by simp) ⟨rfl, rfl, rfl, Nat.le_refl _⟩ (fun b' hb' => by
            by_cases e : b' = b
            · subst e; exact .inr rfl
            · exact .inl (setRow_other w b b' _ e)) (.inr rfl) hnew (by simp; omega)
          (fun j u hu => by
            have hju := (List.getElem?_eq_some_iff.1 hu).1
            rw [List.getElem?_toArray, List.append_assoc, List.getElem?_append_left (by omega), List.getElem?_take, if_pos (by omega)]
            rcases hHu with rfl | ⟨b2, off2, he2, _, hc2⟩
            · simp at hu
            · cases he2
              have := hc2 j u hu
              rw [cell_of_row w b _ cur Tb (0, 0) hcur] at this
              simpa using this)
          (fun j u hu => by
            have hju := (List.getElem?_eq_some_iff.1 hu).1
            rw [List.getElem?_toArray, List.append_assoc, List.getElem?_append_right (by omega), htl, Nat.add_sub_cancel_left, List.getElem?_append_left hju]; exact hu)
        exact ⟨_, _, ρ', hrun, hI⟩
  · obtain ⟨w', zs, c', hrun, hc', hstr, hheap, hzl⟩ := run_append_more (ty := ty) hd hd2 hi hz hb1 hHu husl hHv hvl (c1 := cap1) (by omega : cap < L.length + 1) hbig
    have hpush := push_same hheap
    have hnew : w'.heap[w.heap.size]? = some (.cells (us ++ vs ++ zs).toArray e (0, 0)) := by rw [hheap]; simp
    obtain ⟨ρ', hI⟩ := fin w' c' w.heap.size 0 e _ hc' hpush.1 hstr (fun b hb => .inl (hpush.2 b hb)) (.inl (Nat.le_refl _)) hnew (by
        have : (c' - (L.length + 1)) * i.size + (L.length + 1) * i.size = c' * i.size := by rw [← Nat.add_mul]; congr 1; omega
        rw [Nat.add_mul L.length] at this
        rw [hzs] at hzl
        simp only [List.size_toArray]; omega)
      (fun j u hu => by
        have hju := (List.getElem?_eq_some_iff.1 hu).1
        rw [Nat.zero_add, List.getElem?_toArray, List.append_assoc, List.getElem?_append_left hju]; exact hu)
      (fun j u hu => by
        have hju := (List.getElem?_eq_some_iff.1 hu).1
        rw [Nat.zero_add, List.getElem?_toArray, List.append_assoc, List.getElem?_append_right (by omega), show L.length * i.size + j - us.length = j by omega, List.getElem?_append_left hju]; exact hu)
    exact ⟨_, w', ρ', hrun, hI⟩
end
end Go.Proofs.YtphmcgmblkbijaaVY
