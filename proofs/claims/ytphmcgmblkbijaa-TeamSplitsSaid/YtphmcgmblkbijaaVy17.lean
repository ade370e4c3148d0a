/-
  VY: what is handed to a law, read as data. By the session's own hand.
-/
import Derived.Test.YtphmcgmblkbijaaVy16
import Derived.ChangeArms
import Derived.Carry
set_option linter.unusedSectionVars false
set_option linter.unusedVariables false
set_option linter.unusedSimpArgs false
set_option linter.all false
set_option linter.unnecessarySimpa false
set_option linter.deprecated false
namespace Go.Proofs.YtphmcgmblkbijaaVY

/-- A datum's shape, by its type. -/
def Sh (P : Program) : Nat → TypeId → List D → Prop
  | 0, _, _ => False
  | n + 1, t, l => match P.underlying t with
    | some .bool => ∃ b, l = [.bool b]
    | some (.int k) => ∃ m, l = [.int k m] ∧ (Lit.int k m).wf = true
    | some .string => ∃ s : ByteArray, l = [.str s] ∧ s.size ≤ maxLen
    | some (.slice e) => ∃ L, l = [.sl (P.cellsOf e) L] ∧ L.length * P.bytesOf e ≤ reachBytes ∧ ∀ x ∈ L, Sh P n e x
    | some (.struct fs) => ∃ parts : List (List D), l = parts.flatten ∧ All2 (fun f x => Sh P n f.type x) fs.toList parts
    | _ => False
mutual
/-- how many values and letters there are -/
def dB : D → Nat
  | .str s => s.size + 1
  | .sl _ L => dBL L + 1
  | _ => 1
def dBs : List D → Nat
  | [] => 0
  | x :: l => dB x + dBs l
def dBL : List (List D) → Nat
  | [] => 0
  | e :: L => dBs e + dBL L
end
theorem dBs_app : ∀ l m : List D, dBs (l ++ m) = dBs l + dBs m
  | [], m => by simp [dBs]
  | x :: l, m => by rw [List.cons_append, dBs, dBs, dBs_app l m, Nat.add_assoc]
/-- a size that tells at least as much -/
structure Meas {H : Type} (β : DataW H → Nat) : Prop where
  lit : ∀ x, 1 ≤ β (.lit x)
  str : ∀ b, b.length + 1 ≤ β (.lit (.string b))
  nil : 1 ≤ β .nil
  slice : ∀ es sp, (es.map β).sum + 1 ≤ β (.slice es sp)
  agg : ∀ ps, (ps.map β).sum ≤ β (.agg ps)
theorem dBL_le {H : Type} {f : DataW H × List MemPlace → Nat} : ∀ {L : List (List D)} {es : List (DataW H × List MemPlace)}, L.length = es.length → (∀ (i : Nat) x d, L[i]? = some x → es[i]? = some d → dBs x ≤ f d) → dBL L ≤ (es.map f).sum
  | [], [], _, _ => by simp [dBL]
  | x :: L, d :: es, hl, h => by
    have h0 := h 0 x d rfl rfl
    have := dBL_le (L := L) (es := es) (by simpa using hl) fun i y e h1 h2 => h (i + 1) y e (by simpa using h1) (by simpa using h2)
    rw [dBL, List.map_cons, List.sum_cons]; omega
  | [], _ :: _, hl, _ => by simp at hl
  | _ :: _, [], hl, _ => by simp at hl
def contig (P : Program) : List Field → Nat → Nat → Bool
  | [], o, n => Nat.beq o n
  | f :: fs, o, n => Nat.beq f.offset o && contig P fs (o + P.cellsOf f.type) n
def inT (S : List TypeId) (t : TypeId) : Bool := S.any fun x => Nat.beq x t
def okT (P : Program) (S : List TypeId) (t : TypeId) : Bool := match P.underlying t with
  | some .bool => true
  | some (.int _) => true
  | some .string => true
  | some (.slice e) => inT S e && Nat.blt 0 (P.cellsOf e)
  | some (.struct fs) => contig P fs.toList 0 (P.cellsOf t) && fs.toList.all fun f => inT S f.type
  | _ => false
theorem inT_ok {S : List TypeId} {t : TypeId} (h : inT S t = true) : t ∈ S := by
  obtain ⟨x, hx, e⟩ := List.any_eq_true.1 h
  rw [← Nat.eq_of_beq_eq_true e]; exact hx
section
variable {H : Type} {enc : TypeId × Value → H} {P : Program} {W : World} {sp : Nat → Bool} {held : Bool}
abbrev RdN (W : World) : Value → D → Prop := fun v x => Rd (fun _ => False) W v x
theorem RdC_mk {A : Nat → Prop} {b : Nat} : ∀ {l : List D} {off : Nat}, (∀ (j : Nat) (x : D), l[j]? = some x → ∃ v, W.cell? ⟨b, off + j, none⟩ = some v ∧ Rd A W v x) → RdC A W b off l
  | [], _, _ => by simp only [RdC]
  | x :: l, off, h => by
    simp only [RdC]
    refine ⟨by simpa using h 0 x rfl, RdC_mk fun j y hy => ?_⟩
    obtain ⟨v, h1, h2⟩ := h (j + 1) y (by simpa using hy)
    exact ⟨v, by rw [Nat.add_assoc, Nat.add_comm 1 j]; exact h1, h2⟩
theorem RdL_mk {A : Nat → Prop} {b sz : Nat} : ∀ {L : List (List D)} {off : Nat}, (∀ (i : Nat) (e : List D), L[i]? = some e → e.length = sz ∧ RdC A W b (off + i * sz) e) → RdL A W b off sz L
  | [], _, _ => by simp only [RdL]
  | e :: L, off, h => by
    simp only [RdL]
    have h0 := h 0 e rfl
    rw [Nat.zero_mul, Nat.add_zero] at h0
    refine ⟨h0.1, h0.2, RdL_mk fun i y hy => ?_⟩
    have := h (i + 1) y (by simpa using hy)
    rw [Nat.add_mul, Nat.one_mul, Nat.add_comm (i * sz), ← Nat.add_assoc] at this
    exact this
theorem weights_all {e : TypeId} : ∀ {ds : List (DataW H)} {d : DataW H}, d ∈ ds → ∀ x ∈ d.weights P e, x ∈ DataW.weightsAll P e ds
  | a :: ds, d, hd, x, hx => by
    rw [DataW.weightsAll, List.mem_append]
    rcases List.mem_cons.1 hd with rfl | hd
    · exact .inl hx
    · exact .inr (weights_all hd x hx)
def Good (enc : TypeId × Value → H) (P : Program) (W : World) (sp : Nat → Bool) (held : Bool) (m : Nat) (S : List TypeId) : Prop :=
  ∀ t cs d ps, t ∈ S → DataW.trod enc P W 0 sp held m t cs = some (d, ps) → (∀ x ∈ d.weights P t, x ≤ reachBytes) → ∃ l, All2 (RdN W) cs l ∧ Sh P m t l ∧ ∀ β : DataW H → Nat, Meas β → dBs l ≤ β d
theorem fields_sh {S : List TypeId} {m n : Nat} (ih : Good enc P W sp held m S) {cs : List Value} (hl : cs.length = n) : ∀ (fl : List Field) (o : Nat) (xl : List (DataW H × List MemPlace)), contig P fl o n = true → (∀ f ∈ fl, f.type ∈ S) → xl.length = fl.length →
    (∀ (i : Nat) (f : Field), fl[i]? = some f → DataW.trod enc P W 0 sp held m f.type ((cs.drop f.offset).take (P.cellsOf f.type)) = xl[i]?) →
    (∀ x ∈ DataW.weightsEach P (fl.map (·.type)) (xl.map (·.1)), x ≤ reachBytes) →
    ∃ parts : List (List D), All2 (RdN W) (cs.drop o) parts.flatten ∧ All2 (fun f x => Sh P m f.type x) fl parts ∧ ∀ β : DataW H → Nat, Meas β → dBs parts.flatten ≤ ((xl.map (·.1)).map β).sum
  | [], o, xl, hc, _, _, _, _ => by
    have : o = n := Nat.eq_of_beq_eq_true hc
    refine ⟨[], ?_, .nil, fun _ _ => by simp [dBs]⟩
    rw [List.drop_eq_nil_of_le (by omega)]
    exact .nil
  | f :: fl, o, xl, hc, hS, hx, ht, hw => by
    simp only [contig, Bool.and_eq_true, Nat.beq_eq] at hc
    obtain ⟨ho, hc⟩ := hc
    cases xl with
    | nil => simp at hx
    | cons y xl =>
    have h0 := ht 0 f rfl
    simp only [List.getElem?_cons_zero] at h0
    rw [List.map_cons, List.map_cons, DataW.weightsEach] at hw
    obtain ⟨l, h1, h2, hβ1⟩ := ih f.type _ y.1 y.2 (hS f (List.mem_cons_self ..)) h0 fun x hx => hw x (List.mem_append_left _ hx)
    obtain ⟨parts, h3, h4, hβ2⟩ := fields_sh ih hl fl (o + P.cellsOf f.type) xl hc (fun g hg => hS g (List.mem_cons_of_mem _ hg)) (by simpa using hx) (fun i g hg => by simpa using ht (i + 1) g (by simpa using hg)) fun x hx => hw x (List.mem_append_right _ hx)
    refine ⟨l :: parts, ?_, .cons h2 h4, fun β hβ => by rw [List.flatten_cons, dBs_app, List.map_cons, List.map_cons, List.sum_cons]; have := hβ1 β hβ; have := hβ2 β hβ; omega⟩
    rw [ho] at h1
    have e : cs.drop o = (cs.drop o).take (P.cellsOf f.type) ++ cs.drop (o + P.cellsOf f.type) := by rw [← List.drop_drop, List.take_append_drop]
    rw [e, List.flatten_cons]
    exact h1.append h3
theorem trod_sh {S : List TypeId} (hS : ∀ t ∈ S, okT P S t = true) : ∀ m, Good enc P W sp held m S
  | 0 => fun t cs d ps _ h => by simp [DataW.trod] at h
  | m + 1 => fun t cs d ps ht h hw => by
    have hok := hS t ht
    unfold okT at hok
    split at hok
    · rename_i hu
      obtain ⟨b, rfl, hd⟩ := DataW.trod_bool hu h
      refine ⟨[.bool b], .cons (by simp only [RdN, Rd]) .nil, ?_, fun β hβ => by cases hd; simpa [dBs, dB] using hβ.lit _⟩
      simp only [Sh, hu]; exact ⟨b, rfl⟩
    · rename_i k hu
      obtain ⟨n, rfl, h, hwf⟩ := DataW.trod_int hu h
      refine ⟨[.int k n], .cons (by simp only [RdN, Rd]) .nil, ?_, fun β hβ => by cases h; simpa [dBs, dB] using hβ.lit _⟩
      simp only [Sh, hu]; exact ⟨n, rfl, hwf⟩
    · rename_i hu
      obtain ⟨s, rfl, h, hs⟩ := DataW.trod_string hu h
      refine ⟨[.str s], .cons (by simp only [RdN, Rd]) .nil, ?_, fun β hβ => by cases h; have := hβ.str s.data.toList; simp only [dBs, dB, Nat.add_zero]; rw [Array.length_toList] at this; exact this⟩
      simp only [Sh, hu]; exact ⟨s, rfl, hs⟩
    · rename_i e hu
      simp only [Bool.and_eq_true, Nat.blt_eq] at hok
      obtain ⟨he, hpos⟩ := hok
      have he := inT_ok he
      rcases DataW.trod_slice hu h with ⟨rfl, hd⟩ | ⟨a, len, cap, elems, rest, n, hn, rfl, h, _, hlc, _, hel, hat, _⟩
      · refine ⟨[.sl (P.cellsOf e) []], .cons ?_ .nil, ?_, fun β hβ => by cases hd; simpa [dBs, dB, dBL] using hβ.nil⟩
        · simp only [RdN, Rd]; exact ⟨none, 0, rfl, Nat.le_refl _, .inl trivial⟩
        · simp only [Sh, hu]; exact ⟨[], rfl, by simp, by simp⟩
      · obtain rfl : m = n := by omega
        cases h
        rw [DataW.weights, hu] at hw
        have hb := hw _ (List.mem_cons_self ..)
        have each : ∀ i, i < len → ∃ l cs', W.cells? 0 (a.add (i * P.cellsOf e)) (P.cellsOf e) = some cs' ∧ All2 (RdN W) cs' l ∧ Sh P m e l ∧ ∀ d, elems[i]? = some d → ∀ β : DataW H → Nat, Meas β → dBs l ≤ β d.1 := by
          intro i hi
          have hi' : i < elems.length := by omega
          have := hat i hi
          rw [List.getElem?_eq_getElem hi'] at this
          obtain ⟨cs', h1, h2⟩ := Option.bind_eq_some_iff.1 this
          obtain ⟨l, h3, h4, h5⟩ := trod_sh hS m e cs' elems[i].1 elems[i].2 he h2 (fun x hx => hw x (List.mem_cons_of_mem _ (List.mem_append_left _ (weights_all (List.mem_map.2 ⟨elems[i], List.getElem_mem hi', rfl⟩) x hx))))
          exact ⟨l, cs', h1, h3, h4, fun d hd => by rw [List.getElem?_eq_getElem hi'] at hd; cases hd; exact h5⟩
        have hL : ∃ L : List (List D), L.length = len ∧ ∀ (i : Nat) (x : List D), L[i]? = some x → ∃ cs', W.cells? 0 (a.add (i * P.cellsOf e)) (P.cellsOf e) = some cs' ∧ All2 (RdN W) cs' x ∧ Sh P m e x ∧ ∀ d, elems[i]? = some d → ∀ β : DataW H → Nat, Meas β → dBs x ≤ β d.1 := by
          clear hat hel hw hb h
          refine ⟨(List.range len).map fun i => if hi : i < len then Classical.choose (each i hi) else [], by simp, fun i x hx => ?_⟩
          rw [List.getElem?_map] at hx
          obtain ⟨j, hj, hx⟩ := Option.map_eq_some_iff.1 hx
          obtain ⟨hj1, hj2⟩ := List.getElem?_eq_some_iff.1 hj
          have hjl : i < len := by simpa using hj1
          obtain rfl : i = j := by simpa using hj2
          rw [dif_pos hjl] at hx
          subst hx
          exact Classical.choose_spec (each i hjl)
        obtain ⟨L, hLl, hL⟩ := hL
        refine ⟨[.sl (P.cellsOf e) L], .cons ?_ .nil, ?_, fun β hβ => ?_⟩
        · simp only [RdN, Rd]
          refine ⟨some a, cap, by rw [hLl], by omega, ?_⟩
          by_cases h0 : L = []
          · exact .inl h0
          right
          have hcell : ∀ (i j : Nat) (x : List D), L[i]? = some x → j < P.cellsOf e → ∃ v y, W.cell? ((a.add (i * P.cellsOf e)).add j) = some v ∧ x[j]? = some y ∧ RdN W v y := by
            intro i j x hx hj
            obtain ⟨cs', h1, h2, _⟩ := hL i x hx
            obtain ⟨_, h3, h4⟩ := World.cells?_some h1
            have hj' : j < cs'.length := by omega
            have hj2 : j < x.length := by rw [← h2.length]; exact hj'
            exact ⟨cs'[j], x[j], by rw [h4 j hj, List.getElem?_eq_getElem hj'], List.getElem?_eq_getElem hj2, h2.get (List.getElem?_eq_getElem hj') (List.getElem?_eq_getElem hj2)⟩
          obtain ⟨b, off, spot⟩ := a
          have hsp : spot = none := by
            obtain ⟨x, hx⟩ : ∃ x, L[0]? = some x := by
              cases L with
              | nil => exact absurd rfl h0
              | cons x L => exact ⟨x, rfl⟩
            obtain ⟨v, y, h1, _⟩ := hcell 0 0 x hx hpos
            have := World.cell?_spot h1
            simpa [Addr.add] using this
          subst hsp
          have hblk : b < W.heap.size := by
            obtain ⟨x, hx⟩ : ∃ x, L[0]? = some x := by
              cases L with
              | nil => exact absurd rfl h0
              | cons x L => exact ⟨x, rfl⟩
            obtain ⟨v, y, h1, _⟩ := hcell 0 0 x hx hpos
            have h2 : W.cell? ⟨b, off + (0 * P.cellsOf e + 0), none⟩ = some v := by simpa [Addr.add] using h1
            exact cell_block h2
          refine ⟨b, off, rfl, ⟨hblk, fun h => h⟩, RdL_mk fun i x hx => ⟨?_, RdC_mk fun j y hy => ?_⟩⟩
          · obtain ⟨cs', h1, h2, _⟩ := hL i x hx
            rw [← h2.length]; exact (World.cells?_some h1).2.1
          · have hj : j < P.cellsOf e := by
              obtain ⟨cs', h1, h2, _⟩ := hL i x hx
              have h3 := (World.cells?_some h1).2.1
              have := (List.getElem?_eq_some_iff.1 hy).1
              rw [← h2.length] at this; omega
            obtain ⟨v, y', h1, h2, h3⟩ := hcell i j x hx hj
            rw [hy] at h2; cases h2
            refine ⟨v, ?_, h3⟩
            have e2 : ((⟨b, off, none⟩ : Addr).add (i * P.cellsOf e)).add j = ⟨b, off + i * P.cellsOf e + j, none⟩ := by
              simp only [Addr.add_lit]
            rw [e2] at h1; exact h1
        · simp only [Sh, hu]
          refine ⟨L, rfl, ?_, fun x hx => ?_⟩
          · refine Nat.le_trans (Nat.mul_le_mul_right _ ?_) hb
            simp; omega
          · obtain ⟨i, hi⟩ := List.mem_iff_getElem?.1 hx
            obtain ⟨_, _, _, h, _⟩ := hL i x hi
            exact h
        · have h1 := hβ.slice (elems.map (·.1)) (rest.map (·.1))
          have h2 := dBL_le (f := fun d => β d.1) (L := L) (es := elems) (by omega) fun i x d hx hd => by
            obtain ⟨_, _, _, _, h⟩ := hL i x hx
            exact h d hd β hβ
          rw [List.map_map] at h1
          have e1 : (elems.map fun d => β d.1) = elems.map (β ∘ fun x => x.1) := rfl
          rw [e1] at h2
          simp only [dBs, dB, Nat.add_zero]
          omega
    · rename_i fs hu
      simp only [Bool.and_eq_true] at hok
      obtain ⟨xs, n, hn, h, hcl, hxl, hf⟩ := DataW.trod_struct hu h
      obtain rfl : m = n := by omega
      cases h
      rw [DataW.weights, hu] at hw
      obtain ⟨parts, h1, h2, h3⟩ := fields_sh (trod_sh hS m) hcl fs.toList 0 xs hok.1 (fun f hf => inT_ok (List.all_eq_true.1 hok.2 f hf)) (by simpa using hxl) (fun i f h => hf i f (by simpa using h)) hw
      refine ⟨parts.flatten, by simpa using h1, ?_, fun β hβ => Nat.le_trans (h3 β hβ) (hβ.agg _)⟩
      simp only [Sh, hu]
      exact ⟨parts, rfl, h2⟩
    · cases hok
/-- all arguments of a law -/
theorem trodAll_sh {S : List TypeId} (hS : (S.all fun t => okT P S t) = true) : ∀ {ts : List TypeId} {vs : List Value} {ds gs : List (DataW H)} {ps : List MemPlace}, DataW.TrodAll enc P W 0 sp held ts vs ds ps → (ts.all fun t => inT S t) = true →
    (DataW.weightsEach P ts ds).all (· ≤ reachBytes) = true → ∃ (m : List Nat) (ls : List (List D)), All2 (fun v l => All2 (RdN W) v.cells.toList l) vs ls ∧ All2 (fun (x : Nat × TypeId) l => Sh P x.1 x.2 l) (m.zip ts) ls ∧ m.length = ts.length ∧ ∀ β : DataW H → Nat, Meas β → dBL ls ≤ (ds.map β).sum
  | [], [], [], _, _, _, _, _ => ⟨[], [], .nil, .nil, rfl, fun _ _ => by simp [dBL]⟩
  | t :: ts, v :: vs, d :: ds, gs, ps, ⟨p, q, ⟨n, h1⟩, h2, _⟩, ht, hw => by
    simp only [List.all_cons, Bool.and_eq_true] at ht
    rw [DataW.weightsEach, List.all_append, Bool.and_eq_true] at hw
    obtain ⟨m, ls, h3, h4, h5, hb⟩ := trodAll_sh hS (gs := gs) h2 ht.2 hw.2
    obtain ⟨l, h6, h7, hb1⟩ := trod_sh (fun t ht => List.all_eq_true.1 hS t ht) n t _ d p (inT_ok ht.1) h1 (fun x hx => by simpa using List.all_eq_true.1 hw.1 x hx)
    exact ⟨n :: m, l :: ls, .cons h6 h3, .cons h7 h4, by simp [h5], fun β hβ => by rw [dBL, List.map_cons, List.sum_cons]; have := hb β hβ; have := hb1 β hβ; omega⟩
theorem trodAll_len {base : Nat} : ∀ {ts : List TypeId} {vs : List Value} {ds : List (DataW H)} {ps : List MemPlace}, DataW.TrodAll enc P W base sp held ts vs ds ps → ds.length = ts.length
  | [], [], [], _, _ => rfl
  | t :: ts, v :: vs, d :: ds, _, ⟨_, _, _, h, _⟩ => by simp [trodAll_len h]
/-- arguments read behind the call as before -/
theorem trodAll_later {W' : World} (hl : laidOutB P = true) : ∀ {ts : List TypeId} {vs : List Value} {ds : List (DataW H)} {ps : List MemPlace}, DataW.TrodAll enc P W 0 (fun _ => true) true ts vs ds ps → (ts.all fun t => P.readableRec t && Nat.blt t P.types.size) = true → RowKit.Below W.heap.size W W' → (∀ x ∈ ps, x.block < W.heap.size) →
    DataW.TrodAll enc P W' 0 (fun b => decide (b < W.heap.size)) true ts vs ds ps
  | [], [], [], _, h, _, _, _ => h
  | t :: ts, v :: vs, d :: ds, ps, ⟨p, q, h1, h2, hps⟩, ht, hb, hlt => by
    simp only [List.all_cons, Bool.and_eq_true, Nat.blt_eq] at ht
    subst hps
    exact ⟨p, q, RowKit.Below.trod hl ht.1.1 ht.1.2 h1 hb (fun x hx => hlt x (List.mem_append_left _ hx)), trodAll_later hl h2 ht.2 hb (fun x hx => hlt x (List.mem_append_right _ hx)), rfl⟩
/-- an argument, as it is known -/
def argS (P : Program) (t : TypeId) (l : List D) : S := match P.underlying t with
  | some (.struct _) => .v (.ag (l.map .d))
  | _ => match l with
    | [x] => .v (.c (.d x))
    | _ => .junk
theorem cells_rel {vs : List Value} {l : List D} (h : All2 (RdN W) vs l) : All2 (fun u c => Flat u ∧ CRel [] (fun _ => False) W u c) vs (l.map .d) := h.mapR fun _ _ h => ⟨h.flat, h⟩
theorem not_agg {t : TypeId} {v : Value} {base : Nat} (hval : Cell.okWide P W .any base t v) (hu : P.underlying t = some .bool ∨ (∃ k, P.underlying t = some (.int k)) ∨ P.underlying t = some .string ∨ ∃ e, P.underlying t = some (.slice e)) (cs : Array Value) : v ≠ .agg cs := by
  rintro rfl
  unfold Cell.okWide at hval
  rcases hu with hu | ⟨k, hu⟩ | hu | ⟨e, hu⟩ <;> (simp only [hu] at hval; unfold Cell.ok at hval; simp only [hu] at hval)
theorem arg_rel {t : TypeId} {m base : Nat} {v : Value} {l : List D} (hval : Value.okWide P W .any base t v) (h : All2 (RdN W) v.cells.toList l) (hsh : Sh P m t l) : SRel [] (fun _ => False) W v (argS P t l) := by
  cases m with
  | zero => exact hsh.elim
  | succ m =>
  unfold Sh at hsh
  unfold Value.okWide at hval
  unfold argS
  have one : ∀ x : D, (∀ cs, v ≠ .agg cs) → l = [x] → SRel [] (fun _ => False) W v (.v (.c (.d x))) := by
    intro x hn e
    subst e
    have hc : v.cells = #[v] := by cases v <;> first | rfl | exact absurd rfl (hn _)
    rw [hc] at h
    cases h with
    | cons h _ => exact h
  split at hsh
  · rename_i hu; rw [hu] at hval ⊢
    obtain ⟨b, rfl⟩ := hsh
    exact one _ (not_agg hval (.inl hu)) rfl
  · rename_i k hu; rw [hu] at hval ⊢
    obtain ⟨b, rfl, _⟩ := hsh
    exact one _ (not_agg hval (.inr (.inl ⟨_, hu⟩))) rfl
  · rename_i hu; rw [hu] at hval ⊢
    obtain ⟨b, rfl, _⟩ := hsh
    exact one _ (not_agg hval (.inr (.inr (.inl hu)))) rfl
  · rename_i e hu; rw [hu] at hval ⊢
    obtain ⟨b, rfl, _⟩ := hsh
    exact one _ (not_agg hval (.inr (.inr (.inr ⟨_, hu⟩)))) rfl
  · rename_i fs hu; rw [hu] at hval ⊢
    obtain ⟨cs, rfl, _⟩ := hval
    exact ⟨cs, rfl, cells_rel h⟩
  · exact hsh.elim
/-- all arguments -/
def argSs (P : Program) : List TypeId → List (List D) → List S
  | t :: ts, l :: ls => argS P t l :: argSs P ts ls
  | _, _ => []
theorem args_rel {base : Nat} : ∀ {ts : List TypeId} {vs : List Value} {ls : List (List D)} {m : List Nat}, (∀ (j : Nat) t v, ts[j]? = some t → vs[j]? = some v → Value.okWide P W .any base t v) → All2 (fun v l => All2 (RdN W) v.cells.toList l) vs ls → All2 (fun (x : Nat × TypeId) l => Sh P x.1 x.2 l) (m.zip ts) ls →
    m.length = ts.length → All2 (SRel [] (fun _ => False) W) vs (argSs P ts ls)
  | [], vs, ls, m, hv, h1, h2, h3 => by
    have : m.zip ([] : List TypeId) = [] := by simp
    rw [this] at h2
    cases h2; cases h1; exact .nil
  | t :: ts, vs, ls, [], hv, h1, h2, h3 => by simp at h3
  | t :: ts, vs, ls, n :: m, hv, h1, h2, h3 => by
    rw [List.zip_cons_cons] at h2
    cases h2 with
    | cons h2 h2' =>
    cases h1 with
    | cons h1 h1' =>
    exact .cons (arg_rel (hv 0 _ _ rfl rfl) h1 h2) (args_rel (fun j t v a b => hv (j + 1) t v (by simpa using a) (by simpa using b)) h1' h2' (by simpa using h3))
theorem sh_int {m : Nat} {t : TypeId} {l : List D} {k : IntKind} (hu : P.underlying t = some (.int k)) (h : Sh P m t l) : ∃ n, l = [.int k n] ∧ (Lit.int k n).wf = true := by
  cases m with
  | zero => exact h.elim
  | succ m => unfold Sh at h; rw [hu] at h; exact h
theorem sh_bool {m : Nat} {t : TypeId} {l : List D} (hu : P.underlying t = some .bool) (h : Sh P m t l) : ∃ b, l = [.bool b] := by
  cases m with
  | zero => exact h.elim
  | succ m => unfold Sh at h; rw [hu] at h; exact h
theorem sh_str {m : Nat} {t : TypeId} {l : List D} (hu : P.underlying t = some .string) (h : Sh P m t l) : ∃ s : ByteArray, l = [.str s] ∧ s.size ≤ maxLen := by
  cases m with
  | zero => exact h.elim
  | succ m => unfold Sh at h; rw [hu] at h; exact h
theorem sh_slice {m : Nat} {t e : TypeId} {l : List D} (hu : P.underlying t = some (.slice e)) (h : Sh P m t l) : ∃ (m' : Nat) (L : List (List D)), m = m' + 1 ∧ l = [.sl (P.cellsOf e) L] ∧ L.length * P.bytesOf e ≤ reachBytes ∧ ∀ x ∈ L, Sh P m' e x := by
  cases m with
  | zero => exact h.elim
  | succ m => unfold Sh at h; rw [hu] at h; obtain ⟨L, h⟩ := h; exact ⟨m, L, rfl, h⟩
theorem sh_struct {m : Nat} {t : TypeId} {l : List D} {fs : Array Field} (hu : P.underlying t = some (.struct fs)) (h : Sh P m t l) : ∃ (m' : Nat) (parts : List (List D)), m = m' + 1 ∧ l = parts.flatten ∧ All2 (fun f x => Sh P m' f.type x) fs.toList parts := by
  cases m with
  | zero => exact h.elim
  | succ m => unfold Sh at h; rw [hu] at h; obtain ⟨L, h⟩ := h; exact ⟨m, L, rfl, h⟩
theorem wf_i64 {n : Int} (h : (Lit.int .i64 n).wf = true) : -9223372036854775808 ≤ n ∧ n < 9223372036854775808 := by
  have h : (decide (IntKind.i64.min ≤ n) && decide (n ≤ IntKind.i64.max)) = true := h
  have h1 : IntKind.i64.min = -9223372036854775808 := by decide +kernel
  have h2 : IntKind.i64.max = 9223372036854775807 := by decide +kernel
  rw [h1, h2] at h
  simp only [Bool.and_eq_true, decide_eq_true_eq] at h
  omega
end
end Go.Proofs.YtphmcgmblkbijaaVY
