/-
  VY: operations that write memory, make it, or call. By the session's own hand.
-/
import Derived.Test.YtphmcgmblkbijaaVy5
set_option linter.unusedSectionVars false
set_option linter.unusedVariables false
set_option linter.unusedSimpArgs false
set_option linter.all false
set_option linter.unnecessarySimpa false
set_option linter.deprecated false
namespace Go.Proofs.YtphmcgmblkbijaaVY

theorem loseCaps_ok {h : Nat} {l : List Cap} : ∀ {k : List Cap → Prop}, loseCaps h l k → k (l.map (Cap.lose h)) := by
  induction l with
  | nil => intro k hk; exact hk
  | cons c l ih =>
    intro k hk
    cases c <;> simp only [loseCaps] at hk
    case own => split at hk <;> (rename_i e; have := ih hk; simpa [Cap.lose, e] using this)
    all_goals exact ih hk
theorem loseCs_ok {h : Nat} {l : List C} : ∀ {k : List C → Prop}, loseCs h l k → k (l.map (C.lose h)) := by
  induction l with
  | nil => intro k hk; exact hk
  | cons c l ih =>
    intro k hk
    cases c <;> simp only [loseCs] at hk
    case own => split at hk <;> (rename_i e; have := ih hk; simpa [C.lose, e] using this)
    case win => split at hk <;> (rename_i e; have := ih hk; simpa [C.lose, e] using this)
    case prow => split at hk <;> (rename_i e; have := ih hk; simpa [C.lose, e] using this)
    case fn => exact ih (loseCaps_ok hk)
    case sub => split at hk <;> (rename_i e; have := ih hk; simpa [C.lose, e] using this)
    all_goals exact ih hk
theorem loseSs_ok {h : Nat} {l : List S} : ∀ {k : List S → Prop}, loseSs h l k → k (l.map (S.lose h)) := by
  induction l with
  | nil => intro k hk; exact hk
  | cons s l ih =>
    intro k hk
    cases s with
    | tup vs => exact ih hk
    | v x => cases x with
      | c x =>
        unfold loseSs at hk
        have := loseCs_ok hk
        exact ih this
      | ag cs =>
        unfold loseSs at hk
        exact ih (loseCs_ok hk)
      | cnd b w x => exact ih hk
theorem loseRs_ok {h : Nat} {l : List Reg} : ∀ {k : List Reg → Prop}, loseRs h l k → k (l.map (Reg.lose h)) := by
  induction l with
  | nil => intro k hk; exact hk
  | cons r l ih =>
    intro k hk
    cases r with
    | box cs => unfold loseRs at hk; exact ih (loseCs_ok hk)
    | rowt _ _ cs => unfold loseRs at hk; exact ih (loseCs_ok hk)
    | row _ _ => exact ih hk
    | frz _ _ => exact ih hk
    | mem v c => unfold loseRs at hk; exact ih (loseCs_ok hk)
    | mapd _ => exact ih hk
    | mapr _ _ => exact ih hk
    | gone => exact ih hk
theorem updsK_ok {us : List (Nat × Reg)} : ∀ {hp : List Reg} {k : List Reg → Prop}, updsK us hp k → (∀ u ∈ us, u.1 < hp.length) ∧ k (us.foldl (fun hp u => hp.set u.1 u.2) hp) := by
  induction us with
  | nil => intro hp k h; exact ⟨by simp, h⟩
  | cons u us ih =>
    intro hp k h
    obtain ⟨x, r⟩ := u
    obtain ⟨h1, h2⟩ := setK_ok h
    obtain ⟨h3, h4⟩ := ih h2
    refine ⟨?_, h4⟩
    intro u hu
    cases hu with
    | head => exact h1
    | tail _ hu => have := h3 u hu; simpa using this
def afterD (t : List S) (hp : List Reg) (dst : Option Tmp) (s : S) : St := match dst with
  | none => ⟨t, hp⟩
  | some d => ⟨t.set d s, hp⟩
def St.after (σ : St) (dst : Option Tmp) (s : S) (upd : List (Nat × Reg)) (new : List Reg) (inv : Option Nat) : St :=
  afterD (σ.t.map (S.loseO inv)) (upd.foldl (fun hp u => hp.set u.1 u.2) (σ.hp.map (Reg.loseO inv)) ++ new) dst s
theorem map_loseO_none (l : List Reg) : l.map (Reg.loseO none) = l := by
  have : Reg.loseO none = id := by funext r; rfl
  rw [this]; simp
theorem map_sloseO_none (l : List S) : l.map (S.loseO none) = l := by
  have : S.loseO none = id := by funext r; rfl
  rw [this]; simp
theorem apply_ok {σ : St} {dst : Option Tmp} {s : S} {upd : List (Nat × Reg)} {new : List Reg} {inv : Option Nat} {k : St → Prop} (h : σ.apply dst s upd new inv k) :
    (∀ u ∈ upd, u.1 < σ.hp.length) ∧ (∀ d, dst = some d → d < σ.t.length) ∧ k (σ.after dst s upd new inv) := by
  have key : ∀ (t : List S) (hp : List Reg), t.length = σ.t.length → hp.length = σ.hp.length → (updsK upd hp fun hp => appK hp new fun hp => putD t hp dst s k) →
      (∀ u ∈ upd, u.1 < σ.hp.length) ∧ (∀ d, dst = some d → d < σ.t.length) ∧ k (afterD t (upd.foldl (fun hp u => hp.set u.1 u.2) hp ++ new) dst s) := by
    intro t hp ht hh h
    obtain ⟨h1, h⟩ := updsK_ok h
    replace h := appK_ok h
    cases dst with
    | none => exact ⟨fun u hu => by rw [← hh]; exact h1 u hu, fun d e => (by cases e), h⟩
    | some d =>
      obtain ⟨h2, h⟩ := setK_ok h
      exact ⟨fun u hu => by rw [← hh]; exact h1 u hu, fun d' e => by cases e; rw [← ht]; exact h2, h⟩
  unfold St.apply at h
  unfold St.after
  cases inv with
  | none =>
    rw [map_loseO_none, map_sloseO_none]
    exact key σ.t σ.hp rfl rfl h
  | some i =>
    have := loseRs_ok (loseSs_ok h)
    exact key _ _ (by simp) (by simp) this

/-- What holds between a state, a frame and a world, and the world that a call began in. -/
structure Inv (X : Nat → Prop) (w0 : World) (B0 : Nat → Prop) (σ : St) (a : Act) (w : World) (ρ : Hs) : Prop where
  hp : HpRel X ρ σ.hp w
  t : ∀ (i : Nat) (s : S), σ.t[i]? = some s → SRel ρ (Av X ρ σ.hp) w (a.tmps.getD i undef) s
  sz : a.tmps.size = σ.t.length
  de : a.defers = []
  gr : w0.heap.size ≤ w.heap.size
  fr : ∀ b, b < w0.heap.size → ¬ B0 b → w.heap[b]? = w0.heap[b]?
  ow : ∀ b, Live ρ σ.hp b → B0 b ∨ w0.heap.size ≤ b
  xs : ∀ b, X b → b < w0.heap.size
  st : Str w0 w
theorem Inv.gla {X : Nat → Prop} {w0 : World} {B0 : Nat → Prop} {σ : St} {a : Act} {w : World} {ρ : Hs} [hG : GPc X B0 w0] (I : Inv X w0 B0 σ a w ρ) : GlA (Av X ρ σ.hp) w := by
  intro g l hg
  obtain ⟨h1, h2, h3, h4⟩ := hG.gl g l hg
  refine ⟨⟨Nat.lt_of_lt_of_le h1 I.gr, ?_⟩, RdC.any (I.fr g h1 h3) h4 (globs_flat hg)⟩
  rintro (hx | hl)
  · exact h2 hx
  · rcases I.ow g hl with h | h
    · exact h3 h
    · omega
section inv
variable {X : Nat → Prop} {w0 : World} {B0 : Nat → Prop} {σ : St} {a : Act} {w : World} {ρ : Hs}
theorem getD_put {a : Act} {d i : Nat} {v : Value} (h : d < a.tmps.size) : (a.put (some d) v).tmps.getD i undef = if d = i then v else a.tmps.getD i undef := by
  simp only [Act.put, Array.getD_eq_getD_getElem?]
  rw [Array.getElem?_setIfInBounds]
  split
  · simp [h]
  · rfl
/-- a value put into its place -/
theorem put_rel {ρ' : Hs} {A' : Nat → Prop} {w' : World} {t : List S} (ht : ∀ (i : Nat) (s : S), t[i]? = some s → SRel ρ' A' w' (a.tmps.getD i undef) s) (hs : a.tmps.size = t.length) {d : Nat} {v : Value} {s : S}
    (hv : SRel ρ' A' w' v s) : ∀ (i : Nat) (s' : S), (t.set d s)[i]? = some s' → SRel ρ' A' w' ((a.put (some d) v).tmps.getD i undef) s' := by
  intro i s' h
  rw [List.getElem?_set] at h
  by_cases hd : d < t.length
  · rw [getD_put (by omega)]
    split at h
    · rename_i e; subst e
      simp [hd] at h; subst h; simpa using hv
    · rename_i e; rw [if_neg e]; exact ht i s' h
  · have : (a.put (some d) v).tmps = a.tmps := by simp [Act.put, Array.setIfInBounds, show ¬ d < a.tmps.size by omega]
    rw [this]
    split at h
    · simp [hd] at h
    · exact ht i s' h
theorem size_put (a : Act) (d : Option Tmp) (v : Value) : (a.put d v).tmps.size = a.tmps.size := by cases d <;> simp [Act.put]
theorem defers_put (a : Act) (d : Option Tmp) (v : Value) : (a.put d v).defers = a.defers := by cases d <;> rfl

/-- nothing in memory is touched -/
theorem Inv.look (I : Inv X w0 B0 σ a w ρ) {dst : Option Tmp} {v : Value} {s : S} (hs : SRel ρ (Av X ρ σ.hp) w v s) : Inv X w0 B0 (σ.after dst s [] [] none) (a.put dst v) w ρ := by
  have e : σ.hp.map (Reg.loseO none) ++ [] = σ.hp := by rw [map_loseO_none]; simp
  cases dst with
  | none =>
    have : σ.after none s [] [] none = σ := by simp only [St.after, afterD, List.foldl_nil, e, map_sloseO_none]
    rw [this]; exact I
  | some d =>
    have : σ.after (some d) s [] [] none = ⟨σ.t.set d s, σ.hp⟩ := by simp only [St.after, afterD, List.foldl_nil, e, map_sloseO_none]
    rw [this]
    exact ⟨I.hp, put_rel I.t I.sz hs, by simp [size_put, I.sz], by rw [defers_put]; exact I.de, I.gr, I.fr, I.ow, I.xs, I.st⟩
/-- one handle is touched -/
theorem Inv.touch (I : Inv X w0 B0 σ a w ρ) {ρ' : Hs} {hp' : List Reg} {w' : World} {ht : Nat} {rt : Reg} {vt : Value} {inv : Option Nat} (T : Touch X ρ ρ' σ.hp hp' w w' ht rt vt inv)
    (hr : RegRel ρ' (Av X ρ' hp') w' vt rt) : Inv X w0 B0 ⟨σ.t.map (S.loseO inv), hp'⟩ a w' ρ' where
  hp := I.hp.touch T hr
  t := fun i s h => by
    rw [List.getElem?_map] at h
    obtain ⟨s0, h0, rfl⟩ := Option.map_eq_some_iff.1 h
    exact (I.t i s0 h0).lasts T.lasts (T.keeps I.hp.len)
  sz := by simpa using I.sz
  de := I.de
  gr := Nat.le_trans I.gr T.grow
  fr := fun b hb hB => by
    rcases T.same b (Nat.lt_of_lt_of_le hb I.gr) with h | ⟨r, v, h1, h2, h3, h4⟩
    · exact h.trans (I.fr b hb hB)
    · rcases I.ow b ⟨ht, r, v, h1, h2, h3, h4⟩ with h | h
      · exact absurd h hB
      · omega
  ow := fun b hb => by
    rcases T.live hb with h | h
    · exact .inr (Nat.le_trans I.gr h)
    · exact I.ow b h
  xs := I.xs
  st := I.st.trans T.str

theorem Flat.one {v : Value} (h : Flat v) : v.oneCell' = true := by
  cases v <;> first | rfl | exact absurd rfl (h.1 _) | exact absurd rfl (h.2 _)
theorem loseO_none_map (o : Option Reg) : o.map (Reg.loseO none) = o := by cases o <;> rfl
/-- memory is made -/
theorem touchAdd (I : Inv X w0 B0 σ a w ρ) {w' : World} (hg : w.heap.size ≤ w'.heap.size) (hw : ∀ b, b < w.heap.size → w'.heap[b]? = w.heap[b]?) (hst : Str w w') {r : Reg} {v : Value} (hb : r.live = true → ∀ b, Bk v b → w.heap.size ≤ b) :
    Touch X ρ (ρ ++ [v]) σ.hp (σ.hp ++ [r]) w w' σ.hp.length r v none where
  len' := by simp [I.hp.len]
  oth := fun h hne => by
    have hl := I.hp.len
    rw [loseO_none_map]
    rcases Nat.lt_or_ge h σ.hp.length with hlt | hge
    · rw [List.getElem?_append_left hlt, List.getElem?_append_left (by omega)]; exact ⟨rfl, rfl⟩
    · have h1 : (σ.hp ++ [r]).length ≤ h := by simp; omega
      have h2 : (ρ ++ [v]).length ≤ h := by simp; omega
      exact ⟨by rw [List.getElem?_eq_none h1, List.getElem?_eq_none hge], by rw [List.getElem?_eq_none h2, List.getElem?_eq_none (by omega)]⟩
  hpt := by simp
  ρt := by rw [← I.hp.len]; simp
  grow := hg
  inv0 := .inl rfl
  keep := fun _ h => by omega
  row := fun h => by cases h
  fresh := fun hl b h => .inl (hb hl b h)
  same := fun b h => .inl (hw b h)
  xlt := fun b h => Nat.lt_of_lt_of_le (I.xs b h) I.gr
  str := hst
theorem push_same {w w' : World} {o : Obj} (hw : w'.heap = w.heap.push o) : w.heap.size ≤ w'.heap.size ∧ ∀ b, b < w.heap.size → w'.heap[b]? = w.heap[b]? :=
  ⟨by rw [hw]; simp, fun b h => by rw [hw, Array.getElem?_push]; rw [if_neg (by omega)]⟩
theorem touchNew (I : Inv X w0 B0 σ a w ρ) {w' : World} {o : Obj} (hw : w'.heap = w.heap.push o) (hst : Str w w') {r : Reg} {v : Value} (hb : ∀ b, Bk v b → w.heap.size ≤ b) :
    Touch X ρ (ρ ++ [v]) σ.hp (σ.hp ++ [r]) w w' σ.hp.length r v none := touchAdd I (push_same hw).1 (push_same hw).2 hst fun _ => hb
/-- memory of one's own is written -/
theorem touchSet (I : Inv X w0 B0 σ a w ρ) {w' : World} {h : Nat} {r r' : Reg} {v : Value} (hr : σ.hp[h]? = some r) (hl : r.live = true) (hv : ρ[h]? = some v) (hs : w'.heap.size = w.heap.size) (hst : Str w w')
    (hw : ∀ b, b < w.heap.size → w'.heap[b]? = w.heap[b]? ∨ Bk v b) :
    Touch X ρ ρ σ.hp (σ.hp.set h r') w w' h r' v none where
  len' := by simp [I.hp.len]
  oth := fun h' hne => by rw [loseO_none_map, List.getElem?_set_ne (Ne.symm hne)]; exact ⟨rfl, rfl⟩
  hpt := by simp [(List.getElem?_eq_some_iff.1 hr).1]
  ρt := hv
  grow := by omega
  inv0 := .inl rfl
  keep := fun _ _ => hv
  row := fun h => by cases h
  fresh := fun _ b hb => .inr ⟨r, v, hr, hl, hv, hb⟩
  same := fun b hb => (hw b hb).imp id fun h' => ⟨r, v, hr, hl, hv, h'⟩
  xlt := fun b h => Nat.lt_of_lt_of_le (I.xs b h) I.gr
  str := hst
/-- a row is moved, or written where it is -/
theorem touchMove (I : Inv X w0 B0 σ a w ρ) {w' : World} {h : Nat} {r r' : Reg} {v v' : Value} (hr : σ.hp[h]? = some r) (hl : r.live = true) (hv : ρ[h]? = some v) (hs : w.heap.size ≤ w'.heap.size) (hst : Str w w')
    (hw : ∀ b, b < w.heap.size → w'.heap[b]? = w.heap[b]? ∨ Bk v b) (hvs : Mov v v') (hb : ∀ b, Bk v' b → w.heap.size ≤ b ∨ Bk v b) :
    Touch X ρ (ρ.set h v') σ.hp ((σ.hp.map (Reg.loseO (some h))).set h r') w w' h r' v' (some h) where
  len' := by simp [I.hp.len]
  oth := fun h' hne => by rw [List.getElem?_set_ne (Ne.symm hne), List.getElem?_map, List.getElem?_set_ne (Ne.symm hne)]; exact ⟨rfl, rfl⟩
  hpt := by simp [(List.getElem?_eq_some_iff.1 hr).1]
  ρt := by simp [(List.getElem?_eq_some_iff.1 hv).1]
  grow := hs
  inv0 := .inr rfl
  keep := fun h => by cases h
  row := fun _ v0 h0 => by rw [hv] at h0; cases h0; exact hvs
  fresh := fun _ b h => (hb b h).imp id fun h' => ⟨r, v, hr, hl, hv, h'⟩
  same := fun b h => (hw b h).imp id fun h' => ⟨r, v, hr, hl, hv, h'⟩
  xlt := fun b h => Nat.lt_of_lt_of_le (I.xs b h) I.gr
  str := hst

theorem RdC_of {A : Nat → Prop} {b off : Nat} {T : TypeId} {fr : Nat × Nat} {vs : Array Value} (hb : w.heap[b]? = some (.cells vs T fr)) {l : List D}
    (h : ∀ (j : Nat) (x : D), l[j]? = some x → ∃ u, vs[off + j]? = some u ∧ Rd A w u x) : RdC A w b off l := by
  induction l generalizing off with
  | nil => simp only [RdC]
  | cons x l ih =>
    simp only [RdC]
    obtain ⟨u, hu, hx⟩ := h 0 x (by simp)
    refine ⟨⟨u, by rw [cell_of_row w b off vs T fr hb]; simpa using hu, hx⟩, ih fun j y hy => ?_⟩
    obtain ⟨u, hu, hx⟩ := h (j + 1) y (by simpa using hy)
    exact ⟨u, by rw [Nat.add_assoc, Nat.add_comm 1 j]; exact hu, hx⟩
theorem RdC_append {A : Nat → Prop} {b : Nat} {l m : List D} : ∀ {off : Nat}, RdC A w b off (l ++ m) ↔ RdC A w b off l ∧ RdC A w b (off + l.length) m := by
  induction l with
  | nil => intro off; simp [RdC]
  | cons x l ih =>
    intro off
    simp only [List.cons_append, RdC, ih, List.length_cons]
    rw [show off + (l.length + 1) = off + 1 + l.length by omega, and_assoc]
theorem RdL_iff {A : Nat → Prop} {b sz : Nat} {L : List (List D)} : ∀ {off : Nat}, RdL A w b off sz L ↔ (∀ e ∈ L, e.length = sz) ∧ RdC A w b off L.flatten := by
  induction L with
  | nil => intro off; simp [RdL, RdC]
  | cons e L ih =>
    intro off
    simp only [RdL, List.flatten_cons, RdC_append, ih, List.mem_cons, forall_eq_or_imp]
    constructor
    · rintro ⟨h1, h2, h3, h4⟩; exact ⟨⟨h1, h3⟩, h2, by rw [h1]; exact h4⟩
    · rintro ⟨⟨h1, h3⟩, h2, h4⟩; exact ⟨h1, h2, h3, by rw [← h1]; exact h4⟩
theorem flatten_length {L : List (List D)} {sz : Nat} (h : ∀ e ∈ L, e.length = sz) : L.flatten.length = L.length * sz := by
  induction L with
  | nil => simp
  | cons e L ih =>
    simp only [List.flatten_cons, List.length_append, List.length_cons, Nat.add_mul]
    rw [ih fun e he => h e (List.mem_cons_of_mem _ he), h e (List.mem_cons_self ..)]; omega
/-- the values of cells that read as these -/
theorem RdC.vals {A : Nat → Prop} {b : Nat} {l : List D} : ∀ {off : Nat}, RdC A w b off l → ∃ us : List Value, All2 (Rd A w) us l ∧ ∀ (j : Nat) (u : Value), us[j]? = some u → w.cell? ⟨b, off + j, none⟩ = some u := by
  induction l with
  | nil => intro off h; exact ⟨[], .nil, by simp⟩
  | cons x l ih =>
    intro off h
    simp only [RdC] at h
    obtain ⟨⟨v, hv, hx⟩, h⟩ := h
    obtain ⟨us, h1, h2⟩ := ih h
    refine ⟨v :: us, .cons hx h1, ?_⟩
    intro j u hu
    cases j with
    | zero => simp at hu; subst hu; exact hv
    | succ j => have := h2 j u (by simpa using hu); rwa [Nat.add_assoc, Nat.add_comm 1 j] at this
/-- what a row's cells are -/
theorem row_vals {A : Nat → Prop} {a' : Option Addr} {sz : Nat} {L : List (List D)} (h : L = [] ∨ ∃ b off, a' = some ⟨b, off, none⟩ ∧ b < w.heap.size ∧ RdL A w b off sz L) :
    ∃ us : List Value, All2 (Rd A w) us L.flatten ∧ us.length = L.length * sz ∧ (∀ e ∈ L, e.length = sz) ∧ ((L = [] ∧ us = []) ∨ ∃ b off, a' = some ⟨b, off, none⟩ ∧ b < w.heap.size ∧ ∀ (j : Nat) (u : Value), us[j]? = some u → w.cell? ⟨b, off + j, none⟩ = some u) := by
  rcases h with rfl | ⟨b, off, rfl, hb, h⟩
  · exact ⟨[], .nil, by simp, by simp, .inl ⟨rfl, rfl⟩⟩
  · obtain ⟨h1, h2⟩ := RdL_iff.1 h
    obtain ⟨us, h3, h4⟩ := h2.vals
    exact ⟨us, h3, by rw [h3.length, flatten_length h1], h1, .inr ⟨b, off, rfl, hb, h4⟩⟩

section ops
variable {P : Program} {Γ : Cx} {gd : Option (Bool × Bool)} {Q : Exit → Act → World → Prop} [hGP : GPc X B0 w0]
theorem wp_value {o : Oper} {v : Value} {w' : World} {next : Act → World → Prop} (h : (execOp a.eval o).run P w = .ok (.value v) w') (hn : next (a.put o.dst v) w') : o.wp P a w next Q := by
  unfold Oper.wp; rw [h]; exact hn
theorem wp_skip' {o : Oper} {w' : World} {next : Act → World → Prop} (h : (execOp a.eval o).run P w = .ok .skip w') (hn : next (a.put o.dst undef) w') : o.wp P a w next Q := by
  unfold Oper.wp; rw [h]; exact hn
theorem after_new {dst : Option Tmp} {s : S} {r : Reg} : σ.after dst s [] [r] none = afterD σ.t (σ.hp ++ [r]) dst s := by simp only [St.after, List.foldl_nil, map_loseO_none, map_sloseO_none]
theorem after_upd {dst : Option Tmp} {s : S} {h : Nat} {r : Reg} : σ.after dst s [(h, r)] [] none = afterD σ.t (σ.hp.set h r) dst s := by simp only [St.after, List.foldl_cons, List.foldl_nil, map_loseO_none, map_sloseO_none, List.append_nil]
theorem after_move {dst : Option Tmp} {s : S} {h : Nat} {r : Reg} : σ.after dst s [(h, r)] [] (some h) = afterD (σ.t.map (S.loseO (some h))) ((σ.hp.map (Reg.loseO (some h))).set h r) dst s := by simp only [St.after, List.foldl_cons, List.foldl_nil, List.append_nil]
theorem Inv.put (I : Inv X w0 B0 ⟨σ.t, σ.hp⟩ a w ρ) {dst : Option Tmp} {v : Value} {s : S} (hs : SRel ρ (Av X ρ σ.hp) w v s) : Inv X w0 B0 (afterD σ.t σ.hp dst s) (a.put dst v) w ρ := by
  have := Inv.look I (dst := dst) hs
  have e : St.after ⟨σ.t, σ.hp⟩ dst s [] [] none = afterD σ.t σ.hp dst s := by simp only [St.after, List.foldl_nil, map_loseO_none, map_sloseO_none, List.append_nil]
  rwa [e] at this
/-- after one handle was touched -/
theorem Inv.touchPut (I : Inv X w0 B0 σ a w ρ) {ρ' : Hs} {hp' : List Reg} {w' : World} {ht : Nat} {rt : Reg} {vt : Value} {inv : Option Nat} (T : Touch X ρ ρ' σ.hp hp' w w' ht rt vt inv)
    (hr : RegRel ρ' (Av X ρ' hp') w' vt rt) {dst : Option Tmp} {v : Value} {s : S} (hs : SRel ρ' (Av X ρ' hp') w' v s) : Inv X w0 B0 (afterD (σ.t.map (S.loseO inv)) hp' dst s) (a.put dst v) w' ρ' :=
  Inv.put (σ := ⟨σ.t.map (S.loseO inv), hp'⟩) (I.touch T hr) hs
theorem sptr {A : Nat → Prop} {h b off : Nat} (hl : ρ[h]? = some (.pointer (some ⟨b, 0, none⟩))) : SRel ρ A w (.pointer (some ⟨b, off, none⟩)) (.one (.ptr h off)) := ⟨b, hl, rfl⟩
theorem sown {A : Nat → Prop} {h : Nat} {v : Value} (hl : ρ[h]? = some v) (hf : Flat v) : SRel ρ A w v (.one (.own h)) := ⟨hl, hf⟩
/-- a box is made -/
theorem newBox (I : Inv X w0 B0 σ a w ρ) {T : TypeId} {vs : Array Value} {cs : List C} (hc : All2 (fun u c => Flat u ∧ CRel ρ (Av X ρ σ.hp) w u c) vs.toList cs) {dst : Option Tmp} :
    Inv X w0 B0 (σ.after dst (.one (.ptr σ.hp.length 0)) [] [.box cs] none) (a.put dst (.pointer (some ⟨w.heap.size, 0, none⟩))) { w with heap := w.heap.push (.cells vs T (0, 0)) } (ρ ++ [.pointer (some ⟨w.heap.size, 0, none⟩)]) := by
  have T' := touchNew I (w' := { w with heap := w.heap.push (.cells vs T (0, 0)) }) (r := .box cs) (v := .pointer (some ⟨w.heap.size, 0, none⟩)) rfl ⟨rfl, rfl, rfl, Nat.le_refl _⟩ (fun b hb => by simp [Bk, blk] at hb; omega)
  have hl := T'.ρt
  rw [after_new]
  have := I.touchPut T' (dst := dst) (v := .pointer (some ⟨w.heap.size, 0, none⟩)) (s := .one (.ptr σ.hp.length 0))
    ⟨w.heap.size, T, vs, rfl, by simp, hc.imp fun _ _ h => ⟨h.1, CRel.lasts' T'.lasts (T'.keeps I.hp.len) rfl h.2⟩⟩
    (sptr hl)
  rwa [map_sloseO_none] at this

/-- cells written one after the other -/
theorem run_puts {b off : Nat} {T : TypeId} {cur : Array Value} {xs : List Value} (hb : w.heap[b]? = some (.cells cur T (0, 0))) (hl : off + xs.length ≤ cur.size) (hf : ∀ v ∈ xs, Flat v) :
    (storeCells ⟨b, off, none⟩ xs).run P w = .ok () (w.setRow b (cur.toList.take off ++ xs ++ cur.toList.drop (off + xs.length)).toArray) := by
  have := run_storeCells_at P b off T xs 0 cur w hb (by simpa using hl) (fun v hv => (hf v hv).one)
  simpa using this
variable (hT : TyOk P Γ.ty) (hg : GdOk gd)
theorem run_storeVar {T : TypeId} {n : Nat} {b off : Nat} {T' : TypeId} {cur : Array Value} {xs : List Value} {v : Value} {i : TypeInfo} (hi : P.info? T = some i) (hn : i.size = n) (hv : v.cells = xs.toArray) (hx : xs.length = n)
    (hb : w.heap[b]? = some (.cells cur T' (0, 0))) (hl : off + xs.length ≤ cur.size) (hf : ∀ v ∈ xs, Flat v) :
    (Instr.storeAt T (.pointer (some ⟨b, off, none⟩)) v).run P w = .ok () (w.setRow b (cur.toList.take off ++ xs ++ cur.toList.drop (off + xs.length)).toArray) := by
  have h1 : v.cells.size = i.size := by rw [hv, hn]; simpa using hx
  have h2 : v.cells.toList = xs := by rw [hv]
  simp [Instr.storeAt, Instr.sureAddr, storeVar, run_sizeOf hi, h1, h2, run_puts hb hl hf]
/-- a box is written -/
theorem setBox (I : Inv X w0 B0 σ a w ρ) {h off : Nat} {cs : List C} (hr : σ.hp[h]? = some (.box cs)) {xs : List Value} {ys : List C} (hxy : All2 (fun u c => Flat u ∧ CRel ρ (Av X ρ σ.hp) w u c) xs ys) (hl : ys = [] ∨ off + ys.length ≤ cs.length)
    {b : Nat} (hb : ρ[h]? = some (.pointer (some ⟨b, 0, none⟩))) {dst : Option Tmp} (hd : dst = none ∨ True) :
    ∃ T cur, w.heap[b]? = some (.cells cur T (0, 0)) ∧ (ys = [] ∨ off + xs.length ≤ cur.size) ∧
      Inv X w0 B0 (σ.after dst .junk [(h, .box (cs.take off ++ ys ++ cs.drop (off + ys.length)))] [] none) (a.put dst undef) (w.setRow b (cur.toList.take off ++ xs ++ cur.toList.drop (off + xs.length)).toArray) ρ := by
  obtain ⟨v, hv, hR⟩ := I.hp.val hr
  rw [hb] at hv; cases hv
  obtain ⟨b', T, cur, he, hcur, hall⟩ := hR
  cases he
  refine ⟨T, cur, hcur, ?_, ?_⟩
  · rcases hl with h | h
    · exact .inl h
    · refine .inr ?_; rw [hxy.length]; have := hall.length; simp at this; omega
  · have T' := touchSet I (w' := w.setRow b (cur.toList.take off ++ xs ++ cur.toList.drop (off + xs.length)).toArray) (r' := .box (cs.take off ++ ys ++ cs.drop (off + ys.length))) hr rfl hb (by simp) ⟨rfl, rfl, rfl, Nat.le_refl _⟩
      (fun b' hb' => by
        by_cases e : b' = b
        · subst e; exact .inr rfl
        · exact .inl (setRow_other w b b' _ e))
    rw [after_upd]
    have := I.touchPut T' (dst := dst) (v := undef) (s := .junk) ?_ trivial
    · rwa [map_sloseO_none] at this
    · have base : All2 (fun u c => Flat u ∧ CRel ρ (Av X ρ σ.hp) w u c) (cur.toList.take off ++ xs ++ cur.toList.drop (off + xs.length)) (cs.take off ++ ys ++ cs.drop (off + ys.length)) := by
        rw [List.append_assoc, List.append_assoc, hxy.length]
        exact (hall.take off).append (hxy.append (hall.drop _))
      exact ⟨b, T, _, rfl, setRow_heap w b cur _ T (0, 0) hcur, base.imp fun _ _ h => ⟨h.1, CRel.lasts' T'.lasts (T'.keeps I.hp.len) rfl h.2⟩⟩

theorem RdL_of {A : Nat → Prop} {b sz : Nat} {L : List (List D)} : ∀ {off : Nat}, (∀ (m : Nat) (e : List D), L[m]? = some e → e.length = sz ∧ RdC A w b (off + m * sz) e) → RdL A w b off sz L := by
  induction L with
  | nil => intros; simp only [RdL]
  | cons e L ih =>
    intro off h
    simp only [RdL]
    have h0 := h 0 e (by simp)
    refine ⟨h0.1, by simpa using h0.2, ih fun m e' he => ?_⟩
    have := h (m + 1) e' (by simpa using he)
    rwa [show off + (m + 1) * sz = off + sz + m * sz by rw [Nat.add_mul]; omega] at this
theorem RdC.get {A : Nat → Prop} {b : Nat} {l : List D} : ∀ {off : Nat}, RdC A w b off l → ∀ (j : Nat) (x : D), l[j]? = some x → ∃ u, w.cell? ⟨b, off + j, none⟩ = some u ∧ Rd A w u x := by
  induction l with
  | nil => intro off _ j x h; simp at h
  | cons y l ih =>
    intro off h j x hx
    simp only [RdC] at h
    cases j with
    | zero => simp at hx; subst hx; exact h.1
    | succ j => have := ih h.2 j x (by simpa using hx); rwa [Nat.add_assoc, Nat.add_comm 1 j] at this
theorem TailAt_iff {A : Nat → Prop} {b : Nat} {cs : List C} : ∀ {off : Nat}, TailAt ρ A w b off cs ↔ ∀ (j : Nat) (c : C), cs[j]? = some c → ∃ u, w.cell? ⟨b, off + j, none⟩ = some u ∧ Flat u ∧ CRel ρ A w u c := by
  induction cs with
  | nil => intro off; simp [TailAt]
  | cons x cs ih =>
    intro off
    constructor
    · intro h j c hc
      cases j with
      | zero => simp at hc; subst hc; exact h.1
      | succ j => have := ih.1 h.2 j c (by simpa using hc); rwa [Nat.add_assoc, Nat.add_comm 1 j] at this
    · intro h
      refine ⟨h 0 x (by simp), ih.2 fun j c hc => ?_⟩
      have := h (j + 1) c (by simpa using hc)
      rwa [Nat.add_assoc, Nat.add_comm 1 j]
/-- a cell of a row's last element is written -/
theorem setTail (I : Inv X w0 B0 σ a w ρ) {h sz j : Nat} {L : List (List D)} {cs : List C} (hr : σ.hp[h]? = some (.rowt sz L cs)) {x : Value} {y : C} (hf : Flat x) (hxy : CRel ρ (Av X ρ σ.hp) w x y)
    (hl : j < cs.length) {b off : Nat} {l c : Nat} (hb : ρ[h]? = some (.slice (some ⟨b, off, none⟩) l c)) {dst : Option Tmp} :
    ∃ T cur, w.heap[b]? = some (.cells cur T (0, 0)) ∧ off + L.length * sz + j + 1 ≤ cur.size ∧
      Inv X w0 B0 (σ.after dst .junk [(h, .rowt sz L (cs.set j y))] [] none) (a.put dst undef) (w.setRow b (cur.toList.take (off + L.length * sz + j) ++ [x] ++ cur.toList.drop (off + L.length * sz + j + [x].length)).toArray) ρ := by
  obtain ⟨v, hv, hR⟩ := I.hp.val hr
  rw [hb] at hv; cases hv
  obtain ⟨a', c', hv, hc, hz, hcl, b', off', T, cur, rfl, hcur, hsz, hL, hC⟩ := hR
  cases hv
  have hbd : off + L.length * sz + sz ≤ cur.size := by
    have : (L.length + 1) * sz ≤ c * sz := Nat.mul_le_mul_right _ hc
    rw [Nat.add_mul] at this; omega
  refine ⟨T, cur, hcur, by omega, ?_⟩
  obtain ⟨c0, rfl⟩ : ∃ c0, c = c0 + 1 := ⟨c - 1, by omega⟩
  have T' := touchSet I (w' := w.setRow b (cur.toList.take (off + L.length * sz + j) ++ [x] ++ cur.toList.drop (off + L.length * sz + j + [x].length)).toArray) (r' := .rowt sz L (cs.set j y)) hr rfl hb (by simp) ⟨rfl, rfl, rfl, Nat.le_refl _⟩
    (fun b' hb' => by
      by_cases e : b' = b
      · subst e; exact .inr rfl
      · exact .inl (setRow_other w b b' _ e))
  rw [after_upd]
  have hnew := setRow_heap w b cur (cur.toList.take (off + L.length * sz + j) ++ [x] ++ cur.toList.drop (off + L.length * sz + j + [x].length)).toArray T (0, 0) hcur
  have hcell : ∀ o u, cur[o]? = some u → o ≠ off + L.length * sz + j → (w.setRow b (cur.toList.take (off + L.length * sz + j) ++ [x] ++ cur.toList.drop (off + L.length * sz + j + [x].length)).toArray).cell? ⟨b, o, none⟩ = some u := by
    intro o u hu hne
    rw [cell_of_row _ b o _ T (0, 0) hnew, List.getElem?_toArray]
    rw [← Array.getElem?_toList] at hu
    by_cases ho : o < off + L.length * sz + j
    · rw [List.append_assoc, List.getElem?_append_left (by simp; omega), List.getElem?_take, if_pos ho]; exact hu
    · rw [List.getElem?_append_right (by simp; omega), List.getElem?_drop]
      rw [← hu]; congr 1; simp; omega
  have hold : ∀ o u, w.cell? ⟨b, o, none⟩ = some u → cur[o]? = some u := by
    intro o u hu
    rw [cell_of_row w b o cur T (0, 0) hcur] at hu; exact hu
  have := I.touchPut T' (dst := dst) (v := undef) (s := .junk) ?_ trivial
  · rwa [map_sloseO_none] at this
  · refine ⟨_, _, rfl, hc, hz, by rw [List.length_set]; exact hcl, b, off, T, _, rfl, hnew, by simp; omega, ?_, ?_⟩
    · refine RdL_of fun m e hm => ?_
      obtain ⟨h1, h2⟩ := hL.get hm
      refine ⟨h1, ?_⟩
      have hml := (List.getElem?_eq_some_iff.1 hm).1
      refine RdC_of hnew fun k z hz' => ?_
      obtain ⟨u, hu, hr⟩ := h2.get k z hz'
      have hkl := (List.getElem?_eq_some_iff.1 hz').1
      have hle : (m + 1) * sz ≤ L.length * sz := Nat.mul_le_mul_right _ hml
      rw [Nat.add_mul] at hle
      have := hcell _ u (hold _ _ hu) (by omega)
      rw [cell_of_row _ b _ _ T (0, 0) hnew] at this
      exact ⟨u, this, hr.lasts T'.lasts⟩
    · refine TailAt_iff.2 fun k z hz' => ?_
      rw [List.getElem?_set] at hz'
      by_cases e : j = k
      · subst e
        rw [if_pos rfl, if_pos hl] at hz'; cases hz'
        refine ⟨x, ?_, hf, CRel.lasts' T'.lasts (T'.keeps I.hp.len) rfl hxy⟩
        have ht : (cur.toList.take (off + L.length * sz + j)).length = off + L.length * sz + j := by rw [List.length_take]; have := Array.length_toList (xs := cur); omega
        rw [cell_of_row _ b _ _ T (0, 0) hnew, List.getElem?_toArray, List.append_assoc, List.getElem?_append_right (by omega), ht, Nat.sub_self]
        rfl
      · rw [if_neg e] at hz'
        obtain ⟨u, hu, hfu, hr⟩ := TailAt_iff.1 hC k z hz'
        exact ⟨u, hcell _ u (hold _ _ hu) (by omega), hfu, CRel.lasts' T'.lasts (T'.keeps I.hp.len) rfl hr⟩

/-- an element of a row is written -/
theorem setRowAt (I : Inv X w0 B0 σ a w ρ) {h sz i j : Nat} {L : List (List D)} {e : List D} (hr : σ.hp[h]? = some (.row sz L)) (he : L[i]? = some e) {xs : List Value} {ys : List D} (hxy : All2 (Rd (Av X ρ σ.hp) w) xs ys)
    (hl : j + ys.length ≤ e.length) {b off : Nat} {l c : Nat} (hb : ρ[h]? = some (.slice (some ⟨b, off, none⟩) l c)) {dst : Option Tmp} :
    ∃ T cur, w.heap[b]? = some (.cells cur T (0, 0)) ∧ off + i * sz + j + xs.length ≤ cur.size ∧
      Inv X w0 B0 (σ.after dst .junk [(h, .row sz (L.set i (e.take j ++ ys ++ e.drop (j + ys.length))))] [] none) (a.put dst undef) (w.setRow b (cur.toList.take (off + i * sz + j) ++ xs ++ cur.toList.drop (off + i * sz + j + xs.length)).toArray) ρ := by
  obtain ⟨v, hv, hR⟩ := I.hp.val hr
  rw [hb] at hv; cases hv
  obtain ⟨a', c', hv, hc, hz, hR⟩ := hR
  have hi := (List.getElem?_eq_some_iff.1 he).1
  rcases hR with rfl | ⟨b', off', T, cur, rfl, hcur, hsz, hL⟩
  · omega
  · cases hv
    have hes := (hL.get he).1
    have hbd : off + i * sz + sz ≤ cur.size := by
      have : (i + 1) * sz ≤ c * sz := Nat.mul_le_mul_right _ (by omega)
      rw [Nat.add_mul] at this; omega
    have hxl := hxy.length
    refine ⟨T, cur, hcur, by omega, ?_⟩
    have hce : c ≠ 0 := by omega
    obtain ⟨c0, rfl⟩ : ∃ c0, c = c0 + 1 := ⟨c - 1, by omega⟩
    have T' := touchSet I (w' := w.setRow b (cur.toList.take (off + i * sz + j) ++ xs ++ cur.toList.drop (off + i * sz + j + xs.length)).toArray) (r' := .row sz (L.set i (e.take j ++ ys ++ e.drop (j + ys.length)))) hr rfl hb (by simp) ⟨rfl, rfl, rfl, Nat.le_refl _⟩
      (fun b' hb' => by
        by_cases e : b' = b
        · subst e; exact .inr rfl
        · exact .inl (setRow_other w b b' _ e))
    rw [after_upd]
    have := I.touchPut T' (dst := dst) (v := undef) (s := .junk) ?_ trivial
    · rwa [map_sloseO_none] at this
    · have hnew := setRow_heap w b cur (cur.toList.take (off + i * sz + j) ++ xs ++ cur.toList.drop (off + i * sz + j + xs.length)).toArray T (0, 0) hcur
      refine ⟨_, _, by rw [List.length_set], by rw [List.length_set]; exact hc, hz, .inr ⟨b, off, T, _, rfl, hnew, by simp; omega, ?_⟩⟩
      refine RdL_of fun m e' hm => ?_
      rw [List.getElem?_set] at hm
      split at hm
      · rename_i em; subst em
        cases hm
        refine ⟨by simp; omega, RdC_of hnew fun q x hq => ?_⟩
        by_cases h1 : q < j
        · rw [List.append_assoc, List.getElem?_append_left (by simp; omega), List.getElem?_take, if_pos h1] at hq
          obtain ⟨u, hu, hx⟩ := (hL.get he).2.get q x hq
          refine ⟨u, ?_, hx.lasts T'.lasts⟩
          rw [cell_of_row w b _ cur T (0, 0) hcur] at hu
          have hlt : off + i * sz + q < cur.size := (Array.getElem?_eq_some_iff.1 hu).1
          rw [List.getElem?_toArray, List.append_assoc, List.getElem?_append_left (by simp; omega), List.getElem?_take, if_pos (by omega)]
          simpa using hu
        · by_cases h2 : q < j + ys.length
          · rw [List.append_assoc, List.getElem?_append_right (by simp; omega), List.getElem?_append_left (by simp; omega)] at hq
            obtain ⟨u, hu, hx⟩ := hxy.get' hq
            refine ⟨u, ?_, hx.lasts T'.lasts⟩
            rw [List.getElem?_toArray, List.append_assoc, List.getElem?_append_right (by simp; omega), List.getElem?_append_left (by simp; omega)]
            rw [← hu]; congr 1; simp; omega
          · rw [List.append_assoc, List.getElem?_append_right (by simp; omega), List.getElem?_append_right (by simp; omega), List.getElem?_drop] at hq
            have eq1 : j + ys.length + (q - (e.take j).length - ys.length) = q := by simp; omega
            rw [eq1] at hq
            obtain ⟨u, hu, hx⟩ := (hL.get he).2.get q x hq
            refine ⟨u, ?_, hx.lasts T'.lasts⟩
            rw [cell_of_row w b _ cur T (0, 0) hcur] at hu
            rw [List.getElem?_toArray, List.append_assoc, List.getElem?_append_right (by simp; omega), List.getElem?_append_right (by simp; omega), List.getElem?_drop]
            have : off + i * sz + j + xs.length + (off + i * sz + q - (cur.toList.take (off + i * sz + j)).length - xs.length) = off + i * sz + q := by simp; omega
            rw [this]; simpa using hu
      · rename_i em
        obtain ⟨h3, h4⟩ := hL.get hm
        refine ⟨h3, RdC_of hnew fun q x hq => ?_⟩
        obtain ⟨u, hu, hx⟩ := h4.get q x hq
        refine ⟨u, ?_, hx.lasts T'.lasts⟩
        have hq' : q < sz := by rw [← h3]; exact (List.getElem?_eq_some_iff.1 hq).1
        rw [cell_of_row w b _ cur T (0, 0) hcur] at hu
        have hlt : off + m * sz + q < cur.size := (Array.getElem?_eq_some_iff.1 hu).1
        rcases Nat.lt_or_gt_of_ne em with h5 | h5
        · have : (i + 1) * sz ≤ m * sz := Nat.mul_le_mul_right _ h5
          rw [Nat.add_mul] at this
          rw [List.getElem?_toArray, List.append_assoc, List.getElem?_append_right (by simp; omega), List.getElem?_append_right (by simp; omega), List.getElem?_drop]
          have : off + i * sz + j + xs.length + (off + m * sz + q - (cur.toList.take (off + i * sz + j)).length - xs.length) = off + m * sz + q := by simp; omega
          rw [this]; simpa using hu
        · have : (m + 1) * sz ≤ i * sz := Nat.mul_le_mul_right _ h5
          rw [Nat.add_mul] at this
          rw [List.getElem?_toArray, List.append_assoc, List.getElem?_append_left (by simp; omega), List.getElem?_take, if_pos (by omega)]
          simpa using hu
end ops
end inv
end Go.Proofs.YtphmcgmblkbijaaVY
