/-
  VX: every operation that writes memory or makes it, or calls. By the session's own hand.
-/
import Derived.Test.YtgpnmifejgdipaaDoorVx8
set_option linter.unusedSectionVars false
set_option linter.unusedVariables false
set_option linter.unusedSimpArgs false
namespace Go.Proofs.YtgpnmifejgdipaaDoorVX
section
variable {P : Program} {Γ : Cx} {w w' : World} {X : Nat → Prop} {w0 : World} {B0 : Nat → Prop} [hGP : GPc X B0 w0] {σ : St} {a : Act} {ρ ρn : Hs} {gd : Option (Bool × Bool)} {Q : Exit → Act → World → Prop}

/-- a function with a body of its own -/
def Enters (P : Program) (f : FuncId) : Prop := ∃ fn, P.funcs[f]? = some fn ∧ fn.body.isNone = false ∧ (fn.name == "runtime.NumGoroutine") = false
theorem run_enter {f : FuncId} (h : Enters P f) (args : Array Value) : (callFunc f args).run P w = .ok (.enter f args) w := by
  obtain ⟨fn, h1, h2, h3⟩ := h
  have h3' : fn.name ≠ "runtime.NumGoroutine" := by simpa using h3
  have h2' : fn.body ≠ none := by intro e; rw [e] at h2; cases h2
  simp [callFunc, h1, h2', h3']

/-- a function that the model stands in for -/
def Ext (P : Program) (f : FuncId) (R : List S → S → List Reg → Prop) : Prop :=
  ∀ (X : Nat → Prop) (w : World) (args : Array Value) (ss : List S) (r : S) (new : List Reg), GP X w → (∀ b, X b → b < w.heap.size) → All2 (SRel [] X w) args.toList ss → R ss r new →
    ∃ v ρ w', (callFunc f args).run P w = .ok (.value v) w' ∧ SRel ρ (Av X ρ new) w' v r ∧ HpRel X ρ new w' ∧ w.heap.size ≤ w'.heap.size ∧ Str w w' ∧ (∀ b, b < w.heap.size → w'.heap[b]? = w.heap[b]?) ∧ ∀ b, Live ρ new b → w.heap.size ≤ b
def Snd (P : Program) (f : FuncId) (R : List S → S → List Reg → Prop) : Prop := (Ok P f R ∧ Enters P f) ∨ Ext P f R
theorem Inv.freeze (I : Inv X w0 B0 σ a w ρ) {h sz : Nat} {L : List (List D)} (hr : σ.hp[h]? = some (.row sz L)) : Inv X w0 B0 ⟨σ.t, σ.hp.set h (.frz sz L)⟩ a w ρ ∧ ∀ b, Live ρ (σ.hp.set h (.frz sz L)) b → Live ρ σ.hp b ∧ ∀ v, ρ[h]? = some v → blk v ≠ some b := by
  obtain ⟨v, hv, hR⟩ := I.hp.val hr
  have T := touchSet I (w' := w) (r' := .frz sz L) hr rfl hv rfl (Str.refl w) (fun b _ => .inl rfl)
  have hlt := (List.getElem?_eq_some_iff.1 hr).1
  have hlive : ∀ b, Live ρ (σ.hp.set h (.frz sz L)) b → Live ρ σ.hp b ∧ ∀ v, ρ[h]? = some v → blk v ≠ some b := by
    rintro b ⟨h', r, v', h1, h2, h3, h4⟩
    by_cases e : h' = h
    · subst e
      rw [List.getElem?_set_self hlt] at h1; cases h1; cases h2
    · rw [List.getElem?_set_ne (Ne.symm e)] at h1
      refine ⟨⟨h', r, v', h1, h2, h3, h4⟩, fun v0 hv0 hb => ?_⟩
      exact e (I.hp.dis h' h r _ v' v0 b h1 hr h2 rfl h3 hv0 h4 hb)
  refine ⟨?_, hlive⟩
  have := I.touch T ?_
  · rwa [map_sloseO_none] at this
  · obtain ⟨x, c, rfl, hc, hz, hR⟩ := hR
    show Rd _ w _ (.sl sz L)
    simp only [Rd]
    refine ⟨x, c, rfl, hc, ?_⟩
    cases c with
    | zero => exact .inl (List.length_eq_zero_iff.1 (by omega))
    | succ c =>
      rcases hR with hR | ⟨b, off, Tb, cur, rfl, hcur, _, hL⟩
      · cases hR
      · refine .inr ⟨b, off, rfl, ⟨(Array.getElem?_eq_some_iff.1 hcur).1, ?_⟩, RdL.rows T.lasts rfl hL⟩
        rintro (hX | hl)
        · exact I.hp.fre b ⟨h, _, _, hr, rfl, hv, rfl⟩ hX
        · exact (hlive b hl).2 _ hv rfl
/-- blocks that are lent -/
def Lent (ρ : Hs) (l : List (Nat × Nat × List (List D))) (b : Nat) : Prop := ∃ x ∈ l, ∃ v, ρ[x.1]? = some v ∧ blk v = some b
def Shown (X : Nat → Prop) (ρ : Hs) (hp : List Reg) (l : List (Nat × Nat × List (List D))) (b : Nat) : Prop := Av X ρ hp b ∧ ¬ Lent ρ l b
theorem Shown.less {l l' : List (Nat × Nat × List (List D))} (h : ∀ x ∈ l, x ∈ l') : ∀ b, Shown X ρ σ.hp l' b → Shown X ρ σ.hp l b := fun b hb => ⟨hb.1, fun ⟨x, hx, h'⟩ => hb.2 ⟨x, h x hx, h'⟩⟩
theorem row_shown (I : Inv X w0 B0 σ a w ρ) {h sz : Nat} {L : List (List D)} (hr : σ.hp[h]? = some (.row sz L)) {v : Value} (hv : ρ[h]? = some v) : Rd (Shown X ρ σ.hp [(h, sz, L)]) w v (.sl sz L) := by
  obtain ⟨v', hv', hR⟩ := I.hp.val hr
  rw [hv] at hv'; cases hv'
  obtain ⟨x, c, rfl, hc, hz, hR⟩ := hR
  simp only [Rd]
  refine ⟨x, c, rfl, hc, ?_⟩
  cases c with
  | zero => exact .inl (List.length_eq_zero_iff.1 (by omega))
  | succ c =>
    rcases hR with hR | ⟨b, off, Tb, cur, rfl, hcur, _, hL⟩
    · cases hR
    · exact .inr ⟨b, off, rfl, ⟨(Array.getElem?_eq_some_iff.1 hcur).1, fun h' => h'.2 ⟨_, List.mem_cons_self .., _, hv, rfl⟩⟩, RdL.mono (fun b h => h.1) hL⟩
theorem lendC_ok (I : Inv X w0 B0 σ a w ρ) {c : C} {u : Value} {k : C → List (Nat × Nat × List (List D)) → Prop} (hc : CRel ρ (Av X ρ σ.hp) w u c) (h : lendC σ.hp c k) :
    ∃ c' l, k c' l ∧ CRel [] (Shown X ρ σ.hp l) w u c' ∧ ∀ x ∈ l, σ.hp[x.1]? = some (.row x.2.1 x.2.2) := by
  unfold lendC at h
  split at h
  · exact ⟨_, _, h, Rd.lasts (Lasts.mono fun b h => h.1) hc, by simp⟩
  · obtain ⟨a', rfl⟩ := hc
    exact ⟨_, _, h, show Rd _ w _ (.sl _ []) by simp only [Rd]; exact ⟨a', 0, rfl, Nat.le_refl _, .inl trivial⟩, by simp⟩
  · obtain ⟨b, off, h1, h2, h3⟩ := hc
    exact ⟨_, _, h, ⟨b, off, h1, (Lasts.mono fun b h => h.1).at h2, RdC.lasts (Lasts.mono fun b h => h.1) h2.2 h3⟩, by simp⟩
  · obtain ⟨vs, h1, h2⟩ := hc
    exact ⟨_, _, h, ⟨vs, h1, by generalize vs.toList = l at *; cases h2; exact .nil⟩, by simp⟩
  · rename_i hd
    replace h := nthK_ok h
    obtain ⟨r, hr, h⟩ := h
    split at h
    · rename_i sz L
      exact ⟨_, _, h, row_shown I hr hc.1, by simpa using hr⟩
    · rename_i sz L
      obtain ⟨v, hv, hR⟩ := I.hp.val hr
      obtain rfl : v = u := by have := hc.1; rw [hv] at this; exact Option.some.inj this
      exact ⟨_, _, h, Rd.lasts (Lasts.mono fun b h => h.1) (show Rd _ w _ (.sl sz L) from hR), by simp⟩
    · exact h.elim
  · rename_i hd sz lo n
    replace h := nthK_ok h
    obtain ⟨r, hr, h⟩ := h
    split at h
    · rename_i sz' L
      replace h := tt_ok h
      obtain ⟨hq, h⟩ := h
      obtain rfl := Nat.eq_of_beq_eq_true hq
      refine ⟨_, _, h, ?_, by simpa using hr⟩
      obtain ⟨a0, l0, c0, hρ, hlo, hl0, a', hv, ha'⟩ := hc
      have hsh := row_shown I hr hρ
      simp only [Rd] at hsh
      obtain ⟨a1, c1, he, _, hsh⟩ := hsh
      cases he
      have hlen : ((L.drop lo).take n).length = n := by simp; omega
      show Rd _ w _ (.sl sz ((L.drop lo).take n))
      simp only [Rd]
      refine ⟨a', c0 - lo, by rw [hlen]; exact hv, by rw [hlen]; omega, ?_⟩
      by_cases hn : n = 0
      · subst hn; exact .inl (by simp)
      · rcases hsh with rfl | ⟨b, off, rfl, hb, hL⟩
        · simp at hlo; omega
        · rcases ha' with e | rfl
          · omega
          · exact .inr ⟨b, off + lo * sz, by simp [Addr.add_lit], hb, (hL.drop lo).take n⟩
    · exact h.elim
  · exact h.elim
theorem CRel.less {A A' : Nat → Prop} (hA : ∀ b, A' b → A b) {ρ : Hs} {u : Value} {c : C} (h : CRel ρ A w u c) : CRel ρ A' w u c := CRel.lasts' (Lasts.mono hA) (Keeps.refl ρ) rfl h
theorem lendCs_ok (I : Inv X w0 B0 σ a w ρ) {cs : List C} : ∀ {us : List Value} {k : List C → List (Nat × Nat × List (List D)) → Prop}, All2 (fun u c => Flat u ∧ CRel ρ (Av X ρ σ.hp) w u c) us cs → lendCs σ.hp cs k →
    ∃ cs' l, k cs' l ∧ All2 (fun u c => Flat u ∧ CRel [] (Shown X ρ σ.hp l) w u c) us cs' ∧ ∀ x ∈ l, σ.hp[x.1]? = some (.row x.2.1 x.2.2) := by
  induction cs with
  | nil => intro us k hc h; cases hc; exact ⟨_, _, h, .nil, by simp⟩
  | cons c cs ih =>
    intro us k hc h
    cases hc with
    | cons hu hc =>
    obtain ⟨c', l, h, h1, h2⟩ := lendC_ok I hu.2 h
    obtain ⟨cs', l', h, h3, h4⟩ := ih hc h
    refine ⟨_, _, appK_ok h, .cons ⟨hu.1, h1.less (Shown.less fun x hx => List.mem_append_left _ hx)⟩ (h3.imp fun _ _ h => ⟨h.1, h.2.less (Shown.less fun x hx => List.mem_append_right _ hx)⟩), fun x hx => (List.mem_append.1 hx).elim (h2 x) (h4 x)⟩
theorem SRel.less {A A' : Nat → Prop} (hA : ∀ b, A' b → A b) {ρ : Hs} {u : Value} {s : S} (h : SRel ρ A w u s) : SRel ρ A' w u s := SRel.lasts (inv := none) (Lasts.mono hA) (Keeps.refl ρ) h
theorem lendSs_ok (I : Inv X w0 B0 σ a w ρ) {ss : List S} : ∀ {us : List Value} {k : List S → List (Nat × Nat × List (List D)) → Prop}, All2 (SRel ρ (Av X ρ σ.hp) w) us ss → lendSs σ.hp ss k →
    ∃ ss' l, k ss' l ∧ All2 (SRel [] (Shown X ρ σ.hp l) w) us ss' ∧ ∀ x ∈ l, σ.hp[x.1]? = some (.row x.2.1 x.2.2) := by
  induction ss with
  | nil => intro us k hc h; cases hc; exact ⟨_, _, h, .nil, by simp⟩
  | cons s ss ih =>
    intro us k hc h
    cases hc with
    | cons hu hc =>
    unfold lendSs at h
    split at h
    · rename_i heq; cases heq
    · rename_i c ss0 heq
      cases heq
      obtain ⟨c', l, h, h1, h2⟩ := lendC_ok I hu h
      obtain ⟨cs', l', h, h3, h4⟩ := ih hc h
      exact ⟨_, _, appK_ok h, .cons (SRel.less (s := .one c') (Shown.less fun x hx => List.mem_append_left _ hx) h1) (h3.imp fun _ _ h => h.less (Shown.less fun x hx => List.mem_append_right _ hx)), fun x hx => (List.mem_append.1 hx).elim (h2 x) (h4 x)⟩
    · rename_i cs0 ss0 heq
      cases heq
      obtain ⟨us', hv, hu⟩ := hu
      obtain ⟨c', l, h, h1, h2⟩ := lendCs_ok I hu h
      obtain ⟨cs', l', h, h3, h4⟩ := ih hc h
      exact ⟨_, _, appK_ok h, .cons (SRel.less (s := .v (.ag c')) (Shown.less fun x hx => List.mem_append_left _ hx) ⟨us', hv, h1⟩) (h3.imp fun _ _ h => h.less (Shown.less fun x hx => List.mem_append_right _ hx)), fun x hx => (List.mem_append.1 hx).elim (h2 x) (h4 x)⟩
    · exact h.elim
theorem plainC_ok {A A' : Nat → Prop} {ρ ρ' : Hs} {u : Value} {c : C} (hp : plainC c = true) (h : CRel ρ A w u c) : CRel ρ' A' w u c := by
  cases c with
  | d x => cases x <;> simp [plainC] at hp <;> (simp only [CRel, Rd] at h ⊢; exact h)
  | _ => simp [plainC] at hp
theorem plainV_ok {A A' : Nat → Prop} {ρ ρ' : Hs} {u : Value} {x : V1} (hp : plainV x = true) (h : V1Rel ρ A w u x) : V1Rel ρ' A' w u x := by
  cases x with
  | c x => exact plainC_ok hp h
  | ag l =>
    obtain ⟨cs, hv, h⟩ := h
    refine ⟨cs, hv, ?_⟩
    have hall : ∀ c ∈ l, plainC c = true := by simpa [plainV] using hp
    clear hp
    generalize cs.toList = us at h
    induction h with
    | nil => exact .nil
    | cons r _ ih => exact .cons ⟨r.1, plainC_ok (hall _ (List.mem_cons_self ..)) r.2⟩ (ih fun c hc => hall c (List.mem_cons_of_mem _ hc))
  | cnd _ _ _ => simp [plainV] at hp
theorem plainS_ok {A A' : Nat → Prop} {ρ ρ' : Hs} {u : Value} {s : S} (hp : plainS s = true) (h : SRel ρ A w u s) : SRel ρ' A' w u s := by
  cases s with
  | v x => exact plainV_ok hp h
  | tup l =>
    obtain ⟨vs, hv, h⟩ := h
    refine ⟨vs, hv, ?_⟩
    have hall : ∀ c ∈ l, plainV c = true := by simpa [plainS] using hp
    clear hp
    generalize vs.toList = us at h
    induction h with
    | nil => exact .nil
    | cons r _ ih => exact .cons (plainV_ok (hall _ (List.mem_cons_self ..)) r) (ih fun c hc => hall c (List.mem_cons_of_mem _ hc))
/-- the world went on, and nothing that was is changed -/
theorem Inv.goes (I : Inv X w0 B0 σ a w ρ) (hg : w.heap.size ≤ w'.heap.size) (hst : Str w w') (hsame : ∀ b, b < w.heap.size → w'.heap[b]? = w.heap[b]?) : Inv X w0 B0 σ a w' ρ := by
  have hL : Lasts (Av X ρ σ.hp) (Av X ρ σ.hp) w w' := ⟨hg, fun b hb _ => hsame b hb, fun b hb h => h⟩
  have hK := Keeps.refl ρ
  exact ⟨⟨I.hp.len, fun h r v h1 h3 => by
      have hR := I.hp.reg h r v h1 h3
      exact RegRel.lasts (inv := none) hL hK hR fun hl b hb => hsame b (hR.block hl hb), I.hp.dis, I.hp.fre⟩, fun i s h => (I.t i s h).lasts hL hK, I.sz, I.de, Nat.le_trans I.gr hg,
    fun b hb hB => (hsame b (Nat.lt_of_lt_of_le hb I.gr)).trans (I.fr b hb hB), I.ow, I.xs, I.st.trans hst⟩
/-- lent rows are no longer written -/
theorem Inv.freezes {l : List (Nat × Nat × List (List D))} : ∀ {σ : St}, Inv X w0 B0 σ a w ρ → (∀ x ∈ l, σ.hp[x.1]? = some (.row x.2.1 x.2.2) ∨ (σ.hp[x.1]? = some (.frz x.2.1 x.2.2) ∧ ∀ b, Live ρ σ.hp b → ∀ v, ρ[x.1]? = some v → blk v ≠ some b)) →
    Inv X w0 B0 ⟨σ.t, (frzs l).foldl (fun hp u => hp.set u.1 u.2) σ.hp⟩ a w ρ ∧ ∀ b, Live ρ ((frzs l).foldl (fun hp u => hp.set u.1 u.2) σ.hp) b → Live ρ σ.hp b ∧ ¬ Lent ρ l b := by
  induction l with
  | nil => intro σ I _; exact ⟨I, fun b h => ⟨h, fun ⟨x, hx, _⟩ => by cases hx⟩⟩
  | cons y l ih =>
    intro σ I h
    obtain ⟨hd, sz, L⟩ := y
    have step : Inv X w0 B0 ⟨σ.t, σ.hp.set hd (.frz sz L)⟩ a w ρ ∧ ∀ b, Live ρ (σ.hp.set hd (.frz sz L)) b → Live ρ σ.hp b ∧ ∀ v, ρ[hd]? = some v → blk v ≠ some b := by
      rcases h (hd, sz, L) (List.mem_cons_self ..) with h | ⟨h1, h2⟩
      · exact I.freeze h
      · have h1 : σ.hp[hd]? = some (.frz sz L) := h1
        have : σ.hp.set hd (.frz sz L) = σ.hp := by
          apply List.ext_getElem?
          intro j
          rw [List.getElem?_set]
          split
          · rename_i e; subst e; split
            · exact h1.symm
            · rename_i hn; exact absurd (List.getElem?_eq_some_iff.1 h1).1 hn
          · rfl
        rw [this]
        exact ⟨I, fun b hb => ⟨hb, h2 b hb⟩⟩
    obtain ⟨I', hl'⟩ := step
    have hlt : hd < σ.hp.length := by
      rcases h (hd, sz, L) (List.mem_cons_self ..) with h | ⟨h, _⟩ <;> exact (List.getElem?_eq_some_iff.1 h).1
    obtain ⟨I2, hl2⟩ := ih (σ := ⟨σ.t, σ.hp.set hd (.frz sz L)⟩) I' (by
      intro x hx
      by_cases e : x.1 = hd
      · refine .inr ⟨?_, fun b hb v hv => (hl' b hb).2 v (by rw [← e]; exact hv)⟩
        have h0 := h (hd, sz, L) (List.mem_cons_self ..)
        have h1 := h x (List.mem_cons_of_mem _ hx)
        simp only [e] at h1
        have heq : sz = x.2.1 ∧ L = x.2.2 := by
          rcases h0 with h0 | ⟨h0, _⟩ <;> rcases h1 with h1 | ⟨h1, _⟩ <;> (rw [h0] at h1; cases h1 <;> exact ⟨rfl, rfl⟩)
        rw [e, ← heq.1, ← heq.2, List.getElem?_set_self hlt]
      · rcases h x (List.mem_cons_of_mem _ hx) with h | ⟨h1, h2⟩
        · left; rw [List.getElem?_set_ne (Ne.symm e)]; exact h
        · right; rw [List.getElem?_set_ne (Ne.symm e)]; exact ⟨h1, fun b hb => h2 b (hl' b hb).1⟩)
    refine ⟨I2, fun b hb => ?_⟩
    have h3 := hl2 b hb
    refine ⟨(hl' b h3.1).1, ?_⟩
    rintro ⟨x, hx, v, hv, hbv⟩
    cases hx with
    | head => exact (hl' b h3.1).2 v hv hbv
    | tail _ hx => exact h3.2 ⟨x, hx, v, hv, hbv⟩

variable (hT : TyOk P Γ.ty) (hΓ : ∀ f R, Γ.fns f = some R → Snd P f R) (hg : GdOk gd)
theorem foldl_frzs_len (l : List (Nat × Nat × List (List D))) : ∀ (hp : List Reg), ((frzs l).foldl (fun hp u => hp.set u.1 u.2) hp).length = hp.length := by
  induction l with
  | nil => intro hp; rfl
  | cons x l ih => intro hp; exact (ih _).trans (by simp)
include hT hΓ hg in
theorem call_wp (I : Inv X w0 B0 σ a w ρ) {dst : Option Tmp} {ty : TypeId} {pos : String} {after : Array Edge} {guard : Option (Nat × Bool)} {x : Operand} {args : Array Operand} {argTypes : Array TypeId} {K : St → Prop}
    (h : evM Γ gd ⟨dst, .call ⟨.value x, args, argTypes⟩, ty, pos, after, guard⟩ σ.t σ.hp (fun s upd new inv => σ.apply dst s upd new inv K)) {next : Act → World → Prop}
    (hn : ∀ σ' a' w' ρ', K σ' → Inv X w0 B0 σ' a' w' ρ' → next a' w') : (⟨dst, .call ⟨.value x, args, argTypes⟩, ty, pos, after, guard⟩ : Oper).wp P a w next Q := by
  unfold evM at h
  simp only [] at h
  replace h := operand_ok hT I.t I.gla hg h
  obtain ⟨s, h, hs0⟩ := h
  split at h
  rotate_left
  · exact h.elim
  rename_i f
  obtain ⟨vs, hx0, hvs⟩ : CRel ρ _ w (a.eval x) (.fn f []) := hs0
  obtain rfl : vs = #[] := by
    obtain ⟨vs⟩ := vs
    cases vs with
    | nil => rfl
    | cons _ _ => cases hvs
  replace h := operands_ok hT I.t I.gla hg h
  obtain ⟨ss, h, hss⟩ := h
  split at h
  · exact h.elim
  · rename_i R hR
    have hsnd := hΓ f R hR
    replace h := lendSs_ok I hss h
    obtain ⟨ss', lent, ⟨r, new, hRr, h⟩, hss', hlent⟩ := h
    replace h := lenK_ok h
    rw [Nat.zero_add] at h
    have hXw : ∀ b, Shown X ρ σ.hp lent b → b < w.heap.size := by
      rintro b ⟨h | h, _⟩
      · exact Nat.lt_of_lt_of_le (I.xs b h) I.gr
      · exact I.hp.lt h
    have hGs : GP (Shown X ρ σ.hp lent) w := by
      refine ⟨fun g l hg => ?_⟩
      obtain ⟨h1, h2, h3, h4⟩ := hGP.gl g l hg
      refine ⟨Nat.lt_of_lt_of_le h1 I.gr, ?_, fun h => h, RdC.any (I.fr g h1 h3) h4 (globs_flat hg)⟩
      rintro ⟨hx | hl, _⟩
      · exact h2 hx
      · rcases I.ow g hl with h | h
        · exact h3 h
        · omega
    suffices fin : ∀ v w', (∃ ρn, SRel ρn (Av (Shown X ρ σ.hp lent) ρn new) w' v r ∧ HpRel (Shown X ρ σ.hp lent) ρn new w' ∧ w.heap.size ≤ w'.heap.size ∧ Str w w' ∧ (∀ b, b < w.heap.size → w'.heap[b]? = w.heap[b]?) ∧ ∀ b, Live ρn new b → w.heap.size ≤ b) → next (a.put dst v) w' by
      rcases hsnd with ⟨hok, hent⟩ | hext
      · have hrun : (execOp a.eval ⟨dst, .call ⟨.value x, args, argTypes⟩, ty, pos, after, guard⟩).run P w = .ok (.enter f (args.map a.eval)) w := by
          have := run_enter (w := w) hent (args.map a.eval)
          simp [execOp, resolve, hx0, Deferred.ofValue, invoke, this]
        unfold Oper.wp
        rw [hrun]
        show Calls P f (args.map a.eval) w _
        refine (hok (Shown X ρ σ.hp lent) w (args.map a.eval) ss' r new hGs hXw (by simpa using hss') hRr).mono ?_
        rintro e w' ⟨v, ρn, rfl, h⟩
        exact fin v w' ⟨ρn, h⟩
      · obtain ⟨v, ρn, w', hrun, h⟩ := hext (Shown X ρ σ.hp lent) w (args.map a.eval) ss' r new hGs hXw (by simpa using hss') hRr
        exact wp_value (by simp [execOp, resolve, hx0, Deferred.ofValue, invoke, hrun]) (fin v w' ⟨ρn, h⟩)
    rintro v w' ⟨ρn, hs, hh, hgr, hst, hsame, hnl⟩
    have merged : ∀ (σ1 : St), Inv X w0 B0 σ1 a w ρ → σ1.t = σ.t → σ1.hp.length = σ.hp.length → (∀ b, Live ρ σ1.hp b → Live ρ σ.hp b ∧ ¬ Lent ρ lent b) → K (afterD σ.t (σ1.hp ++ new.map (Reg.shift σ.hp.length)) dst (r.shift σ.hp.length)) → next (a.put dst v) w' := by
      intro σ1 I1 ht hl1 hlv hk
      have hX : ∀ b, Av X ρ σ1.hp b → Shown X ρ σ.hp lent b := by
        rintro b (hx | hl)
        · refine ⟨.inl hx, ?_⟩
          rintro ⟨x, hxm, v0, hv0, hb⟩
          exact I.hp.fre b ⟨x.1, _, v0, hlent x hxm, rfl, hv0, hb⟩ hx
        · exact ⟨.inr (hlv b hl).1, (hlv b hl).2⟩
      obtain ⟨I2, hs2⟩ := I1.merge hX hs hh hgr hst hsame hnl
      rw [hl1] at I2 hs2
      rw [ht] at I2
      exact hn _ _ _ _ hk (Inv.put (σ := ⟨σ.t, σ1.hp ++ new.map (Reg.shift σ.hp.length)⟩) I2 hs2)
    split at h
    · obtain ⟨_, _, hk⟩ := apply_ok h
      refine merged σ I rfl rfl (fun b hb => ⟨hb, by rintro ⟨x, hx, _⟩; cases hx⟩) ?_
      simpa only [St.after, List.foldl_nil, map_loseO_none, map_sloseO_none] using hk
    · rename_i hpl
      obtain ⟨_, _, hk⟩ := apply_ok h
      have I' := I.goes hgr hst hsame
      have := Inv.look I' (dst := dst) (plainS_ok (ρ' := ρ) (A' := Av X ρ σ.hp) hpl hs)
      exact hn _ _ _ _ hk this
    · obtain ⟨_, _, hk⟩ := apply_ok h
      obtain ⟨I1, hlv⟩ := I.freezes (fun x hx => .inl (hlent x hx))
      refine merged _ I1 rfl (foldl_frzs_len _ σ.hp) hlv ?_
      simpa only [St.after, map_loseO_none, map_sloseO_none] using hk
end
end Go.Proofs.YtgpnmifejgdipaaDoorVX
