/-
  VY: calls: what is given, what is lent, what comes back. By the session's own hand.
-/
import Derived.Test.YtphmcgmblkbijaaVy7
set_option linter.unusedSectionVars false
set_option linter.unusedVariables false
set_option linter.unusedSimpArgs false
set_option linter.all false
set_option linter.unnecessarySimpa false
set_option linter.deprecated false
namespace Go.Proofs.YtphmcgmblkbijaaVY
section
variable {P : Program} {w w' : World} {X : Nat → Prop} {w0 : World} {B0 : Nat → Prop} [hGP : GPc X B0 w0] {σ : St} {a : Act} {ρ ρc : Hs}

/-- What is promised of a function: called with memory that is given to it, and with what is only read, it gives this value and leaves this memory, and nothing else that was is changed. -/
def Ok (P : Program) (f : FuncId) (R : List S → List Reg → S → List Reg → Prop) : Prop :=
  ∀ (X : Nat → Prop) (w : World) (args : Array Value) (ss : List S) (hp : List Reg) (ρ : Hs) (r : S) (out : List Reg), GP X w → (∀ b, X b → b < w.heap.size) → HpRel X ρ hp w → (∀ b, Live ρ hp b → ∀ g l, (g, l) ∈ globs → b ≠ g) → All2 (SRel ρ (Av X ρ hp) w) args.toList ss → R ss hp r out →
    Calls P f args w fun e w' => ∃ v ρ', e = .returned v ∧ SRel ρ' (Av X ρ' out) w' v r ∧ HpRel X ρ' out w' ∧ w.heap.size ≤ w'.heap.size ∧ Str w w' ∧ (∀ b, b < w.heap.size → ¬ Live ρ hp b → w'.heap[b]? = w.heap[b]?) ∧ ∀ b, Live ρ' out b → Live ρ hp b ∨ w.heap.size ≤ b

theorem Lasts.mono {A A' : Nat → Prop} {w : World} (h : ∀ b, A' b → A b) : Lasts A A' w w := ⟨Nat.le_refl _, fun _ _ _ => rfl, fun b _ => h b⟩
theorem CRel.less {A A' : Nat → Prop} (hA : ∀ b, A' b → A b) {ρ : Hs} {u : Value} {c : C} (h : CRel ρ A w u c) : CRel ρ A' w u c := CRel.lasts' (Lasts.mono hA) (Keeps.refl ρ) rfl h
theorem CapRel.less {A A' : Nat → Prop} (hA : ∀ b, A' b → A b) {ρ : Hs} {u : Value} {c : Cap} (h : CapRel ρ A w u c) : CapRel ρ A' w u c := CapRel.lasts (inv := none) (Lasts.mono hA) (Keeps.refl ρ) h
theorem SRel.less {A A' : Nat → Prop} (hA : ∀ b, A' b → A b) {ρ : Hs} {u : Value} {s : S} (h : SRel ρ A w u s) : SRel ρ A' w u s := SRel.lasts (inv := none) (Lasts.mono hA) (Keeps.refl ρ) h
theorem RdL.mono {A A' : Nat → Prop} (hA : ∀ b, A' b → A b) {b off sz : Nat} {L : List (List D)} (h : RdL A w b off sz L) : RdL A' w b off sz L := RdL.rows (Lasts.mono hA) rfl h

/-! what is told otherwise -/
section back
variable {A A' : Nat → Prop} {ρ ρ' : Hs} {f : Nat → Option Nat} (hA : ∀ b, A' b → A b) (hf : ∀ (j h : Nat) (v : Value), f j = some h → ρ[j]? = some v → ρ'[h]? = some v)
include hA hf
theorem CapRel.back {v : Value} {c : Cap} (h : CapRel ρ A w v c) : CapRel ρ' A' w v (c.back f) := by
  cases c <;> simp only [CapRel] at h <;> simp only [Cap.back]
  case ptr x =>
    obtain ⟨b, h1, h2⟩ := h
    split
    · rename_i y hy; exact ⟨b, hf _ _ _ hy h1, h2⟩
    · trivial
  case own x =>
    split
    · rename_i y hy; exact ⟨hf _ _ _ hy h.1, h.2⟩
    · trivial
  case pel => exact CapRel.less hA (ρ := ρ) (c := .pel _) h
  case d => exact CapRel.less hA (ρ := ρ) (c := .d _) h
  case emp => exact h
  case fn0 => exact h
  case junk => trivial
theorem CRel.back {v : Value} {c : C} (h : CRel ρ A w v c) : CRel ρ' A' w v (c.back f) := by
  cases c <;> simp only [CRel] at h <;> simp only [C.back]
  case d => exact CRel.less hA (ρ := ρ) (c := .d _) h
  case emp => exact h
  case own x =>
    split
    · rename_i y hy; exact ⟨hf _ _ _ hy h.1, h.2⟩
    · trivial
  case win x _ _ _ =>
    obtain ⟨a, l, c, h1, h2⟩ := h
    split
    · rename_i y hy; exact ⟨a, l, c, hf _ _ _ hy h1, h2⟩
    · trivial
  case ptr x _ =>
    obtain ⟨b, h1, h2⟩ := h
    split
    · rename_i y hy; exact ⟨b, hf _ _ _ hy h1, h2⟩
    · trivial
  case prow x _ _ _ =>
    obtain ⟨b, off, l, c, h1, h2⟩ := h
    split
    · rename_i y hy; exact ⟨b, off, l, c, hf _ _ _ hy h1, h2⟩
    · trivial
  case pel => exact CRel.less hA (ρ := ρ) (c := .pel _) h
  case fn => obtain ⟨vs, hv, h⟩ := h; exact ⟨vs, hv, h.mapR fun _ _ h => CapRel.back hA hf h⟩
  case nq => exact h
  case town x =>
    obtain ⟨us, h1, h2⟩ := h
    split
    · rename_i y hy; exact ⟨us, hf _ _ _ hy h1, h2⟩
    · trivial
  case sub x i =>
    obtain ⟨u, us, h1, h2⟩ := h
    split
    · rename_i y hy; exact ⟨u, us, hf _ _ _ hy h1, h2⟩
    · trivial
  case junk => trivial
theorem V1Rel.back {v : Value} : ∀ {x : V1}, V1Rel ρ A w v x → V1Rel ρ' A' w v (x.back f)
  | .c _, h => CRel.back hA hf h
  | .ag _, ⟨cs, hv, h⟩ => ⟨cs, hv, h.mapR fun _ _ h => ⟨h.1, h.2.back hA hf⟩⟩
  | .cnd _ _ _, h => ⟨fun e => V1Rel.back (h.1 e), h.2⟩
theorem SRel.back {v : Value} {s : S} (h : SRel ρ A w v s) : SRel ρ' A' w v (s.back f) := by
  cases s with
  | v x => exact V1Rel.back hA hf h
  | tup l => obtain ⟨vs, hv, h⟩ := h; exact ⟨vs, hv, h.mapR fun _ _ h => V1Rel.back hA hf h⟩
theorem TailAt.back {b : Nat} : ∀ {cs : List C} {off : Nat}, TailAt ρ A w b off cs → TailAt ρ' A' w b off (cs.map (C.back f))
  | [], _, _ => trivial
  | _ :: _, _, ⟨⟨u, hu, hf', hr⟩, h⟩ => ⟨⟨u, hu, hf', CRel.back hA hf hr⟩, TailAt.back h⟩
theorem RegRel.back {v : Value} {r : Reg} (h : RegRel ρ A w v r) : RegRel ρ' A' w v (r.back f) := by
  cases r with
  | rowt sz L cs =>
    obtain ⟨x, c, h1, h2, h3, h4, b, off, T, vs, h5, h6, h7, h8, h9⟩ := h
    exact ⟨x, c, h1, h2, h3, by rw [List.length_map]; exact h4, b, off, T, vs, h5, h6, h7, RdL.mono hA h8, TailAt.back hA hf h9⟩
  | box cs => obtain ⟨b, T, vs, h1, h2, h3⟩ := h; exact ⟨b, T, vs, h1, h2, h3.mapR fun _ _ h => ⟨h.1, h.2.back hA hf⟩⟩
  | row sz L =>
    obtain ⟨x, c, h1, h2, h3, h4⟩ := h
    exact ⟨x, c, h1, h2, h3, h4.imp id fun ⟨b, off, T, vs, h5, h6, h7, h8⟩ => ⟨b, off, T, vs, h5, h6, h7, RdL.mono hA h8⟩⟩
  | frz sz L => exact Rd.lasts (Lasts.mono hA) h
  | mem u c =>
    rcases h with h | ⟨x, rfl, h⟩ | ⟨x, u0, us, us', rfl, rfl, h⟩
    · exact .inl (CRel.back hA hf h)
    · show MRel _ _ _ _ (C.back f (.own x))
      simp only [C.back]
      split
      · rename_i y hy; exact .inr (.inl ⟨y, rfl, hf _ _ _ hy h⟩)
      · exact .inl trivial
    · show MRel _ _ _ _ (C.back f (.town x))
      simp only [C.back]
      split
      · rename_i y hy; exact .inr (.inr ⟨y, u0, us, us', rfl, rfl, hf _ _ _ hy h⟩)
      · exact .inl trivial
  | mapd M =>
    obtain ⟨b, es, clock, hv, hb, hM, hn⟩ := h
    exact ⟨b, es, clock, hv, hb, hM.imp fun _ _ h => ⟨h.1, h.2.lasts (Lasts.mono hA)⟩, hn⟩
  | mapr sz M =>
    obtain ⟨b, es, clock, us, rfl, hb, hM, hn, hd⟩ := h
    exact ⟨b, es, clock, us, rfl, hb, hM.lasts (Lasts.mono hA) (fun _ _ _ _ => rfl), hn, hd⟩
  | gone => trivial
end back
theorem live_back (f : Nat → Option Nat) (r : Reg) : (r.back f).live = r.live := by cases r <;> rfl

/-! what holds nothing that could lie in memory that is lent -/
theorem nsl_rd {A A' : Nat → Prop} {u : Value} {x : D} (hx : nslB x = true) (h : Rd A w u x) : Rd A' w u x := by
  cases x <;> simp [nslB] at hx <;> (simp only [Rd] at h ⊢; exact h)
theorem freeC_ok {A A' : Nat → Prop} {ρ : Hs} {u : Value} {c : C} (hp : freeC c = true) (h : CRel ρ A w u c) : CRel ρ A' w u c := by
  cases c <;> simp [freeC] at hp
  case d x => exact nsl_rd (show nslB x = true from hp) h
  all_goals exact h
theorem freeV_ok {A A' : Nat → Prop} {ρ : Hs} {u : Value} {x : V1} (hp : freeV x = true) (h : V1Rel ρ A w u x) : V1Rel ρ A' w u x := by
  cases x with
  | c x => exact freeC_ok hp h
  | ag l =>
    obtain ⟨cs, hv, h⟩ := h
    refine ⟨cs, hv, ?_⟩
    have hall : ∀ c ∈ l, freeC c = true := by simpa [freeV] using hp
    clear hp
    generalize cs.toList = us at h
    induction h with
    | nil => exact .nil
    | cons r _ ih => exact .cons ⟨r.1, freeC_ok (hall _ (List.mem_cons_self ..)) r.2⟩ (ih fun c hc => hall c (List.mem_cons_of_mem _ hc))
  | cnd _ _ _ => simp [freeV] at hp
theorem freeS_ok {A A' : Nat → Prop} {ρ : Hs} {u : Value} {s : S} (hp : freeS s = true) (h : SRel ρ A w u s) : SRel ρ A' w u s := by
  cases s with
  | v x => exact freeV_ok hp h
  | tup l =>
    obtain ⟨vs, hv, h⟩ := h
    refine ⟨vs, hv, ?_⟩
    have hall : ∀ c ∈ l, freeV c = true := by simpa [freeS] using hp
    clear hp
    generalize vs.toList = us at h
    induction h with
    | nil => exact .nil
    | cons r _ ih => exact .cons (freeV_ok (hall _ (List.mem_cons_self ..)) r) (ih fun c hc => hall c (List.mem_cons_of_mem _ hc))
theorem freeRdC {A A' : Nat → Prop} {b : Nat} : ∀ {l : List D} {off : Nat}, (∀ x ∈ l, nslB x = true) → RdC A w b off l → RdC A' w b off l
  | [], _, _, _ => by simp only [RdC]
  | x :: l, off, hn, h => by
    simp only [RdC] at h ⊢
    obtain ⟨⟨v, hv, hx⟩, h⟩ := h
    exact ⟨⟨v, hv, nsl_rd (hn _ (List.mem_cons_self ..)) hx⟩, freeRdC (fun y hy => hn y (List.mem_cons_of_mem _ hy)) h⟩
theorem freeRdL {A A' : Nat → Prop} {b sz : Nat} : ∀ {L : List (List D)} {off : Nat}, (∀ e ∈ L, ∀ x ∈ e, nslB x = true) → RdL A w b off sz L → RdL A' w b off sz L
  | [], _, _, _ => by simp only [RdL]
  | e :: L, off, hn, h => by
    simp only [RdL] at h ⊢
    exact ⟨h.1, freeRdC (hn _ (List.mem_cons_self ..)) h.2.1, freeRdL (fun y hy => hn y (List.mem_cons_of_mem _ hy)) h.2.2⟩
theorem freeR_ok {A A' : Nat → Prop} {ρ : Hs} {u : Value} {r : Reg} (hp : FreeR r) (h : RegRel ρ A w u r) : RegRel ρ A' w u r := by
  cases r with
  | box cs =>
    obtain ⟨b, T, vs, h1, h2, h3⟩ := h
    have hall : ∀ c ∈ cs, freeC c = true := by simpa [FreeR] using hp
    refine ⟨b, T, vs, h1, h2, ?_⟩
    generalize vs.toList = us at h3
    clear h1 h2 hp
    induction h3 with
    | nil => exact .nil
    | cons r _ ih => exact .cons ⟨r.1, freeC_ok (hall _ (List.mem_cons_self ..)) r.2⟩ (ih fun c hc => hall c (List.mem_cons_of_mem _ hc))
  | row sz L =>
    obtain ⟨x, c, h1, h2, h3, h4⟩ := h
    exact ⟨x, c, h1, h2, h3, h4.imp id fun ⟨b, off, T, vs, h5, h6, h7, h8⟩ => ⟨b, off, T, vs, h5, h6, h7, freeRdL hp h8⟩⟩
  | frz sz L => exact hp.elim
  | rowt sz L cs => exact hp.elim
  | mem u c => exact h.imp (fun h => freeC_ok (A := A) hp h) id
  | mapd M =>
    obtain ⟨b, es, clock, hv, hb, hM, hn⟩ := h
    refine ⟨b, es, clock, hv, hb, ?_, hn⟩
    replace hp : ∀ p ∈ M, nslB p.2 = true := hp
    generalize es.toList = el at hM
    clear hn hb
    induction hM with
    | nil => exact .nil
    | cons r _ ih => exact .cons ⟨r.1, nsl_rd (hp _ (List.mem_cons_self ..)) r.2⟩ (ih fun p h => hp p (List.mem_cons_of_mem _ h))
  | mapr sz M =>
    obtain ⟨b, es, clock, us, rfl, hb, hM, hn, hd⟩ := h
    refine ⟨b, es, clock, us, rfl, hb, ?_, hn, hd⟩
    replace hp : ∀ p ∈ M, ∀ L, p.2 = some L → ∀ e ∈ L, ∀ x ∈ e, nslB x = true := hp
    generalize es.toList = el at hM
    clear hn hb hd
    induction hM with
    | nil => exact .nil
    | @cons e es u us k r M hk hf hr _ ih =>
      refine .cons hk hf ?_ (ih fun p h => hp p (List.mem_cons_of_mem _ h))
      cases r with
      | none => exact hr
      | some L =>
        obtain ⟨h0, x, c, h1, h2, h3, h4⟩ := hr
        exact ⟨h0, x, c, h1, h2, h3, h4.imp id fun ⟨b, off, T, vs, h5, h6, h7, h8⟩ => ⟨b, off, T, vs, h5, h6, h7, freeRdL (hp _ (List.mem_cons_self ..) L rfl) h8⟩⟩
  | gone => trivial
theorem FreeRs_ok {l : List Reg} {p : Prop} (h : FreeRs l p) : (∀ r ∈ l, FreeR r) ∧ p := by
  induction l with
  | nil => exact ⟨by simp, h⟩
  | cons r l ih =>
    obtain ⟨h1, h2⟩ := h
    obtain ⟨h3, h4⟩ := ih h2
    exact ⟨by intro x hx; cases hx with
      | head => exact h1
      | tail _ hx => exact h3 x hx, h4⟩

/-! giving and lending -/
theorem posK_ok {h : Nat} {l : List Nat} : ∀ {n : Nat} {k : Nat → Prop} {q : Prop}, posK h l n k q → (∃ i, l[i]? = some h ∧ k (n + i)) ∨ (h ∉ l ∧ q) := by
  induction l with
  | nil => intro n k q hk; exact .inr ⟨by simp, hk⟩
  | cons x l ih =>
    intro n k q hk
    unfold posK at hk
    split at hk
    · rename_i e
      obtain rfl := Nat.eq_of_beq_eq_true e
      exact .inl ⟨0, by simp, hk⟩
    · rename_i e
      have hne : h ≠ x := by intro e'; subst e'; simp at e
      rcases ih hk with ⟨i, h1, h2⟩ | ⟨h1, h2⟩
      · exact .inl ⟨i + 1, by simpa using h1, by rwa [show n + (i + 1) = n + 1 + i by omega]⟩
      · exact .inr ⟨by simp [hne, h1], h2⟩
/-- handles that are given, in their new order -/
def given (ρ : Hs) (hs : List Nat) : Hs := hs.map fun h => ρ.getD h undef
theorem given_get {hs : List Nat} {i h : Nat} {v : Value} (hm : hs[i]? = some h) (hv : ρ[h]? = some v) : (given ρ hs)[i]? = some v := by
  unfold given
  rw [List.getElem?_map, hm]
  simp [List.getD_eq_getElem?_getD, hv]
/-- blocks that are lent -/
def Lent (ρ : Hs) (l : Lt) (b : Nat) : Prop := ∃ x ∈ l, ∃ v, ρ[x.1]? = some v ∧ Bk v b
/-- what is lent was one's own, and is not given -/
def LentOk (hp : List Reg) (hs : List Nat) (l : Lt) : Prop := ∀ x ∈ l, x.1 ∉ hs ∧ ((∃ sz L, x.2 = .frz sz L ∧ hp[x.1]? = some (.row sz L)) ∨ (∃ cs, x.2 = .box cs ∧ hp[x.1]? = some (.box cs)) ∨ ∃ sz L cs, x.2 = .rowt sz L cs ∧ hp[x.1]? = some (.rowt sz L cs))
theorem LentOk.nil {hp : List Reg} {hs : List Nat} : LentOk hp hs [] := fun x hx => by cases hx
theorem LentOk.row {hp : List Reg} {hs : List Nat} {h sz : Nat} {L : List (List D)} (hn : h ∉ hs) (hr : hp[h]? = some (.row sz L)) : LentOk hp hs [(h, .frz sz L)] := by
  intro x hx
  simp at hx; subst hx
  exact ⟨hn, .inl ⟨_, _, rfl, hr⟩⟩
theorem LentOk.append {hp : List Reg} {hs : List Nat} {l l' : Lt} (h : LentOk hp hs l) (h' : LentOk hp hs l') : LentOk hp hs (l ++ l') := fun x hx => (List.mem_append.1 hx).elim (h x) (h' x)
/-- what may be read meanwhile -/
def Spare (A : Nat → Prop) (ρ : Hs) (l : Lt) (Ac : Nat → Prop) : Prop := ∀ b, Ac b → A b ∧ ¬ Lent ρ l b
theorem Spare.less {A Ac : Nat → Prop} {l l' : Lt} (h : ∀ x ∈ l, x ∈ l') (H : Spare A ρ l' Ac) : Spare A ρ l Ac := fun b hb => ⟨(H b hb).1, fun ⟨x, hx, h'⟩ => (H b hb).2 ⟨x, h x hx, h'⟩⟩
theorem Spare.left {A Ac : Nat → Prop} {l l' : Lt} (H : Spare A ρ (l ++ l') Ac) : Spare A ρ l Ac := H.less fun x hx => List.mem_append_left _ hx
theorem Spare.right {A Ac : Nat → Prop} {l l' : Lt} (H : Spare A ρ (l ++ l') Ac) : Spare A ρ l' Ac := H.less fun x hx => List.mem_append_right _ hx
theorem row_seen (I : Inv X w0 B0 σ a w ρ) {h sz : Nat} {L : List (List D)} (hr : σ.hp[h]? = some (.row sz L)) {v : Value} (hv : ρ[h]? = some v) {Ac : Nat → Prop} (hA : Spare (Av X ρ σ.hp) ρ [(h, .frz sz L)] Ac) : Rd Ac w v (.sl sz L) := by
  obtain ⟨v', hv', hR⟩ := I.hp.val hr
  rw [hv] at hv'; cases hv'
  obtain ⟨x, c, rfl, hc, hz, hR⟩ := hR
  simp only [Rd]
  refine ⟨x, c, rfl, hc, ?_⟩
  cases c with
  | zero => exact .inl (List.length_eq_zero_iff.1 (by omega))
  | succ c =>
    rcases hR with hR | ⟨b, off, Tb, cur, rfl, hcur, _, hL⟩
    · cases hR
    · exact .inr ⟨b, off, rfl, ⟨(Array.getElem?_eq_some_iff.1 hcur).1, fun h' => (hA b h').2 ⟨_, List.mem_cons_self .., _, hv, rfl⟩⟩, RdL.mono (fun b h => (hA b h).1) hL⟩
theorem seeC_ok (I : Inv X w0 B0 σ a w ρ) {hs : List Nat} {c : C} {u : Value} {k : D → Lt → Prop} (hc : CRel ρ (Av X ρ σ.hp) w u c) (h : seeC σ.hp hs c k) :
    ∃ x l, k x l ∧ LentOk σ.hp hs l ∧ ∀ Ac, Spare (Av X ρ σ.hp) ρ l Ac → Rd Ac w u x := by
  unfold seeC at h
  split at h
  · exact ⟨_, _, h, LentOk.nil, fun Ac hA => Rd.lasts (Lasts.mono fun b h => (hA b h).1) hc⟩
  · obtain ⟨a', rfl⟩ := hc
    refine ⟨_, _, h, LentOk.nil, fun Ac hA => ?_⟩
    simp only [Rd]; exact ⟨a', 0, rfl, Nat.le_refl _, .inl trivial⟩
  · rename_i hd
    rcases posK_ok h with ⟨_, _, h⟩ | ⟨hn, h⟩
    · exact h.elim
    · obtain ⟨r, hr, h⟩ := nthK_ok h
      split at h
      · rename_i sz L
        refine ⟨_, _, h, LentOk.row hn hr, fun Ac hA => row_seen I hr hc.1 hA⟩
      · rename_i sz L
        obtain ⟨v, hv, hR⟩ := I.hp.val hr
        obtain rfl : v = u := by have := hc.1; rw [hv] at this; exact Option.some.inj this
        exact ⟨_, _, h, LentOk.nil, fun Ac hA => Rd.lasts (Lasts.mono fun b h => (hA b h).1) (show Rd _ w _ (.sl sz L) from hR)⟩
      · exact h.elim
  · rename_i hd sz lo n
    rcases posK_ok h with ⟨_, _, h⟩ | ⟨hn, h⟩
    · exact h.elim
    · obtain ⟨r, hr, h⟩ := nthK_ok h
      split at h
      · rename_i sz' L
        replace h := tt_ok h
        obtain ⟨hq, h⟩ := h
        obtain rfl := Nat.eq_of_beq_eq_true hq
        refine ⟨_, _, h, LentOk.row hn hr, fun Ac hA => ?_⟩
        obtain ⟨a0, l0, c0, hρ, hlo, hl0, a', hv, ha'⟩ := hc
        have hsh := row_seen I hr hρ hA
        simp only [Rd] at hsh
        obtain ⟨a1, c1, he, _, hsh⟩ := hsh
        cases he
        have hlen : ((L.drop lo).take n).length = n := by simp; omega
        simp only [Rd]
        refine ⟨a', c0 - lo, by rw [hlen]; exact hv, by rw [hlen]; omega, ?_⟩
        by_cases hn : n = 0
        · subst hn; exact .inl (by simp)
        · rcases hsh with rfl | ⟨b, off, rfl, hb, hL⟩
          · simp at hlo; omega
          · rcases ha' with e | rfl
            · omega
            · exact .inr ⟨b, off + lo * sz, by simp [Addr.add_lit], hb, (hL.drop lo).take n⟩
      · exact h.elim
  · exact h.elim
theorem seeCs_ok (I : Inv X w0 B0 σ a w ρ) {hs : List Nat} {cs : List C} : ∀ {us : List Value} {k : List D → Lt → Prop}, All2 (fun u c => Flat u ∧ CRel ρ (Av X ρ σ.hp) w u c) us cs → seeCs σ.hp hs cs k →
    ∃ xs l, k xs l ∧ LentOk σ.hp hs l ∧ ∀ Ac, Spare (Av X ρ σ.hp) ρ l Ac → All2 (Rd Ac w) us xs := by
  induction cs with
  | nil => intro us k hc h; cases hc; exact ⟨_, _, h, LentOk.nil, fun _ _ => .nil⟩
  | cons c cs ih =>
    intro us k hc h
    cases hc with
    | cons hu hc =>
    obtain ⟨x, l, h, h1, h2⟩ := seeC_ok I hu.2 h
    obtain ⟨xs, l', h, h3, h4⟩ := ih hc h
    exact ⟨_, _, appK_ok h, h1.append h3, fun Ac hA => .cons (h2 Ac hA.left) (h4 Ac hA.right)⟩
theorem seeD_ok (I : Inv X w0 B0 σ a w ρ) {hs : List Nat} {c : C} {u : Value} {k : D → Lt → Prop} (hc : CRel ρ (Av X ρ σ.hp) w u c) (h : seeD σ.hp hs c k) :
    ∃ x l, k x l ∧ LentOk σ.hp hs l ∧ ∀ Ac, Spare (Av X ρ σ.hp) ρ l Ac → Rd Ac w u x := by
  unfold seeD at h
  split at h
  · rename_i hd
    rcases posK_ok h with ⟨_, _, h⟩ | ⟨hn, h⟩
    · exact h.elim
    · obtain ⟨r, hr, h⟩ := nthK_ok h
      split at h
      · exact ⟨_, _, h, LentOk.row hn hr, fun Ac hA => row_seen I hr hc.1 hA⟩
      · rename_i sz L
        obtain ⟨v, hv, hR⟩ := I.hp.val hr
        obtain rfl : v = u := by have := hc.1; rw [hv] at this; exact Option.some.inj this
        exact ⟨_, _, h, LentOk.nil, fun Ac hA => Rd.lasts (Lasts.mono fun b h => (hA b h).1) (show Rd _ w _ (.sl sz L) from hR)⟩
      · rename_i sz L cs
        obtain ⟨v, hv, hR⟩ := I.hp.val hr
        obtain rfl : v = u := by have := hc.1; rw [hv] at this; exact Option.some.inj this
        obtain ⟨a0, c, rfl, hcc, hz, hcl, b, off, T, vs, rfl, hb, hs, hL, hC⟩ := hR
        obtain ⟨us, hus, huc⟩ := hC.vals
        obtain ⟨x, l, h, h1, h2⟩ := seeCs_ok I hus h
        obtain ⟨hxl, h⟩ := tt_ok h
        have hxl := Nat.eq_of_beq_eq_true hxl
        refine ⟨_, _, h, fun y hy => ?_, fun Ac hA => ?_⟩
        · cases hy with
          | head => exact ⟨hn, .inr (.inr ⟨_, _, _, rfl, hr⟩)⟩
          | tail _ hy => exact h1 y hy
        · have hx := h2 Ac (hA.less fun y hy => List.mem_cons_of_mem _ hy)
          obtain ⟨c0, rfl⟩ : ∃ c0, c = c0 + 1 := ⟨c - 1, by omega⟩
          simp only [Rd]
          refine ⟨_, c0 + 1, by rw [List.length_append]; rfl, by rw [List.length_append]; exact hcc, .inr ⟨b, off, rfl, ⟨(Array.getElem?_eq_some_iff.1 hb).1, fun h' => (hA b h').2 ⟨_, List.mem_cons_self .., _, hv, rfl⟩⟩, RdL_of fun m e hm => ?_⟩⟩
          by_cases hml : m < L.length
          · rw [List.getElem?_append_left hml] at hm
            exact (RdL.mono (fun b' hb' => (hA b' hb').1) hL).get hm
          · rw [List.getElem?_append_right (by omega)] at hm
            have hm0 : m = L.length := by have := (List.getElem?_eq_some_iff.1 hm).1; simp at this; omega
            subst hm0
            simp at hm; subst hm
            refine ⟨hxl, RdC_of hb fun q y hy => ?_⟩
            obtain ⟨u, hu, hr⟩ := hx.get' hy
            have := huc q u hu
            rw [cell_of_row w b _ vs T _ hb] at this
            exact ⟨u, this, hr⟩
      · exact h.elim
  · exact seeC_ok I hc h
  · exact seeC_ok I hc h
  · exact seeC_ok I hc h
  · exact h.elim
theorem seeDs_ok (I : Inv X w0 B0 σ a w ρ) {hs : List Nat} {cs : List C} : ∀ {us : List Value} {k : List D → Lt → Prop}, All2 (fun u c => Flat u ∧ CRel ρ (Av X ρ σ.hp) w u c) us cs → seeDs σ.hp hs cs k →
    ∃ xs l, k xs l ∧ LentOk σ.hp hs l ∧ ∀ Ac, Spare (Av X ρ σ.hp) ρ l Ac → All2 (Rd Ac w) us xs := by
  induction cs with
  | nil => intro us k hc h; cases hc; exact ⟨_, _, h, LentOk.nil, fun _ _ => .nil⟩
  | cons c cs ih =>
    intro us k hc h
    cases hc with
    | cons hu hc =>
    obtain ⟨x, l, h, h1, h2⟩ := seeD_ok I hu.2 h
    obtain ⟨xs, l', h, h3, h4⟩ := ih hc h
    exact ⟨_, _, appK_ok h, h1.append h3, fun Ac hA => .cons (h2 Ac hA.left) (h4 Ac hA.right)⟩
/-- a box, seen from a place on -/
theorem box_seen (I : Inv X w0 B0 σ a w ρ) {hs : List Nat} {h off : Nat} {cs : List C} (hr : σ.hp[h]? = some (.box cs)) (hn : h ∉ hs) {k : List D → Lt → Prop} (hk : seeDs σ.hp hs (cs.drop off) k) {b : Nat} (hb : ρ[h]? = some (.pointer (some ⟨b, 0, none⟩))) :
    ∃ xs l, k xs l ∧ LentOk σ.hp hs ((h, .box cs) :: l) ∧ ∀ Ac, Spare (Av X ρ σ.hp) ρ ((h, .box cs) :: l) Ac → At Ac w b ∧ RdC Ac w b off xs := by
  obtain ⟨v, hv, hR⟩ := I.hp.val hr
  rw [hb] at hv; cases hv
  obtain ⟨b', T, vs, he, hcur, hall⟩ := hR
  cases he
  obtain ⟨xs, l, hk, h1, h2⟩ := seeDs_ok I (hall.drop off) hk
  refine ⟨xs, l, hk, ?_, fun Ac hA => ⟨⟨(Array.getElem?_eq_some_iff.1 hcur).1, fun h' => (hA _ h').2 ⟨_, List.mem_cons_self .., _, hb, rfl⟩⟩, ?_⟩⟩
  · intro x hx
    cases hx with
    | head => exact ⟨hn, .inr (.inl ⟨_, rfl, hr⟩)⟩
    | tail _ hx => exact h1 x hx
  · have hx := h2 Ac (hA.less fun x hx => List.mem_cons_of_mem _ hx)
    refine RdC_of hcur fun j x hj => ?_
    obtain ⟨u, hu, hr⟩ := hx.get' hj
    exact ⟨u, by rw [List.getElem?_drop] at hu; simpa using hu, hr⟩
section lend
variable {hs : List Nat} (hρc : ∀ (i h : Nat) (v : Value), hs[i]? = some h → ρ[h]? = some v → ρc[i]? = some v)
include hρc
theorem lendCap_ok (I : Inv X w0 B0 σ a w ρ) {em : Bool} {c : Cap} {u : Value} {k : Cap → Lt → Prop} (hc : CapRel ρ (Av X ρ σ.hp) w u c) (h : lendCap σ.hp hs em c k) :
    ∃ c' l, k c' l ∧ LentOk σ.hp hs l ∧ ∀ Ac, Spare (Av X ρ σ.hp) ρ l Ac → CapRel ρc Ac w u c' := by
  unfold lendCap at h
  split at h
  · rename_i hd
    obtain ⟨b, hb, rfl⟩ := hc
    rcases posK_ok h with ⟨i, hi, h⟩ | ⟨hn, h⟩
    · rw [Nat.zero_add] at h
      exact ⟨_, _, h, LentOk.nil, fun Ac hA => ⟨b, hρc _ _ _ hi hb, rfl⟩⟩
    · obtain ⟨r, hr, h⟩ := nthK_ok h
      split at h
      · rename_i cs
        obtain ⟨xs, l, h, h1, h2⟩ := box_seen (off := 0) I hr hn (by rwa [List.drop_zero]) hb
        exact ⟨_, _, h, h1, fun Ac hA => ⟨b, 0, rfl, (h2 Ac hA).1, (h2 Ac hA).2⟩⟩
      · exact h.elim
  · rename_i hd
    rcases posK_ok h with ⟨i, hi, h⟩ | ⟨hn, h⟩
    · rw [Nat.zero_add] at h
      exact ⟨_, _, h, LentOk.nil, fun Ac hA => ⟨hρc _ _ _ hi hc.1, hc.2⟩⟩
    · obtain ⟨x, l, h, h1, h2⟩ := seeD_ok I (c := .own hd) hc h
      exact ⟨_, _, h, h1, fun Ac hA => h2 Ac hA⟩
  · obtain ⟨a', rfl⟩ := hc
    split at h
    · exact ⟨_, _, h, LentOk.nil, fun Ac hA => ⟨a', rfl⟩⟩
    · refine ⟨_, _, h, LentOk.nil, fun Ac hA => ?_⟩
      show Rd _ _ _ _
      simp only [Rd]; exact ⟨a', 0, rfl, Nat.le_refl _, .inl trivial⟩
  · obtain ⟨b, off, h1, h2, h3⟩ := hc
    exact ⟨_, _, h, LentOk.nil, fun Ac hA => ⟨b, off, h1, (Lasts.mono fun b h => (hA b h).1).at h2, RdC.lasts (Lasts.mono fun b h => (hA b h).1) h2.2 h3⟩⟩
  · exact ⟨_, _, h, LentOk.nil, fun Ac hA => Rd.lasts (Lasts.mono fun b h => (hA b h).1) hc⟩
  · exact ⟨_, _, h, LentOk.nil, fun Ac hA => hc⟩
  · exact ⟨_, _, h, LentOk.nil, fun Ac hA => trivial⟩
theorem lendCaps_ok (I : Inv X w0 B0 σ a w ρ) {em : Bool} {cs : List Cap} : ∀ {us : List Value} {k : List Cap → Lt → Prop}, All2 (CapRel ρ (Av X ρ σ.hp) w) us cs → lendCaps σ.hp hs em cs k →
    ∃ cs' l, k cs' l ∧ LentOk σ.hp hs l ∧ ∀ Ac, Spare (Av X ρ σ.hp) ρ l Ac → All2 (CapRel ρc Ac w) us cs' := by
  induction cs with
  | nil => intro us k hc h; cases hc; exact ⟨_, _, h, LentOk.nil, fun _ _ => .nil⟩
  | cons c cs ih =>
    intro us k hc h
    cases hc with
    | cons hu hc =>
    obtain ⟨x, l, h, h1, h2⟩ := lendCap_ok hρc I hu h
    obtain ⟨xs, l', h, h3, h4⟩ := ih hc h
    exact ⟨_, _, appK_ok h, h1.append h3, fun Ac hA => .cons (h2 Ac hA.left) (h4 Ac hA.right)⟩
theorem lendC_ok (I : Inv X w0 B0 σ a w ρ) {em : Bool} {c : C} {u : Value} {k : C → Lt → Prop} (hc : CRel ρ (Av X ρ σ.hp) w u c) (h : lendC σ.hp hs em c k) :
    ∃ c' l, k c' l ∧ LentOk σ.hp hs l ∧ ∀ Ac, Spare (Av X ρ σ.hp) ρ l Ac → CRel ρc Ac w u c' := by
  unfold lendC at h
  split at h
  · exact ⟨_, _, h, LentOk.nil, fun Ac hA => Rd.lasts (Lasts.mono fun b h => (hA b h).1) hc⟩
  · obtain ⟨a', rfl⟩ := hc
    split at h
    · exact ⟨_, _, h, LentOk.nil, fun Ac hA => ⟨a', rfl⟩⟩
    · refine ⟨_, _, h, LentOk.nil, fun Ac hA => ?_⟩
      show Rd _ _ _ _
      simp only [Rd]; exact ⟨a', 0, rfl, Nat.le_refl _, .inl trivial⟩
  · obtain ⟨b, off, h1, h2, h3⟩ := hc
    exact ⟨_, _, h, LentOk.nil, fun Ac hA => ⟨b, off, h1, (Lasts.mono fun b h => (hA b h).1).at h2, RdC.lasts (Lasts.mono fun b h => (hA b h).1) h2.2 h3⟩⟩
  · obtain ⟨vs, h1, h2⟩ := hc
    obtain ⟨cs', l, h, h3, h4⟩ := lendCaps_ok hρc I h2 h
    exact ⟨_, _, h, h3, fun Ac hA => ⟨vs, h1, h4 Ac hA⟩⟩
  · rename_i hd
    rcases posK_ok h with ⟨i, hi, h⟩ | ⟨hn, h⟩
    · rw [Nat.zero_add] at h
      exact ⟨_, _, h, LentOk.nil, fun Ac hA => ⟨hρc _ _ _ hi hc.1, hc.2⟩⟩
    · obtain ⟨x, l, h, h1, h2⟩ := seeD_ok I (c := .own hd) hc h
      exact ⟨_, _, h, h1, fun Ac hA => h2 Ac hA⟩
  · rename_i hd sz lo n
    rcases posK_ok h with ⟨i, hi, h⟩ | ⟨hn, h⟩
    · rw [Nat.zero_add] at h
      obtain ⟨a, l, c, h1, h2⟩ := hc
      exact ⟨_, _, h, LentOk.nil, fun Ac hA => ⟨a, l, c, hρc _ _ _ hi h1, h2⟩⟩
    · obtain ⟨x, l, h, h1, h2⟩ := seeC_ok I (c := .win hd sz lo n) hc h
      exact ⟨_, _, h, h1, fun Ac hA => h2 Ac hA⟩
  · rename_i hd off
    obtain ⟨b, hb, rfl⟩ := hc
    rcases posK_ok h with ⟨i, hi, h⟩ | ⟨hn, h⟩
    · rw [Nat.zero_add] at h
      exact ⟨_, _, h, LentOk.nil, fun Ac hA => ⟨b, hρc _ _ _ hi hb, rfl⟩⟩
    · obtain ⟨r, hr, h⟩ := nthK_ok h
      split at h
      · rename_i cs
        obtain ⟨_, h⟩ := dropK_ok h
        obtain ⟨xs, l, h, h1, h2⟩ := box_seen I hr hn h hb
        exact ⟨_, _, h, h1, fun Ac hA => ⟨b, off, rfl, (h2 Ac hA).1, (h2 Ac hA).2⟩⟩
      · exact h.elim
  · rename_i hd sz x y
    rcases posK_ok h with ⟨i, hi, h⟩ | ⟨hn, h⟩
    · rw [Nat.zero_add] at h
      obtain ⟨b, off, l, c, h1, h2⟩ := hc
      exact ⟨_, _, h, LentOk.nil, fun Ac hA => ⟨b, off, l, c, hρc _ _ _ hi h1, h2⟩⟩
    · exact h.elim
  · rename_i hd
    rcases posK_ok h with ⟨i, hi, h⟩ | ⟨hn, h⟩
    · rw [Nat.zero_add] at h
      obtain ⟨us, h1, h2⟩ := hc
      exact ⟨_, _, h, LentOk.nil, fun Ac hA => ⟨us, hρc _ _ _ hi h1, h2⟩⟩
    · exact h.elim
  · rename_i hd j
    rcases posK_ok h with ⟨i, hi, h⟩ | ⟨hn, h⟩
    · rw [Nat.zero_add] at h
      obtain ⟨u, us, h1, h2⟩ := hc
      exact ⟨_, _, h, LentOk.nil, fun Ac hA => ⟨u, us, hρc _ _ _ hi h1, h2⟩⟩
    · exact h.elim
  · exact ⟨_, _, h, LentOk.nil, fun Ac hA => trivial⟩
  · exact h.elim
theorem lendCs_ok (I : Inv X w0 B0 σ a w ρ) {em : Bool} {cs : List C} : ∀ {us : List Value} {k : List C → Lt → Prop}, All2 (fun u c => Flat u ∧ CRel ρ (Av X ρ σ.hp) w u c) us cs → lendCs σ.hp hs em cs k →
    ∃ cs' l, k cs' l ∧ LentOk σ.hp hs l ∧ ∀ Ac, Spare (Av X ρ σ.hp) ρ l Ac → All2 (fun u c => Flat u ∧ CRel ρc Ac w u c) us cs' := by
  induction cs with
  | nil => intro us k hc h; cases hc; exact ⟨_, _, h, LentOk.nil, fun _ _ => .nil⟩
  | cons c cs ih =>
    intro us k hc h
    cases hc with
    | cons hu hc =>
    obtain ⟨c', l, h, h1, h2⟩ := lendC_ok hρc I hu.2 h
    obtain ⟨cs', l', h, h3, h4⟩ := ih hc h
    exact ⟨_, _, appK_ok h, h1.append h3, fun Ac hA => .cons ⟨hu.1, h2 Ac hA.left⟩ (h4 Ac hA.right)⟩
theorem lendSs_ok (I : Inv X w0 B0 σ a w ρ) {em : Bool} {ss : List S} : ∀ {us : List Value} {k : List S → Lt → Prop}, All2 (SRel ρ (Av X ρ σ.hp) w) us ss → lendSs σ.hp hs em ss k →
    ∃ ss' l, k ss' l ∧ LentOk σ.hp hs l ∧ ∀ Ac, Spare (Av X ρ σ.hp) ρ l Ac → All2 (SRel ρc Ac w) us ss' := by
  induction ss with
  | nil => intro us k hc h; cases hc; exact ⟨_, _, h, LentOk.nil, fun _ _ => .nil⟩
  | cons s ss ih =>
    intro us k hc h
    cases hc with
    | cons hu hc =>
    unfold lendSs at h
    split at h
    · rename_i heq; cases heq
    · rename_i c ss0 heq
      cases heq
      obtain ⟨c', l, h, h1, h2⟩ := lendC_ok hρc I hu h
      obtain ⟨cs', l', h, h3, h4⟩ := ih hc h
      exact ⟨_, _, appK_ok h, h1.append h3, fun Ac hA => .cons (show CRel _ _ _ _ _ from h2 Ac hA.left) (h4 Ac hA.right)⟩
    · rename_i cs0 ss0 heq
      cases heq
      obtain ⟨us', hv, hu⟩ := hu
      obtain ⟨c', l, h, h1, h2⟩ := lendCs_ok hρc I hu h
      obtain ⟨cs', l', h, h3, h4⟩ := ih hc h
      exact ⟨_, _, appK_ok h, h1.append h3, fun Ac hA => .cons ⟨us', hv, h2 Ac hA.left⟩ (h4 Ac hA.right)⟩
    · exact h.elim
/-- what is given, seen by whom it is given to -/
def GivenR (ρ ρc : Hs) (σ : St) (w : World) (A : Nat → Prop) (l : Lt) (h i : Nat) (r : Reg) (c : C) : Prop :=
  (∃ r0, σ.hp[h]? = some r0 ∧ r0.live = true ∧ r.live = true) ∧ ((∃ sz L, r = .row sz L ∧ c = .own i ∧ σ.hp[h]? = some (.row sz L)) ∨ (∃ cs, r = .box cs ∧ c = .ptr i 0) ∨ (∃ sz L cs cs0, r = .rowt sz L cs ∧ c = .own i ∧ σ.hp[h]? = some (.rowt sz L cs0)) ∨ (∃ M, r = .mapd M ∧ c = .own i) ∨ (∃ sz M, r = .mapr sz M ∧ c = .town i) ∨ c = .junk) ∧
    ∀ v, ρ[h]? = some v → ∀ Ac, Spare A ρ l Ac → RegRel ρc Ac w v r ∧ (ρc[i]? = some v → MRel ρc Ac w v c)
theorem giveR_ok (I : Inv X w0 B0 σ a w ρ) {em : Bool} {h i : Nat} {r : Reg} {k : Reg → C → Lt → Prop} (hr : σ.hp[h]? = some r) (hk : giveR σ.hp hs em i r k) :
    ∃ r' c l, k r' c l ∧ LentOk σ.hp hs l ∧ GivenR ρ ρc σ w (Av X ρ σ.hp) l h i r' c := by
  obtain ⟨v, hv, hR⟩ := I.hp.val hr
  unfold giveR at hk
  split at hk
  · rename_i sz L
    refine ⟨_, _, _, hk, LentOk.nil, ⟨_, hr, rfl, rfl⟩, .inl ⟨_, _, rfl, rfl, hr⟩, fun v' hv' => ?_⟩
    rw [hv] at hv'; cases hv'
    obtain ⟨x, c, rfl, h2, h3, h4⟩ := hR
    exact fun Ac hA => ⟨⟨x, c, rfl, h2, h3, h4.imp id fun ⟨b, off, T, vs, h5, h6, h7, h8⟩ => ⟨b, off, T, vs, h5, h6, h7, RdL.mono (fun b h => (hA b h).1) h8⟩⟩, fun e => .inl ⟨e, by simp, by simp⟩⟩
  · rename_i cs
    obtain ⟨b, T, vs, rfl, hb, hall⟩ := hR
    obtain ⟨cs', l, hk, h1, h2⟩ := lendCs_ok hρc I hall hk
    refine ⟨_, _, _, hk, h1, ⟨_, hr, rfl, rfl⟩, .inr (.inl ⟨_, rfl, rfl⟩), fun v' hv' => ?_⟩
    rw [hv] at hv'; cases hv'
    exact fun Ac hA => ⟨⟨b, T, vs, rfl, hb, h2 Ac hA⟩, fun e => .inl ⟨b, e, rfl⟩⟩
  · rename_i sz L cs
    obtain ⟨x, c, rfl, g2, g3, g4, b, off, T, vs, g5, g6, g7, g8, g9⟩ := hR
    obtain ⟨us, hall, hcell⟩ := TailAt.vals g9
    obtain ⟨cs', l, hk, h1, h2⟩ := lendCs_ok hρc I hall hk
    refine ⟨_, _, _, hk, h1, ⟨_, hr, rfl, rfl⟩, .inr (.inr (.inl ⟨_, _, _, _, rfl, rfl, hr⟩)), fun v' hv' => ?_⟩
    rw [hv] at hv'; cases hv'
    refine fun Ac hA => ⟨⟨x, c, rfl, g2, g3, ?_, b, off, T, vs, g5, g6, g7, RdL.mono (fun b h => (hA b h).1) g8, ?_⟩, fun e => .inl ⟨e, by simp, by simp⟩⟩
    · rw [← g4, ← (h2 Ac hA).length, hall.length]
    · refine TailAt_iff.2 fun j c' hc' => ?_
      obtain ⟨u, hu, hr'⟩ := (h2 Ac hA).get' hc'
      exact ⟨u, hcell j u hu, hr'⟩
  · rename_i M
    refine ⟨_, _, _, hk, LentOk.nil, ⟨_, hr, rfl, rfl⟩, .inr (.inr (.inr (.inl ⟨_, rfl, rfl⟩))), fun v' hv' => ?_⟩
    rw [hv] at hv'; cases hv'
    obtain ⟨b, es, clock, hv', hb, hM, hn⟩ := hR
    exact fun Ac hA => ⟨⟨b, es, clock, hv', hb, hM.imp fun _ _ h => ⟨h.1, h.2.lasts (Lasts.mono fun b h => (hA b h).1)⟩, hn⟩, fun e => .inr (.inl ⟨i, rfl, e⟩)⟩
  · rename_i sz M
    refine ⟨_, _, _, hk, LentOk.nil, ⟨_, hr, rfl, rfl⟩, .inr (.inr (.inr (.inr (.inl ⟨_, _, rfl, rfl⟩)))), fun v' hv' => ?_⟩
    rw [hv] at hv'; cases hv'
    obtain ⟨b, es, clock, us, rfl, hb, hM, hn, hd⟩ := hR
    exact fun Ac hA => ⟨⟨b, es, clock, us, rfl, hb, hM.lasts (Lasts.mono fun b h => (hA b h).1) (fun _ _ _ _ => rfl), hn, hd⟩, fun e => .inr (.inr ⟨i, _, us, us, rfl, rfl, e⟩)⟩
  · exact hk.elim
theorem GivenR.less {A : Nat → Prop} {l l' : Lt} {h i : Nat} {r : Reg} {c : C} (hl : ∀ x ∈ l, x ∈ l') (H : GivenR ρ ρc σ w A l h i r c) : GivenR ρ ρc σ w A l' h i r c :=
  ⟨H.1, H.2.1, fun v hv Ac hA => H.2.2 v hv Ac (hA.less hl)⟩
inductive GivenRs (ρ ρc : Hs) (σ : St) (w : World) (A : Nat → Prop) (l : Lt) : List Nat → Nat → List Reg → List C → Prop
  | nil {i} : GivenRs ρ ρc σ w A l [] i [] []
  | cons {h hs i r rs c cs} : GivenR ρ ρc σ w A l h i r c → GivenRs ρ ρc σ w A l hs (i + 1) rs cs → GivenRs ρ ρc σ w A l (h :: hs) i (r :: rs) (c :: cs)
theorem GivenRs.less {A : Nat → Prop} {l l' : Lt} {hs' : List Nat} {i : Nat} {rs : List Reg} {cs : List C} (hl : ∀ x ∈ l, x ∈ l') (H : GivenRs ρ ρc σ w A l hs' i rs cs) : GivenRs ρ ρc σ w A l' hs' i rs cs := by
  induction H with
  | nil => exact .nil
  | cons h _ ih => exact .cons (h.less hρc hl) ih
theorem giveK_ok (I : Inv X w0 B0 σ a w ρ) {em : Bool} {l : List Nat} : ∀ {i : Nat} {k : List Reg → List C → Lt → Prop}, giveK σ.hp hs em l i k →
    ∃ rs cs e, k rs cs e ∧ LentOk σ.hp hs e ∧ GivenRs ρ ρc σ w (Av X ρ σ.hp) e l i rs cs := by
  induction l with
  | nil => intro i k h; exact ⟨_, _, _, h, LentOk.nil, .nil⟩
  | cons h0 l ih =>
    intro i k h
    obtain ⟨r, hr, h⟩ := nthK_ok h
    obtain ⟨r', c, e, h, h1, h2⟩ := giveR_ok hρc I hr h
    obtain ⟨rs, cs, e', h, h3, h4⟩ := ih h
    exact ⟨_, _, _, appK_ok h, h1.append h3, .cons (h2.less hρc fun x hx => List.mem_append_left _ hx) (h4.less hρc fun x hx => List.mem_append_right _ hx)⟩
end lend
end
end Go.Proofs.YtphmcgmblkbijaaVY
