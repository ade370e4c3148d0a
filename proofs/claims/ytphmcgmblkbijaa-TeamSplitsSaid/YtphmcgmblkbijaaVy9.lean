/-
  VY: a call, from end to end. By the session's own hand.
-/
import Derived.Test.YtphmcgmblkbijaaVy8
set_option linter.unusedSectionVars false
set_option linter.unusedVariables false
set_option linter.unusedSimpArgs false
set_option linter.all false
set_option linter.unnecessarySimpa false
set_option linter.deprecated false
namespace Go.Proofs.YtphmcgmblkbijaaVY
section sets
variable {α : Type}
theorem foldl_set_len (us : List (Nat × α)) : ∀ (l : List α), (us.foldl (fun l u => l.set u.1 u.2) l).length = l.length := by
  induction us with
  | nil => intro l; rfl
  | cons u us ih => intro l; exact (ih _).trans (by simp)
theorem foldl_set_out {us : List (Nat × α)} {h : Nat} : ∀ {l : List α}, (∀ u ∈ us, u.1 ≠ h) → (us.foldl (fun l u => l.set u.1 u.2) l)[h]? = l[h]? := by
  induction us with
  | nil => intro l _; rfl
  | cons u us ih =>
    intro l hu
    have h1 := ih (l := l.set u.1 u.2) (fun x hx => hu x (List.mem_cons_of_mem _ hx))
    refine h1.trans ?_
    rw [List.getElem?_set_ne (hu u (List.mem_cons_self ..))]
theorem foldl_set_in {us : List (Nat × α)} {h : Nat} : ∀ {l : List α}, (∃ u ∈ us, u.1 = h) → h < l.length → ∃ x, (h, x) ∈ us ∧ (us.foldl (fun l u => l.set u.1 u.2) l)[h]? = some x := by
  induction us with
  | nil => intro l ⟨u, hu, _⟩; cases hu
  | cons u us ih =>
    intro l he hl
    by_cases hx : ∃ x ∈ us, x.1 = h
    · obtain ⟨x, h1, h2⟩ := ih (l := l.set u.1 u.2) hx (by simpa using hl)
      exact ⟨x, List.mem_cons_of_mem _ h1, h2⟩
    · obtain ⟨y, hy, rfl⟩ := he
      cases hy with
      | tail _ hy => exact absurd ⟨y, hy, rfl⟩ hx
      | head =>
        refine ⟨u.2, List.mem_cons_self .., ?_⟩
        refine (foldl_set_out (fun x hx' e => hx ⟨x, hx', e⟩)).trans ?_
        rw [List.getElem?_set_self hl]
theorem zipU_mem {hs : List Nat} {rs : List Reg} : ∀ {u : Nat × Reg}, u ∈ zipU hs rs ↔ ∃ i : Nat, hs[i]? = some u.1 ∧ rs[i]? = some u.2 := by
  induction hs generalizing rs with
  | nil => intro u; constructor
           · intro h; cases h
           · rintro ⟨i, h, _⟩; simp at h
  | cons h hs ih =>
    intro u
    cases rs with
    | nil => constructor
             · intro h; cases h
             · rintro ⟨i, _, h⟩; simp at h
    | cons r rs =>
      show u ∈ (h, r) :: zipU hs rs ↔ _
      rw [List.mem_cons, ih]
      constructor
      · rintro (rfl | ⟨i, h1, h2⟩)
        · exact ⟨0, rfl, rfl⟩
        · exact ⟨i + 1, by simpa using h1, by simpa using h2⟩
      · rintro ⟨i, h1, h2⟩
        cases i with
        | zero => simp at h1 h2; exact .inl (by rw [h1, h2])
        | succ i => exact .inr ⟨i, by simpa using h1, by simpa using h2⟩
theorem distinct_ok {l : List Nat} (h : distinct l = true) : l.Nodup := by
  induction l with
  | nil => exact List.nodup_nil
  | cons x l ih =>
    unfold distinct at h
    split at h
    · cases h
    · rename_i e
      refine List.nodup_cons.2 ⟨fun hm => ?_, ih h⟩
      have : ∀ (l : List Nat), x ∈ l → inL l x = true := by
        intro l
        induction l with
        | nil => intro h; cases h
        | cons y l ih =>
          intro h
          unfold inL
          split
          · rfl
          · rename_i e'
            cases h with
            | head => simp at e'
            | tail _ h => exact ih h
      rw [this l hm] at e; cases e
theorem nodup_idx {l : List Nat} (h : l.Nodup) {i j x : Nat} (hi : l[i]? = some x) (hj : l[j]? = some x) : i = j := by
  have h1 := (List.getElem?_eq_some_iff.1 hi)
  have h2 := (List.getElem?_eq_some_iff.1 hj)
  exact (List.getElem_inj h (h₀ := h1.1) (h₁ := h2.1)).1 (h1.2.trans h2.2.symm)
end sets
section
variable {P : Program} {Γ : Cx} {w w' : World} {X : Nat → Prop} {w0 : World} {B0 : Nat → Prop} [hGP : GPc X B0 w0] {σ : St} {a : Act} {ρ ρc ρ' : Hs} {gd : Option (Bool × Bool)} {Q : Exit → Act → World → Prop}

/-- a function with a body of its own -/
def Enters (P : Program) (f : FuncId) : Prop := ∃ fn, P.funcs[f]? = some fn ∧ fn.body.isNone = false ∧ (fn.name == "runtime.NumGoroutine") = false
theorem run_enter {f : FuncId} (h : Enters P f) (args : Array Value) : (callFunc f args).run P w = .ok (.enter f args) w := by
  obtain ⟨fn, h1, h2, h3⟩ := h
  have h3' : fn.name ≠ "runtime.NumGoroutine" := by simpa using h3
  have h2' : fn.body ≠ none := by intro e; rw [e] at h2; cases h2
  simp [callFunc, h1, h2', h3']
/-- a function that the model stands in for -/
def Ext (P : Program) (f : FuncId) (R : List S → List Reg → S → List Reg → Prop) : Prop :=
  ∀ (X : Nat → Prop) (w : World) (args : Array Value) (ss : List S) (hp : List Reg) (ρ : Hs) (r : S) (out : List Reg), GP X w → (∀ b, X b → b < w.heap.size) → HpRel X ρ hp w → All2 (SRel ρ (Av X ρ hp) w) args.toList ss → R ss hp r out →
    ∃ v ρ' w', (callFunc f args).run P w = .ok (.value v) w' ∧ SRel ρ' (Av X ρ' out) w' v r ∧ HpRel X ρ' out w' ∧ w.heap.size ≤ w'.heap.size ∧ Str w w' ∧ (∀ b, b < w.heap.size → ¬ Live ρ hp b → w'.heap[b]? = w.heap[b]?) ∧ ∀ b, Live ρ' out b → Live ρ hp b ∨ w.heap.size ≤ b
def Snd (P : Program) (f : FuncId) (R : List S → List Reg → S → List Reg → Prop) : Prop := (Ok P f R ∧ Enters P f) ∨ Ext P f R

theorem GivenRs.get {A : Nat → Prop} {l : Lt} {hs : List Nat} {n : Nat} {rs : List Reg} {cs : List C} (H : GivenRs ρ ρc σ w A l hs n rs cs) :
    rs.length = hs.length ∧ cs.length = hs.length ∧ ∀ (i h : Nat), hs[i]? = some h → ∃ r c, rs[i]? = some r ∧ cs[i]? = some c ∧ GivenR ρ ρc σ w A l h (n + i) r c := by
  induction H with
  | nil => exact ⟨rfl, rfl, by simp⟩
  | cons h0 _ ih =>
    obtain ⟨h1, h2, h3⟩ := ih
    refine ⟨by simp [h1], by simp [h2], fun i h hi => ?_⟩
    cases i with
    | zero => simp at hi; subst hi; exact ⟨_, _, rfl, rfl, h0⟩
    | succ i =>
      obtain ⟨r, c, h4, h5, h6⟩ := h3 i h (by simpa using hi)
      exact ⟨r, c, by simpa using h4, by simpa using h5, by rwa [Nat.add_assoc, Nat.add_comm 1 i] at h6⟩
theorem memK_ok {cs : List C} : ∀ {vs : List Value} {k : List Reg → Prop}, vs.length = cs.length → memK cs k → k (List.zipWith Reg.mem vs cs) := by
  induction cs with
  | nil => intro vs k hl h; cases vs with
    | nil => exact h
    | cons _ _ => cases hl
  | cons c cs ih => intro vs k hl h; cases vs with
    | nil => cases hl
    | cons v vs => exact ih (by simpa using hl) (h v)
theorem lostK_ok {hs : List Nat} : ∀ {mems ms : List Reg} {inv0 : Option Nat} {k : Option Nat → Prop}, lostK hs mems ms inv0 k →
    ms.length = hs.length ∧ ∃ inv, k inv ∧ (∀ h, inv0 = some h → inv = some h) ∧ (∀ h, inv = some h → inv0 = some h ∨ ∃ (i j : Nat) (v : Value), hs[i]? = some h ∧ ((mems[i]? = some (Reg.mem v (C.own j)) ∧ ms[i]? = some (Reg.mem v C.junk)) ∨ (mems[i]? = some (Reg.mem v (C.town j)) ∧ ms[i]? = some (Reg.mem v (C.town j))))) ∧
      ∀ (i h : Nat), hs[i]? = some h → ∃ (v : Value) (c c' : C), mems[i]? = some (Reg.mem v c) ∧ ms[i]? = some (Reg.mem v c') ∧ ((∃ j, c = C.own j ∧ c' = C.own j) ∨ (∃ j, c = C.ptr j 0 ∧ c' = C.ptr j 0) ∨ inv = some h) := by
  induction hs with
  | nil =>
    intro mems ms inv0 k h
    cases mems with
    | cons _ _ => exact h.elim
    | nil => cases ms with
      | cons _ _ => exact h.elim
      | nil => exact ⟨rfl, _, h, fun _ h => h, fun _ h => .inl h, by simp⟩
  | cons x hs ih =>
    intro mems ms inv0 k h
    cases mems with
    | nil => exact h.elim
    | cons m ms0 => cases m with
      | box _ => exact h.elim
      | rowt _ _ _ => exact h.elim
      | row _ _ => exact h.elim
      | frz _ _ => exact h.elim
      | gone => exact h.elim
      | mapd _ => exact h.elim
      | mapr _ _ => exact h.elim
      | mem v c => cases ms with
        | nil => exact h.elim
        | cons m ms0' => cases m with
          | box _ => exact h.elim
          | rowt _ _ _ => exact h.elim
          | row _ _ => exact h.elim
          | frz _ _ => exact h.elim
          | gone => exact h.elim
          | mapd _ => exact h.elim
          | mapr _ _ => exact h.elim
          | mem v' c' =>
            obtain ⟨rfl, h⟩ := h
            have fin : ∀ inv1, lostK hs ms0 ms0' inv1 k → (∀ h, inv0 = some h → inv1 = some h) → (∀ h, inv1 = some h → inv0 = some h ∨ (h = x ∧ (((∃ j, c = C.own j) ∧ c' = C.junk) ∨ ∃ j, c = C.town j ∧ c' = C.town j))) → (∀ inv : Option Nat, (∀ h, inv1 = some h → inv = some h) → ((∃ j, c = C.own j ∧ c' = C.own j) ∨ (∃ j, c = C.ptr j 0 ∧ c' = C.ptr j 0) ∨ inv = some x)) →
                ((Reg.mem v' c' :: ms0').length = (x :: hs).length ∧ ∃ inv, k inv ∧ (∀ h, inv0 = some h → inv = some h) ∧ (∀ h, inv = some h → inv0 = some h ∨ ∃ (i j : Nat) (v : Value), (x :: hs)[i]? = some h ∧ (((Reg.mem v' c :: ms0)[i]? = some (Reg.mem v (C.own j)) ∧ (Reg.mem v' c' :: ms0')[i]? = some (Reg.mem v C.junk)) ∨ ((Reg.mem v' c :: ms0)[i]? = some (Reg.mem v (C.town j)) ∧ (Reg.mem v' c' :: ms0')[i]? = some (Reg.mem v (C.town j))))) ∧
            ∀ (i h : Nat), (x :: hs)[i]? = some h → ∃ (v : Value) (c_1 c_2 : C), (Reg.mem v' c :: ms0)[i]? = some (Reg.mem v c_1) ∧ (Reg.mem v' c' :: ms0')[i]? = some (Reg.mem v c_2) ∧ ((∃ j, c_1 = C.own j ∧ c_2 = C.own j) ∨ (∃ j, c_1 = C.ptr j 0 ∧ c_2 = C.ptr j 0) ∨ inv = some h)) := by
              intro inv1 hl h1 h2 h3
              obtain ⟨hlen, inv, hk, g1, g2, g3⟩ := ih hl
              refine ⟨by simp [hlen], inv, hk, fun h e => g1 h (h1 h e), fun h e => ?_, fun i h hi => ?_⟩
              · rcases g2 h e with e | ⟨i, j, v, e1, e2⟩
                · rcases h2 h e with e | ⟨rfl, ⟨⟨j, rfl⟩, rfl⟩ | ⟨j, rfl, rfl⟩⟩
                  · exact .inl e
                  · exact .inr ⟨0, j, v', by simp, .inl ⟨by simp, by simp⟩⟩
                  · exact .inr ⟨0, j, v', by simp, .inr ⟨by simp, by simp⟩⟩
                · exact .inr ⟨i + 1, j, v, by simpa using e1, by simpa using e2⟩
              · cases i with
                | zero =>
                  simp at hi; subst hi
                  exact ⟨v', c, c', by simp, by simp, h3 inv g1⟩
                | succ i =>
                  obtain ⟨v, c1, c2, e1, e2, e3⟩ := g3 i h (by simpa using hi)
                  exact ⟨v, c1, c2, by simpa using e1, by simpa using e2, e3⟩
            split at h
            · rename_i i j
              obtain ⟨hq, h5⟩ := tt_ok h
              obtain rfl := Nat.eq_of_beq_eq_true hq
              exact fin inv0 h5 (fun _ h => h) (fun _ h => .inl h) (fun _ _ => .inl ⟨_, rfl, rfl⟩)
            · rename_i i j
              obtain ⟨hq, h5⟩ := tt_ok h
              obtain rfl := Nat.eq_of_beq_eq_true hq
              exact fin inv0 h5 (fun _ h => h) (fun _ h => .inl h) (fun _ _ => .inr (.inl ⟨_, rfl, rfl⟩))
            · split at h
              · exact fin (some x) h (fun _ h => by cases h) (fun h e => .inr ⟨by cases e; rfl, .inl ⟨⟨_, rfl⟩, rfl⟩⟩) (fun inv hi => .inr (.inr (hi _ rfl)))
              · exact h.elim
            · rename_i i j
              obtain ⟨hq, h5⟩ := tt_ok h
              clear h
              obtain rfl := Nat.eq_of_beq_eq_true hq
              cases inv0 with
              | none => exact fin (some x) h5 (fun _ h => by cases h) (fun h e => .inr ⟨by cases e; rfl, .inr ⟨_, rfl, rfl⟩⟩) (fun inv hi => .inr (.inr (hi _ rfl)))
              | some _ => exact h5.elim
            · exact h.elim

theorem mapsKept_ok : ∀ {rs ms : List Reg}, mapsKept rs ms = true → ∀ (i : Nat) (M : List (Int × D)) (v : Value), rs[i]? = some (.mapd M) → ms[i]? ≠ some (.mem v .junk)
  | [], _, _, i, M, v, h => by simp at h
  | r :: rs, [], _, i, M, v, _ => by simp
  | r :: rs, m :: ms, hk, 0, M, v, h => by
    simp at h; subst h
    intro e
    simp at e; subst e
    simp [mapsKept] at hk
  | r :: rs, m :: ms, hk, i + 1, M, v, h => by
    have : mapsKept rs ms = true := by
      unfold mapsKept at hk
      split at hk
      · cases hk
      · rename_i h1 h2; cases h1; cases h2; exact hk
      · rename_i h1; exact absurd rfl (h1 _ _ _ _ rfl)
    simpa using mapsKept_ok this i M v (by simpa using h)

/-- what a call is done with -/
structure Parted (X : Nat → Prop) (ρ : Hs) (σ : St) (w : World) (hs : List Nat) (lent : Lt) (regs mems : List Reg) (cs : List C) (Xc : Nat → Prop) : Prop where
  nd : hs.Nodup
  lt : LentOk σ.hp hs lent
  gv : GivenRs ρ (given ρ hs ++ given ρ hs) σ w (Av X ρ σ.hp) lent hs 0 regs cs
  mm : mems = List.zipWith Reg.mem (given ρ hs) cs
  xc : ∀ b, Xc b ↔ Av X ρ σ.hp b ∧ ¬ Lent ρ lent b ∧ ¬ Live (given ρ hs ++ given ρ hs) (regs ++ mems) b
section parted
variable {hs : List Nat} {lent : Lt} {regs mems : List Reg} {cs : List C} {Xc : Nat → Prop}
theorem given_len (ρ : Hs) (hs : List Nat) : (given ρ hs).length = hs.length := by simp [given]
theorem Parted.mems_get (H : Parted X ρ σ w hs lent regs mems cs Xc) {i : Nat} {m : Reg} (hm : mems[i]? = some m) : ∃ v c, m = .mem v c ∧ cs[i]? = some c ∧ (given ρ hs)[i]? = some v := by
  rw [H.mm, List.getElem?_zipWith] at hm
  cases h1 : (given ρ hs)[i]? with
  | none => rw [h1] at hm; cases hm
  | some v => cases h2 : cs[i]? with
    | none => rw [h1, h2] at hm; cases hm
    | some c => rw [h1, h2] at hm; cases hm; exact ⟨_, _, rfl, rfl, rfl⟩
theorem Parted.live (H : Parted X ρ σ w hs lent regs mems cs Xc) (I : Inv X w0 B0 σ a w ρ) {b : Nat} : Live (given ρ hs ++ given ρ hs) (regs ++ mems) b ↔ ∃ (i h : Nat) (r : Reg) (v : Value), hs[i]? = some h ∧ σ.hp[h]? = some r ∧ r.live = true ∧ ρ[h]? = some v ∧ Bk v b := by
  obtain ⟨hl1, hl2, hget⟩ := H.gv.get
  constructor
  · rintro ⟨j, r, v, h1, h2, h3, h4⟩
    rcases Nat.lt_or_ge j regs.length with hj | hj
    · rw [List.getElem?_append_left hj] at h1
      rw [List.getElem?_append_left (by rw [given_len]; omega)] at h3
      obtain ⟨h, hh⟩ : ∃ h, hs[j]? = some h := ⟨hs[j]'(by omega), by simp [show j < hs.length by omega]⟩
      obtain ⟨r', c, e1, e2, ⟨r0, e3, e4, _⟩, _⟩ := hget j h hh
      obtain ⟨v0, hv0, _⟩ := I.hp.val e3
      have := given_get hh hv0
      rw [this] at h3; cases h3
      exact ⟨j, h, r0, _, hh, e3, e4, hv0, h4⟩
    · rw [List.getElem?_append_right hj] at h1
      obtain ⟨v', c, rfl, _⟩ := H.mems_get h1
      cases h2
  · rintro ⟨i, h, r, v, h1, h2, h3, h4, h5⟩
    obtain ⟨r', c, e1, e2, ⟨r0, e3, e4, e5⟩, _⟩ := hget i h h1
    have hi : i < hs.length := (List.getElem?_eq_some_iff.1 h1).1
    exact ⟨i, r', v, by rw [List.getElem?_append_left (by omega)]; exact e1, e5, by rw [List.getElem?_append_left (by rw [given_len]; omega)]; exact given_get h1 h4, h5⟩
theorem Parted.spare (H : Parted X ρ σ w hs lent regs mems cs Xc) (I : Inv X w0 B0 σ a w ρ) : Spare (Av X ρ σ.hp) ρ lent (Av Xc (given ρ hs ++ given ρ hs) (regs ++ mems)) := by
  rintro b (hb | hb)
  · have := (H.xc b).1 hb; exact ⟨this.1, this.2.1⟩
  · obtain ⟨i, h, r, v, h1, h2, h3, h4, h5⟩ := (H.live I).1 hb
    refine ⟨.inr ⟨h, r, v, h2, h3, h4, h5⟩, ?_⟩
    rintro ⟨x, hx, v', hv', hb'⟩
    obtain ⟨hn, hx⟩ := H.lt x hx
    have : ∃ r', σ.hp[x.1]? = some r' ∧ r'.live = true := by
      rcases hx with ⟨sz, L, _, e⟩ | ⟨cs, _, e⟩ | ⟨sz, L, cs, _, e⟩
      · exact ⟨_, e, rfl⟩
      · exact ⟨_, e, rfl⟩
      · exact ⟨_, e, rfl⟩
    obtain ⟨r', e1, e2⟩ := this
    have := I.hp.dis x.1 h r' r v' v b e1 h2 e2 h3 hv' h4 hb' h5
    rw [this] at hn
    exact hn (List.mem_of_getElem? h1)
theorem Parted.hpRel (H : Parted X ρ σ w hs lent regs mems cs Xc) (I : Inv X w0 B0 σ a w ρ) : HpRel Xc (given ρ hs ++ given ρ hs) (regs ++ mems) w := by
  obtain ⟨hl1, hl2, hget⟩ := H.gv.get
  have hS := H.spare I
  have hml : mems.length = hs.length := by rw [H.mm]; simp [given_len, hl2]
  refine ⟨by simp [given_len, hl1, hml], ?_, ?_, fun b hb hx => ((H.xc b).1 hx).2.2 hb⟩
  · intro j r v h1 h3
    rcases Nat.lt_or_ge j regs.length with hj | hj
    · rw [List.getElem?_append_left hj] at h1
      rw [List.getElem?_append_left (by rw [given_len]; omega)] at h3
      obtain ⟨h, hh⟩ : ∃ h, hs[j]? = some h := ⟨hs[j]'(by omega), by simp [show j < hs.length by omega]⟩
      obtain ⟨r', c, e1, e2, ⟨r0, e3, e4, _⟩, _, e5⟩ := hget j h hh
      obtain ⟨v0, hv0, _⟩ := I.hp.val e3
      have := given_get hh hv0
      rw [this] at h3; cases h3
      rw [e1] at h1; cases h1
      exact (e5 _ hv0 _ hS).1
    · rw [List.getElem?_append_right hj] at h1
      rw [List.getElem?_append_right (by rw [given_len]; omega)] at h3
      obtain ⟨v', c, rfl, h4, h5⟩ := H.mems_get h1
      have hi : j - regs.length < hs.length := by have := (List.getElem?_eq_some_iff.1 h1).1; omega
      obtain ⟨h, hh⟩ : ∃ h, hs[j - regs.length]? = some h := ⟨hs[j - regs.length], by simp [hi]⟩
      obtain ⟨r', c', e1, e2, ⟨r0, e3, e4, _⟩, _, e5⟩ := hget _ h hh
      obtain ⟨v0, hv0, _⟩ := I.hp.val e3
      have e6 := given_get hh hv0
      rw [e6] at h5; cases h5
      rw [h4] at e2; cases e2
      have := (e5 _ hv0 _ hS).2 (by rw [Nat.zero_add, List.getElem?_append_left (by rw [given_len]; omega)]; exact e6)
      exact this
  · intro j j' r r' v v' b h1 h1' h2 h2' h3 h3' h4 h4'
    have key : ∀ (j : Nat) (r : Reg) (v : Value), (regs ++ mems)[j]? = some r → r.live = true → (given ρ hs ++ given ρ hs)[j]? = some v → ∃ (h : Nat) (r0 : Reg), hs[j]? = some h ∧ σ.hp[h]? = some r0 ∧ r0.live = true ∧ ρ[h]? = some v := by
      intro j r v h1 h2 h3
      rcases Nat.lt_or_ge j regs.length with hj | hj
      · rw [List.getElem?_append_left (by rw [given_len]; omega)] at h3
        obtain ⟨h, hh⟩ : ∃ h, hs[j]? = some h := ⟨hs[j]'(by omega), by simp [show j < hs.length by omega]⟩
        obtain ⟨r', c, e1, e2, ⟨r0, e3, e4, _⟩, _⟩ := hget j h hh
        obtain ⟨v0, hv0, _⟩ := I.hp.val e3
        have := given_get hh hv0
        rw [this] at h3; cases h3
        exact ⟨h, r0, hh, e3, e4, hv0⟩
      · rw [List.getElem?_append_right hj] at h1
        obtain ⟨v', c, rfl, _⟩ := H.mems_get h1
        cases h2
    obtain ⟨h, r0, e1, e2, e3, e4⟩ := key j r v h1 h2 h3
    obtain ⟨h', r0', e1', e2', e3', e4'⟩ := key j' r' v' h1' h2' h3'
    have := I.hp.dis h h' r0 r0' v v' b e2 e2' e3 e3' e4 e4' h4 h4'
    subst this
    exact nodup_idx H.nd e1 e1'
/-- what came back is taken over -/
theorem Parted.merge' (H : Parted X ρ σ w hs lent regs mems cs Xc) (I : Inv X w0 B0 σ a w ρ) {outs ms new : List Reg} {r : S} {v : Value} {inv : Option Nat} {fr : Lt}
    (ho : outs.length = hs.length) (hms : ms.length = hs.length)
    (hs2 : SRel ρ' (Av Xc ρ' (outs ++ (ms ++ new))) w' v r) (hh : HpRel Xc ρ' (outs ++ (ms ++ new)) w') (hgr : w.heap.size ≤ w'.heap.size) (hst : Str w w')
    (hsame : ∀ b, b < w.heap.size → ¬ Live (given ρ hs ++ given ρ hs) (regs ++ mems) b → w'.heap[b]? = w.heap[b]?)
    (hnl : ∀ b, Live ρ' (outs ++ (ms ++ new)) b → Live (given ρ hs ++ given ρ hs) (regs ++ mems) b ∨ w.heap.size ≤ b)
    (hkept : ∀ (i h : Nat) (v : Value), hs[i]? = some h → ρ[h]? = some v → inv ≠ some h → ρ'[i]? = some v)
    (hmsm : ∀ m ∈ ms, ∃ v c, m = .mem v c)
    (hinv : ∀ h, inv = some h → h ∈ hs ∧ ∀ (i : Nat) (v v' : Value), hs[i]? = some h → ρ[h]? = some v → ρ'[i]? = some v' → Mov v v')
    (hfr : (fr = lent ∧ noBox lent = true) ∨ (fr = [] ∧ (lent = [] ∨ (freeS r = true ∧ ∀ g ∈ outs ++ (ms ++ new), FreeR g)))) :
    ∃ ρ4, Inv X w0 B0 ⟨σ.t.map (S.loseO inv), (fr ++ zipU hs (outs.map (Reg.back (bkH hs (hs.length + hs.length) σ.hp.length)))).foldl (fun hp u => hp.set u.1 u.2) (σ.hp.map (Reg.loseO inv)) ++ new.map (Reg.back (bkH hs (hs.length + hs.length) σ.hp.length))⟩ a w' ρ4 ∧
      (∀ (i h : Nat), hs[i]? = some h → ρ4[h]? = ρ'[i]?) ∧ (∀ j : Nat, ρ4[σ.hp.length + j]? = ρ'[hs.length + hs.length + j]?) ∧ (∀ h : Nat, h ∉ hs → h < ρ.length → ρ4[h]? = ρ[h]?) ∧ Lasts (Av X ρ σ.hp) (Av X ρ4 ((fr ++ zipU hs (outs.map (Reg.back (bkH hs (hs.length + hs.length) σ.hp.length)))).foldl (fun hp u => hp.set u.1 u.2) (σ.hp.map (Reg.loseO inv)) ++ new.map (Reg.back (bkH hs (hs.length + hs.length) σ.hp.length)))) w w' ∧
      SRel ρ4 (Av X ρ4 ((fr ++ zipU hs (outs.map (Reg.back (bkH hs (hs.length + hs.length) σ.hp.length)))).foldl (fun hp u => hp.set u.1 u.2) (σ.hp.map (Reg.loseO inv)) ++ new.map (Reg.back (bkH hs (hs.length + hs.length) σ.hp.length)))) w' v (r.back (bkH hs (hs.length + hs.length) σ.hp.length)) := by
  obtain ⟨hl1, hl2, hget⟩ := H.gv.get
  generalize hf : bkH hs (hs.length + hs.length) σ.hp.length = f
  generalize hhp4 : (fr ++ zipU hs (outs.map (Reg.back f))).foldl (fun hp u => hp.set u.1 u.2) (σ.hp.map (Reg.loseO inv)) ++ new.map (Reg.back f) = hp4
  have hlen := I.hp.len
  have hlen' : ρ'.length = hs.length + (hs.length + new.length) := by rw [hh.len]; simp [ho, hms]
  -- the handles' values
  let ρ4 : Hs := (hs.zip ρ').foldl (fun l u => l.set u.1 u.2) ρ ++ ρ'.drop (hs.length + hs.length)
  have hρl : ((hs.zip ρ').foldl (fun l u => l.set u.1 u.2) ρ).length = ρ.length := foldl_set_len _ _
  have hlt_hs : ∀ (i h : Nat), hs[i]? = some h → h < σ.hp.length := by
    intro i h hi
    obtain ⟨_, _, _, _, ⟨r0, e3, _, _⟩, _⟩ := hget i h hi
    exact (List.getElem?_eq_some_iff.1 e3).1
  have ρ_in : ∀ (i h : Nat), hs[i]? = some h → ρ4[h]? = ρ'[i]? := by
    intro i h hi
    have hlt := hlt_hs i h hi
    have hi' := (List.getElem?_eq_some_iff.1 hi).1
    show (_ ++ _)[h]? = _
    rw [List.getElem?_append_left (by omega)]
    obtain ⟨v', hv'⟩ : ∃ v', ρ'[i]? = some v' := ⟨ρ'[i]'(by omega), by simp [show i < ρ'.length by omega]⟩
    obtain ⟨x, hx, he⟩ := foldl_set_in (us := hs.zip ρ') (h := h) (l := ρ) ⟨(h, v'), List.mem_of_getElem? (i := i) (by rw [List.getElem?_zip_eq_some]; exact ⟨hi, hv'⟩), rfl⟩ (by omega)
    obtain ⟨j, hj⟩ := List.getElem?_of_mem hx
    rw [List.getElem?_zip_eq_some] at hj
    have := nodup_idx H.nd hi hj.1
    subst this
    rw [he, hj.2]
  have ρ_out : ∀ h : Nat, h ∉ hs → h < ρ.length → ρ4[h]? = ρ[h]? := by
    intro h hn hlt
    show (_ ++ _)[h]? = _
    rw [List.getElem?_append_left (by omega)]
    refine foldl_set_out ?_
    rintro u hu rfl
    exact hn (List.of_mem_zip hu).1
  have ρ_new : ∀ j : Nat, ρ4[σ.hp.length + j]? = ρ'[hs.length + hs.length + j]? := by
    intro j
    show (_ ++ _)[_]? = _
    rw [List.getElem?_append_right (by omega), hρl, List.getElem?_drop, hlen, Nat.add_sub_cancel_left]
  have hfrlt : ∀ u ∈ fr, u.1 ∉ hs ∧ (∃ sz L, u.2 = .frz sz L ∧ σ.hp[u.1]? = some (.row sz L)) := by
    intro u hu
    rcases hfr with ⟨rfl, hnb⟩ | ⟨rfl, _⟩
    · obtain ⟨h1, h2⟩ := H.lt u hu
      refine ⟨h1, ?_⟩
      have this : ∀ (l : Lt), noBox l = true → ∀ u ∈ l, ∃ sz L, u.2 = .frz sz L := by
        intro l
        induction l with
        | nil => intro _ u hu; cases hu
        | cons x l ih =>
          intro hb u hu
          obtain ⟨x1, x2⟩ := x
          cases x2 <;> simp only [noBox] at hb <;> try (cases hb; done)
          cases hu with
          | head => exact ⟨_, _, rfl⟩
          | tail _ hu => exact ih hb u hu
      obtain ⟨sz, L, e⟩ := this _ hnb u hu
      rcases h2 with h2 | ⟨cs, e', _⟩ | ⟨sz', L', cs, e', _⟩
      · exact h2
      · rw [e] at e'; cases e'
      · rw [e] at e'; cases e'
    · cases hu
  have hmid : ((fr ++ zipU hs (outs.map (Reg.back f))).foldl (fun hp u => hp.set u.1 u.2) (σ.hp.map (Reg.loseO inv))).length = σ.hp.length := by rw [foldl_set_len]; simp
  have hp_in : ∀ (i h : Nat), hs[i]? = some h → hp4[h]? = (outs[i]?).map (Reg.back f) := by
    intro i h hi
    have hlt := hlt_hs i h hi
    have hi' := (List.getElem?_eq_some_iff.1 hi).1
    rw [← hhp4, List.getElem?_append_left (by omega)]
    obtain ⟨g, hg⟩ : ∃ g, outs[i]? = some g := ⟨outs[i]'(by omega), by simp [show i < outs.length by omega]⟩
    obtain ⟨x, hx, he⟩ := foldl_set_in (us := fr ++ zipU hs (outs.map (Reg.back f))) (h := h) (l := σ.hp.map (Reg.loseO inv)) ⟨(h, g.back f), List.mem_append_right _ (zipU_mem.2 ⟨i, hi, by simp [hg]⟩), rfl⟩ (by simpa using hlt)
    rw [he, hg]
    rcases List.mem_append.1 hx with hx | hx
    · exact absurd (List.mem_of_getElem? hi) (hfrlt _ hx).1
    · obtain ⟨j, h1, h2⟩ := zipU_mem.1 hx
      have := nodup_idx H.nd hi h1
      subst this
      rw [List.getElem?_map, hg] at h2
      exact h2.symm
  have hp_out : ∀ h : Nat, h ∉ hs → h < σ.hp.length → (hp4[h]? = (σ.hp[h]?).map (Reg.loseO inv) ∧ ∀ u ∈ fr, u.1 ≠ h) ∨ (∃ sz L, hp4[h]? = some (.frz sz L) ∧ σ.hp[h]? = some (.row sz L)) := by
    intro h hn hlt
    by_cases hx : ∃ u ∈ fr, u.1 = h
    · right
      obtain ⟨u, hu, rfl⟩ := hx
      obtain ⟨x, hx, he⟩ := foldl_set_in (us := fr ++ zipU hs (outs.map (Reg.back f))) (h := u.1) (l := σ.hp.map (Reg.loseO inv)) ⟨u, List.mem_append_left _ hu, rfl⟩ (by simpa using hlt)
      rw [← hhp4, List.getElem?_append_left (by omega), he]
      rcases List.mem_append.1 hx with hx | hx
      · obtain ⟨_, sz, L, e1, e2⟩ := hfrlt _ hx
        exact ⟨sz, L, congrArg some e1, e2⟩
      · obtain ⟨j, h1, h2⟩ := zipU_mem.1 hx
        exact absurd (List.mem_of_getElem? h1) hn
    · left
      refine ⟨?_, fun u hu e => hx ⟨u, hu, e⟩⟩
      rw [← hhp4, List.getElem?_append_left (by omega), ← List.getElem?_map]
      refine foldl_set_out ?_
      rintro u hu rfl
      rcases List.mem_append.1 hu with hu | hu
      · exact hx ⟨u, hu, rfl⟩
      · obtain ⟨j, h1, h2⟩ := zipU_mem.1 hu
        exact hn (List.mem_of_getElem? h1)
  have hp_new : ∀ j : Nat, hp4[σ.hp.length + j]? = (new[j]?).map (Reg.back f) := by
    intro j
    rw [← hhp4, List.getElem?_append_right (by omega), hmid, Nat.add_sub_cancel_left, List.getElem?_map]
  have hp4len : hp4.length = σ.hp.length + new.length := by rw [← hhp4, List.length_append, hmid, List.length_map]
  have ρ4len : ρ4.length = σ.hp.length + new.length := by
    show ((hs.zip ρ').foldl (fun l u => l.set u.1 u.2) ρ ++ ρ'.drop (hs.length + hs.length)).length = _
    rw [List.length_append, hρl, hlen, List.length_drop, hlen']; omega
  have out_at : ∀ (i : Nat) (g : Reg), outs[i]? = some g → (outs ++ (ms ++ new))[i]? = some g := fun i g hg => by
    rw [List.getElem?_append_left (List.getElem?_eq_some_iff.1 hg).1]; exact hg
  have new_at : ∀ (j : Nat) (g : Reg), new[j]? = some g → (outs ++ (ms ++ new))[hs.length + hs.length + j]? = some g := fun j g hg => by
    rw [List.getElem?_append_right (by omega), List.getElem?_append_right (by omega), ho, hms, show hs.length + hs.length + j - hs.length - hs.length = j by omega]; exact hg
  -- where a handle of now comes from
  have from_ : ∀ (h : Nat) (g : Reg) (v : Value), hp4[h]? = some g → ρ4[h]? = some v →
      (∃ (j : Nat) (g0 : Reg), (outs ++ (ms ++ new))[j]? = some g0 ∧ g = g0.back f ∧ ρ'[j]? = some v ∧ f j = some h ∧ (g0.live = true → j < hs.length ∨ hs.length + hs.length ≤ j)) ∨
      (h ∉ hs ∧ h < σ.hp.length ∧ ρ[h]? = some v ∧ ((∃ g0 : Reg, σ.hp[h]? = some g0 ∧ g = g0.loseO inv ∧ ∀ u ∈ fr, u.1 ≠ h) ∨ ∃ sz L, g = .frz sz L ∧ σ.hp[h]? = some (.row sz L))) := by
    intro h g v hg hv
    rcases Nat.lt_or_ge h σ.hp.length with hlt | hge
    · by_cases hm : h ∈ hs
      · obtain ⟨i, hi⟩ := List.getElem?_of_mem hm
        left
        rw [hp_in i h hi] at hg
        rw [ρ_in i h hi] at hv
        obtain ⟨g0, hg0, rfl⟩ := Option.map_eq_some_iff.1 hg
        have hi' := (List.getElem?_eq_some_iff.1 hi).1
        exact ⟨i, g0, out_at i g0 hg0, rfl, hv, by rw [← hf]; simp [bkH, hi], fun _ => .inl hi'⟩
      · right
        rw [ρ_out h hm (by omega)] at hv
        refine ⟨hm, hlt, hv, ?_⟩
        rcases hp_out h hm hlt with ⟨e, hu⟩ | ⟨sz, L, e, e'⟩
        · rw [e] at hg
          obtain ⟨g0, hg0, rfl⟩ := Option.map_eq_some_iff.1 hg
          exact .inl ⟨g0, hg0, rfl, hu⟩
        · rw [e] at hg; cases hg
          exact .inr ⟨sz, L, rfl, e'⟩
    · left
      obtain ⟨j, rfl⟩ : ∃ j, h = σ.hp.length + j := ⟨h - σ.hp.length, by omega⟩
      rw [hp_new] at hg
      rw [ρ_new] at hv
      obtain ⟨g0, hg0, rfl⟩ := Option.map_eq_some_iff.1 hg
      refine ⟨hs.length + hs.length + j, g0, new_at j g0 hg0, rfl, hv, ?_, fun _ => .inr (by omega)⟩
      rw [← hf]
      unfold bkH
      rw [List.getElem?_eq_none (by omega), Nat.ble_eq_true_of_le (by omega)]
      show some (σ.hp.length + (hs.length + hs.length + j - (hs.length + hs.length))) = _
      rw [show hs.length + hs.length + j - (hs.length + hs.length) = j by omega]
  have hfρ : ∀ (j h : Nat) (v : Value), f j = some h → ρ'[j]? = some v → ρ4[h]? = some v := by
    intro j h v hj hv
    rw [← hf] at hj
    unfold bkH at hj
    split at hj
    · rename_i x hx
      cases hj
      rw [ρ_in j _ hx]; exact hv
    · split at hj
      · rename_i hle
        have := Nat.le_of_ble_eq_true hle
        cases hj
        rw [ρ_new, show hs.length + hs.length + (j - (hs.length + hs.length)) = j by omega]; exact hv
      · cases hj
  have fInj : ∀ j j' h, f j = some h → f j' = some h → j = j' := by
    intro j j' h hj hj'
    rw [← hf] at hj hj'
    unfold bkH at hj hj'
    split at hj
    · rename_i x hx
      cases hj
      split at hj'
      · rename_i x' hx'
        cases hj'
        exact nodup_idx H.nd hx hx'
      · split at hj'
        · cases hj'; have := hlt_hs _ _ hx; omega
        · cases hj'
    · split at hj
      · rename_i hle
        have := Nat.le_of_ble_eq_true hle
        cases hj
        split at hj'
        · rename_i x' hx'
          have := hlt_hs _ _ hx'
          cases hj'; omega
        · split at hj'
          · rename_i hle'
            have := Nat.le_of_ble_eq_true hle'
            have := Option.some.inj hj'; omega
          · cases hj'
      · cases hj
  -- blocks of one's own now
  have live4 : ∀ b, Live ρ4 hp4 b → Live ρ' (outs ++ (ms ++ new)) b ∨ ∃ (h : Nat) (g : Reg) (v : Value), h ∉ hs ∧ σ.hp[h]? = some g ∧ g.live = true ∧ ρ[h]? = some v ∧ Bk v b ∧ ∀ u ∈ fr, u.1 ≠ h := by
    rintro b ⟨h, g, v, hg, hl, hv, hb⟩
    rcases from_ h g v hg hv with ⟨j, g0, h1, rfl, h3, _, _⟩ | ⟨h1, h2, h3, ⟨g0, h4, rfl, h5⟩ | ⟨sz, L, rfl, _⟩⟩
    · exact .inl ⟨j, g0, v, h1, by rwa [live_back] at hl, h3, hb⟩
    · exact .inr ⟨h, g0, v, h1, h4, by rwa [live_loseO] at hl, h3, hb, h5⟩
    · cases hl
  have givenAv : ∀ b, Live (given ρ hs ++ given ρ hs) (regs ++ mems) b → Live ρ σ.hp b := fun b hb => by
    obtain ⟨i, h, r, v, h1, h2, h3, h4, h5⟩ := (H.live I).1 hb
    exact ⟨h, r, v, h2, h3, h4, h5⟩
  have otherN : ∀ (h : Nat) (g : Reg) (v : Value) (b : Nat), h ∉ hs → σ.hp[h]? = some g → g.live = true → ρ[h]? = some v → Bk v b → ¬ Live (given ρ hs ++ given ρ hs) (regs ++ mems) b := by
    intro h g v b hn hg hl hv hb hL
    obtain ⟨i, h', r, v', h1, h2, h3, h4, h5⟩ := (H.live I).1 hL
    have := I.hp.dis h h' g r v v' b hg h2 hl h3 hv h4 hb h5
    subst this
    exact hn (List.mem_of_getElem? h1)
  have lentLive : ∀ b, Lent ρ lent b → ∃ (h : Nat) (g : Reg) (v : Value), h ∉ hs ∧ σ.hp[h]? = some g ∧ g.live = true ∧ ρ[h]? = some v ∧ Bk v b ∧ ∃ u ∈ lent, u.1 = h := by
    rintro b ⟨x, hx, v, hv, hb⟩
    obtain ⟨hn, h⟩ := H.lt x hx
    rcases h with ⟨sz, L, _, e⟩ | ⟨cs, _, e⟩ | ⟨sz, L, cs, _, e⟩
    · exact ⟨x.1, _, v, hn, e, rfl, hv, hb, x, hx, rfl⟩
    · exact ⟨x.1, _, v, hn, e, rfl, hv, hb, x, hx, rfl⟩
    · exact ⟨x.1, _, v, hn, e, rfl, hv, hb, x, hx, rfl⟩
  -- either nothing lent is anybody's any more, or it does not matter
  have hA : (∀ b, Av X ρ4 hp4 b → Av Xc ρ' (outs ++ (ms ++ new)) b) ∨ (freeS r = true ∧ ∀ g ∈ outs ++ (ms ++ new), FreeR g) := by
    have base : ∀ (nl : ∀ (b h : Nat) (g : Reg) (v : Value), h ∉ hs → σ.hp[h]? = some g → g.live = true → ρ[h]? = some v → Bk v b → (∀ u ∈ fr, u.1 ≠ h) → ¬ Lent ρ lent b), ∀ b, Av X ρ4 hp4 b → Av Xc ρ' (outs ++ (ms ++ new)) b := by
      intro nl b hb
      rcases hb with hx | hb
      · refine .inl ((H.xc b).2 ⟨.inl hx, fun hl => ?_, fun hl => I.hp.fre b (givenAv b hl) hx⟩)
        obtain ⟨h, g, v, _, h2, h3, h4, h5, _⟩ := lentLive b hl
        exact I.hp.fre b ⟨h, g, v, h2, h3, h4, h5⟩ hx
      · rcases live4 b hb with hb | ⟨h, g, v, h1, h2, h3, h4, h5, h6⟩
        · exact .inr hb
        · exact .inl ((H.xc b).2 ⟨.inr ⟨h, g, v, h2, h3, h4, h5⟩, nl b h g v h1 h2 h3 h4 h5 h6, otherN h g v b h1 h2 h3 h4 h5⟩)
    rcases hfr with ⟨rfl, _⟩ | ⟨rfl, rfl | hF⟩
    · refine .inl (base ?_)
      rintro b h g v h1 h2 h3 h4 h5 h6 hl
      obtain ⟨h', g', v', _, e2, e3, e4, e5, u, hu, rfl⟩ := lentLive b hl
      exact h6 u hu (I.hp.dis u.1 h g' g v' v b e2 h2 e3 h3 e4 h4 e5 h5)
    · exact .inl (base (fun b h g v _ _ _ _ _ _ ⟨x, hx, _⟩ => by cases hx))
    · exact .inr hF
  have hL : Lasts (Av X ρ σ.hp) (Av X ρ4 hp4) w w' := ⟨hgr, fun b hb hn => hsame b hb fun hl => hn (.inr (givenAv b hl)), fun b hb h => by
    rcases h with h | h
    · exact .inl h
    · rcases live4 b h with h | ⟨h, g, v, h1, h2, h3, h4, h5, _⟩
      · rcases hnl b h with h | h
        · exact .inr (givenAv b h)
        · omega
      · exact .inr ⟨h, g, v, h2, h3, h4, h5⟩⟩
  have hK : Keeps inv ρ ρ4 := ⟨fun h v hne hv => by
    by_cases hm : h ∈ hs
    · obtain ⟨i, hi⟩ := List.getElem?_of_mem hm
      rw [ρ_in i h hi]; exact hkept i h v hi hv hne
    · rw [ρ_out h hm (List.getElem?_eq_some_iff.1 hv).1]; exact hv, fun h v e hv => by
    obtain ⟨hm, hr⟩ := hinv h e
    obtain ⟨i, hi⟩ := List.getElem?_of_mem hm
    have hi' := (List.getElem?_eq_some_iff.1 hi).1
    have hx : ρ'[i]? = some (ρ'[i]'(by omega)) := by simp [show i < ρ'.length by omega]
    exact ⟨ρ'[i]'(by omega), by rw [ρ_in i h hi]; exact hx, hr i v _ hi hv hx⟩⟩
  refine ⟨ρ4, ⟨⟨by rw [hp4len, ρ4len], ?_, ?_, ?_⟩, fun i s h => ?_, by simp only [List.length_map]; exact I.sz, I.de, Nat.le_trans I.gr hgr, fun b hb hB => ?_, fun b hb => ?_, I.xs, I.st.trans hst⟩, ρ_in, ρ_new, ρ_out, hL, ?_⟩
  · intro h g v hg hv
    rcases from_ h g v hg hv with ⟨j, g0, h1, rfl, h3, _, _⟩ | ⟨h1, h2, h3, ⟨g0, h4, rfl, h5⟩ | ⟨sz, L, rfl, h4⟩⟩
    · have hR := hh.reg j g0 v h1 h3
      rcases hA with hA | hF
      · exact hR.back hA hfρ
      · exact RegRel.back (A := Av X ρ4 hp4) (fun _ h => h) hfρ (freeR_ok (hF.2 g0 (List.mem_of_getElem? h1)) hR)
    · have hR := I.hp.reg h g0 v h4 h3
      refine RegRel.lasts hL hK hR fun hl b hb => hsame b (hR.block hl hb) (otherN h g0 v b h1 h4 hl h3 hb)
    · have hR := I.hp.reg h _ v h4 h3
      obtain ⟨x, c, rfl, hc, hz, hR⟩ := hR
      show Rd _ w' _ (.sl sz L)
      simp only [Rd]
      refine ⟨x, c, rfl, hc, ?_⟩
      cases c with
      | zero => exact .inl (List.length_eq_zero_iff.1 (by omega))
      | succ c =>
        rcases hR with hR | ⟨b, off, Tb, cur, rfl, hcur, _, hLL⟩
        · cases hR
        · have hblt := (Array.getElem?_eq_some_iff.1 hcur).1
          have hno := otherN h _ _ b h1 h4 rfl h3 rfl
          refine .inr ⟨b, off, rfl, ⟨Nat.lt_of_lt_of_le hblt hgr, ?_⟩, RdL.rows hL (hsame b hblt hno) hLL⟩
          rintro (hx | hl)
          · exact I.hp.fre b ⟨h, _, _, h4, rfl, h3, rfl⟩ hx
          · rcases live4 b hl with hl | ⟨h', g', v', e1, e2, e3, e4, e5, e6⟩
            · rcases hnl b hl with hl | hl
              · exact hno hl
              · omega
            · have := I.hp.dis h h' _ g' _ v' b h4 e2 rfl e3 h3 e4 rfl e5
              subst this
              -- it was frozen: so it stands among what was
              rcases hp_out h h1 h2 with ⟨e, _⟩ | _
              · rw [h4] at e; rw [hg] at e; cases inv <;> cases e
              · by_cases hx : ∃ u ∈ fr, u.1 = h
                · obtain ⟨u, hu, rfl⟩ := hx; exact e6 u hu rfl
                · have e : hp4[h]? = (σ.hp[h]?).map (Reg.loseO inv) := by
                    rw [← hhp4, List.getElem?_append_left (by omega), ← List.getElem?_map]
                    refine foldl_set_out ?_
                    rintro u hu rfl
                    rcases List.mem_append.1 hu with hu | hu
                    · exact hx ⟨u, hu, rfl⟩
                    · obtain ⟨j, h1', h2'⟩ := zipU_mem.1 hu
                      exact h1 (List.mem_of_getElem? h1')
                  rw [h4, hg] at e; cases inv <;> cases e
  · intro h h' g g' v v' b hg hg' hl hl' hv hv' hb hb'
    rcases from_ h g v hg hv with ⟨j, g0, h1, rfl, h3, hf1, _⟩ | ⟨h1, h2, h3, ⟨g0, h4, rfl, h5⟩ | ⟨sz, L, rfl, h4⟩⟩
    · rcases from_ h' g' v' hg' hv' with ⟨j', g0', h1', rfl, h3', hf1', _⟩ | ⟨h1', h2', h3', ⟨g0', h4', rfl, h5'⟩ | ⟨sz, L, rfl, h4'⟩⟩
      · have := hh.dis j j' g0 g0' v v' b h1 h1' (by rwa [live_back] at hl) (by rwa [live_back] at hl') h3 h3' hb hb'
        subst this
        rw [hf1] at hf1'; exact Option.some.inj hf1'
      · exfalso
        rw [live_loseO] at hl'
        rcases hnl b ⟨j, g0, v, h1, by rwa [live_back] at hl, h3, hb⟩ with e | e
        · exact otherN h' g0' v' b h1' h4' hl' h3' hb' e
        · have := (I.hp.reg h' g0' v' h4' h3').block hl' hb'; omega
      · cases hl'
    · rcases from_ h' g' v' hg' hv' with ⟨j', g0', h1', rfl, h3', hf1', _⟩ | ⟨h1', h2', h3', ⟨g0', h4', rfl, h5'⟩ | ⟨sz, L, rfl, h4'⟩⟩
      · exfalso
        rw [live_loseO] at hl
        rcases hnl b ⟨j', g0', v', h1', by rwa [live_back] at hl', h3', hb'⟩ with e | e
        · exact otherN h g0 v b h1 h4 hl h3 hb e
        · have := (I.hp.reg h g0 v h4 h3).block hl hb; omega
      · rw [live_loseO] at hl hl'
        exact I.hp.dis h h' g0 g0' v v' b h4 h4' hl hl' h3 h3' hb hb'
      · cases hl'
    · cases hl
  · intro b hb hx
    rcases live4 b hb with hb | ⟨h, g, v, h1, h2, h3, h4, h5, _⟩
    · rcases hnl b hb with h | h
      · exact I.hp.fre b (givenAv b h) hx
      · have := I.xs b hx; have := I.gr; omega
    · exact I.hp.fre b ⟨h, g, v, h2, h3, h4, h5⟩ hx
  · rw [List.getElem?_map] at h
    obtain ⟨s0, h0, rfl⟩ := Option.map_eq_some_iff.1 h
    exact (I.t i s0 h0).lasts hL hK
  · refine (hsame b (Nat.lt_of_lt_of_le hb I.gr) fun hl => ?_).trans (I.fr b hb hB)
    rcases I.ow b (givenAv b hl) with h | h
    · exact hB h
    · omega
  · rcases live4 b hb with hb | ⟨h, g, v, h1, h2, h3, h4, h5, _⟩
    · rcases hnl b hb with h | h
      · exact I.ow b (givenAv b h)
      · exact .inr (Nat.le_trans I.gr h)
    · exact I.ow b ⟨h, g, v, h2, h3, h4, h5⟩
  · rcases hA with hA | hF
    · exact hs2.back hA hfρ
    · exact SRel.back (A := Av X ρ4 hp4) (fun _ h => h) hfρ (freeS_ok hF.1 hs2)
theorem Parted.merge (H : Parted X ρ σ w hs lent regs mems cs Xc) (I : Inv X w0 B0 σ a w ρ) {outs ms new : List Reg} {r : S} {v : Value} {inv : Option Nat} {fr : Lt}
    (ho : outs.length = hs.length) (hms : ms.length = hs.length)
    (hs2 : SRel ρ' (Av Xc ρ' (outs ++ (ms ++ new))) w' v r) (hh : HpRel Xc ρ' (outs ++ (ms ++ new)) w') (hgr : w.heap.size ≤ w'.heap.size) (hst : Str w w')
    (hsame : ∀ b, b < w.heap.size → ¬ Live (given ρ hs ++ given ρ hs) (regs ++ mems) b → w'.heap[b]? = w.heap[b]?)
    (hnl : ∀ b, Live ρ' (outs ++ (ms ++ new)) b → Live (given ρ hs ++ given ρ hs) (regs ++ mems) b ∨ w.heap.size ≤ b)
    (hkept : ∀ (i h : Nat) (v : Value), hs[i]? = some h → ρ[h]? = some v → inv ≠ some h → ρ'[i]? = some v)
    (hmsm : ∀ m ∈ ms, ∃ v c, m = .mem v c)
    (hinv : ∀ h, inv = some h → h ∈ hs ∧ ∀ (i : Nat) (v v' : Value), hs[i]? = some h → ρ[h]? = some v → ρ'[i]? = some v' → Mov v v')
    (hfr : (fr = lent ∧ noBox lent = true) ∨ (fr = [] ∧ (lent = [] ∨ (freeS r = true ∧ ∀ g ∈ outs ++ (ms ++ new), FreeR g)))) :
    ∃ ρ4, Inv X w0 B0 ⟨σ.t.map (S.loseO inv), (fr ++ zipU hs (outs.map (Reg.back (bkH hs (hs.length + hs.length) σ.hp.length)))).foldl (fun hp u => hp.set u.1 u.2) (σ.hp.map (Reg.loseO inv)) ++ new.map (Reg.back (bkH hs (hs.length + hs.length) σ.hp.length))⟩ a w' ρ4 ∧
      SRel ρ4 (Av X ρ4 ((fr ++ zipU hs (outs.map (Reg.back (bkH hs (hs.length + hs.length) σ.hp.length)))).foldl (fun hp u => hp.set u.1 u.2) (σ.hp.map (Reg.loseO inv)) ++ new.map (Reg.back (bkH hs (hs.length + hs.length) σ.hp.length)))) w' v (r.back (bkH hs (hs.length + hs.length) σ.hp.length)) := by
  obtain ⟨ρ4, h1, _, _, _, _, h2⟩ := H.merge' I ho hms hs2 hh hgr hst hsame hnl hkept hmsm hinv hfr
  exact ⟨ρ4, h1, h2⟩
end parted
/-- the world went on, and nothing that was is changed -/
theorem Inv.goes (I : Inv X w0 B0 σ a w ρ) (hg : w.heap.size ≤ w'.heap.size) (hst : Str w w') (hsame : ∀ b, b < w.heap.size → w'.heap[b]? = w.heap[b]?) : Inv X w0 B0 σ a w' ρ := by
  have hL : Lasts (Av X ρ σ.hp) (Av X ρ σ.hp) w w' := ⟨hg, fun b hb _ => hsame b hb, fun b hb h => h⟩
  have hK := Keeps.refl ρ
  exact ⟨⟨I.hp.len, fun h r v h1 h3 => by
      have hR := I.hp.reg h r v h1 h3
      exact RegRel.lasts (inv := none) hL hK hR fun hl b hb => hsame b (hR.block hl hb), I.hp.dis, I.hp.fre⟩, fun i s h => (I.t i s h).lasts hL hK, I.sz, I.de, Nat.le_trans I.gr hg,
    fun b hb hB => (hsame b (Nat.lt_of_lt_of_le hb I.gr)).trans (I.fr b hb hB), I.ow, I.xs, I.st.trans hst⟩
theorem Cap.back_some (c : Cap) : c.back some = c := by cases c <;> rfl
theorem C.back_some (c : C) : c.back some = c := by
  cases c <;> simp only [C.back]
  rw [show Cap.back some = id from funext Cap.back_some, List.map_id]
theorem Reg.back_some (r : Reg) : r.back some = r := by
  cases r <;> simp only [Reg.back]
  · rw [show C.back some = id from funext C.back_some, List.map_id]
  · rw [show C.back some = id from funext C.back_some, List.map_id]
  · rw [C.back_some]
/-- rows that are no longer written -/
def FrzOk (hp : List Reg) (l : Lt) : Prop := ∀ x ∈ l, ∃ sz L, x.2 = .frz sz L ∧ hp[x.1]? = some (.row sz L)
theorem FrzOk.nil {hp : List Reg} : FrzOk hp [] := fun x hx => by cases hx
theorem FrzOk.append {hp : List Reg} {l l' : Lt} (h : FrzOk hp l) (h' : FrzOk hp l') : FrzOk hp (l ++ l') := fun x hx => (List.mem_append.1 hx).elim (h x) (h' x)
theorem FrzOk.row {hp : List Reg} {h sz : Nat} {L : List (List D)} (hr : hp[h]? = some (.row sz L)) : FrzOk hp [(h, .frz sz L)] := by
  intro x hx
  simp at hx; subst hx
  exact ⟨_, _, rfl, hr⟩
theorem FrzOk.lent {hp : List Reg} {l : Lt} (h : FrzOk hp l) : LentOk hp [] l := fun x hx => ⟨by simp, by obtain ⟨sz, L, h1, h2⟩ := h x hx; exact .inl ⟨sz, L, h1, h2⟩⟩
theorem viewK_ok (I : Inv X w0 B0 σ a w ρ) {c : C} {u : Value} {k : D → Lt → Prop} (hc : CRel ρ (Av X ρ σ.hp) w u c) (h : viewK σ.hp c k) :
    ∃ x l, k x l ∧ FrzOk σ.hp l ∧ ∀ Ac, Spare (Av X ρ σ.hp) ρ l Ac → Rd Ac w u x := by
  have key : seeC σ.hp [] c (fun x l => k x l ∧ FrzOk σ.hp l) := by
    unfold viewK at h
    unfold seeC
    split at h
    · exact ⟨h, .nil⟩
    · exact ⟨h, .nil⟩
    · rename_i hd
      obtain ⟨r, hr, h⟩ := nthK_ok h
      refine (nthK_of hr ?_ : nthK σ.hp hd _)
      split at h
      · exact ⟨h, .row hr⟩
      · exact ⟨h, .nil⟩
      · exact h.elim
    · rename_i hd sz lo n
      obtain ⟨r, hr, h⟩ := nthK_ok h
      refine (nthK_of hr ?_ : nthK σ.hp hd _)
      split at h
      · obtain ⟨h1, h2⟩ := tt_ok h
        dsimp only
        rw [h1]
        obtain rfl := Nat.eq_of_beq_eq_true h1
        exact ⟨h2, .row hr⟩
      · exact h.elim
    · exact h.elim
  obtain ⟨x, l, ⟨h1, h2⟩, _, h3⟩ := seeC_ok I hc key
  exact ⟨x, l, h1, h2, h3⟩
theorem viewsK_ok (I : Inv X w0 B0 σ a w ρ) {cs : List C} : ∀ {us : List Value} {k : List D → Lt → Prop}, All2 (fun u c => Flat u ∧ CRel ρ (Av X ρ σ.hp) w u c) us cs → viewsK σ.hp cs k →
    ∃ xs l, k xs l ∧ FrzOk σ.hp l ∧ ∀ Ac, Spare (Av X ρ σ.hp) ρ l Ac → All2 (Rd Ac w) us xs := by
  induction cs with
  | nil => intro us k hc h; cases hc; exact ⟨_, _, h, .nil, fun _ _ => .nil⟩
  | cons c cs ih =>
    intro us k hc h
    cases hc with
    | cons hu hc =>
    obtain ⟨x, l, h, h1, h2⟩ := viewK_ok I hu.2 h
    obtain ⟨xs, l', h, h3, h4⟩ := ih hc h
    exact ⟨_, _, appK_ok h, h1.append h3, fun Ac hA => .cons (h2 Ac hA.left) (h4 Ac hA.right)⟩
theorem Inv.freezes (I : Inv X w0 B0 σ a w ρ) {l : Lt} (hl : FrzOk σ.hp l) : Inv X w0 B0 ⟨σ.t, l.foldl (fun hp u => hp.set u.1 u.2) σ.hp⟩ a w ρ ∧ Spare (Av X ρ σ.hp) ρ l (Av X ρ (l.foldl (fun hp u => hp.set u.1 u.2) σ.hp)) := by
  generalize hhp : l.foldl (fun hp u => hp.set u.1 u.2) σ.hp = hp1
  have hlen : hp1.length = σ.hp.length := by rw [← hhp]; exact foldl_set_len _ _
  have from_ : ∀ (h : Nat) (g : Reg), hp1[h]? = some g → (σ.hp[h]? = some g ∧ ∀ u ∈ l, u.1 ≠ h) ∨ ∃ sz L, g = .frz sz L ∧ σ.hp[h]? = some (.row sz L) ∧ (h, g) ∈ l := by
    intro h g hg
    have hlt : h < σ.hp.length := by rw [← hlen]; exact (List.getElem?_eq_some_iff.1 hg).1
    by_cases hx : ∃ u ∈ l, u.1 = h
    · right
      obtain ⟨x, h1, h2⟩ := foldl_set_in (l := σ.hp) hx hlt
      rw [hhp, hg] at h2; cases h2
      obtain ⟨sz, L, h3, h4⟩ := hl _ h1
      exact ⟨sz, L, h3, h4, h1⟩
    · left
      have hno : ∀ u ∈ l, u.1 ≠ h := fun u hu e => hx ⟨u, hu, e⟩
      have := foldl_set_out (l := σ.hp) hno
      rw [hhp, hg] at this
      exact ⟨this.symm, hno⟩
  have live1 : ∀ b, Live ρ hp1 b → ∃ (h : Nat) (g : Reg) (v : Value), σ.hp[h]? = some g ∧ g.live = true ∧ ρ[h]? = some v ∧ Bk v b ∧ ∀ u ∈ l, u.1 ≠ h := by
    rintro b ⟨h, g, v, h1, h2, h3, h4⟩
    rcases from_ h g h1 with ⟨e, e'⟩ | ⟨sz, L, rfl, _⟩
    · exact ⟨h, g, v, e, h2, h3, h4, e'⟩
    · cases h2
  have liveUp : ∀ b, Live ρ hp1 b → Live ρ σ.hp b := fun b hb => by obtain ⟨h, g, v, h1, h2, h3, h4, _⟩ := live1 b hb; exact ⟨h, g, v, h1, h2, h3, h4⟩
  have hS : Spare (Av X ρ σ.hp) ρ l (Av X ρ hp1) := by
    rintro b (hb | hb)
    · refine ⟨.inl hb, ?_⟩
      rintro ⟨x, hx, v, hv, hbv⟩
      obtain ⟨sz, L, _, h4⟩ := hl x hx
      exact I.hp.fre b ⟨x.1, _, v, h4, rfl, hv, hbv⟩ hb
    · refine ⟨.inr (liveUp b hb), ?_⟩
      rintro ⟨x, hx, v, hv, hbv⟩
      obtain ⟨sz, L, _, e4⟩ := hl x hx
      obtain ⟨h, g, v', h1, h2, h3, h4, h5⟩ := live1 b hb
      exact h5 x hx (I.hp.dis x.1 h _ g v v' b e4 h1 rfl h2 hv h3 hbv h4)
  refine ⟨⟨⟨by rw [I.hp.len, hlen], ?_, ?_, fun b hb hx => I.hp.fre b (liveUp b hb) hx⟩, fun i s h => (I.t i s h).less fun b hb => (hS b hb).1, I.sz, I.de, I.gr, I.fr, fun b hb => I.ow b (liveUp b hb), I.xs, I.st⟩, hS⟩
  · intro h g v h1 h3
    rcases from_ h g h1 with ⟨e, e'⟩ | ⟨sz, L, rfl, e, e'⟩
    · have := RegRel.back (f := some) (ρ' := ρ) (fun b hb => (hS b hb).1) (fun j h v e hv => by cases e; exact hv) (I.hp.reg h g v e h3)
      have hid : g.back some = g := Reg.back_some g
      rwa [hid] at this
    · exact row_seen I e h3 (hS.less (fun x hx => by simp at hx; subst hx; exact e'))
  · intro h h' g g' v v' b h1 h1' h2 h2' h3 h3' h4 h4'
    rcases from_ h g h1 with ⟨e, _⟩ | ⟨sz, L, rfl, _⟩
    · rcases from_ h' g' h1' with ⟨e', _⟩ | ⟨sz, L, rfl, _⟩
      · exact I.hp.dis h h' g g' v v' b e e' h2 h2' h3 h3' h4 h4'
      · cases h2'
    · cases h2
theorem CapRel.toC {A : Nat → Prop} {v : Value} {c : Cap} (h : CapRel ρ A w v c) : SRel ρ A w v (.one c.toC) := by
  cases c <;> simp only [CapRel] at h
  case ptr => exact h
  case pel => exact h
  case d => exact h
  case emp => exact h
  case own => exact h
  case fn0 => subst h; exact ⟨#[], rfl, .nil⟩
  case junk => trivial
theorem lentK_ok {lent : Lt} {fz : Bool} {r : S} {out : List Reg} {k : Lt → Prop} (h : lentK lent fz r out k) :
    ∃ fr, k fr ∧ ((fr = lent ∧ noBox lent = true) ∨ (fr = [] ∧ (lent = [] ∨ (freeS r = true ∧ ∀ g ∈ out, FreeR g)))) := by
  cases lent with
  | nil => exact ⟨[], h, .inr ⟨rfl, .inl rfl⟩⟩
  | cons x l => cases fz with
    | true => obtain ⟨h1, h2⟩ := tt_ok h; exact ⟨_, h2, .inl ⟨rfl, h1⟩⟩
    | false => obtain ⟨h1, h2⟩ := tt_ok h; obtain ⟨h3, h4⟩ := FreeRs_ok h2; exact ⟨_, h4, .inr ⟨rfl, .inr ⟨h1, h3⟩⟩⟩
variable (hT : TyOk P Γ.ty) (hΓ : ∀ f R, Γ.fns f = some R → Snd P f R) (hg : GdOk gd)
include hT hΓ hg in
theorem call_wp (I : Inv X w0 B0 σ a w ρ) {dst : Option Tmp} {ty : TypeId} {pos : String} {after : Array Edge} {guard : Option (Nat × Bool)} {x : Operand} {args : Array Operand} {argTypes : Array TypeId} {K : St → Prop}
    (h : evM Γ gd ⟨dst, .call ⟨.value x, args, argTypes⟩, ty, pos, after, guard⟩ σ.t σ.hp (fun s upd new inv => σ.apply dst s upd new inv K)) {next : Act → World → Prop}
    (hn : ∀ σ' a' w' ρ', K σ' → Inv X w0 B0 σ' a' w' ρ' → next a' w') : (⟨dst, .call ⟨.value x, args, argTypes⟩, ty, pos, after, guard⟩ : Oper).wp P a w next Q := by
  unfold evM at h
  simp only [] at h
  replace h := operand_ok hT I.t I.gla hg h
  obtain ⟨s, h, hs0⟩ := h
  split at h
  rotate_left
  · exact h.elim
  rename_i f caps
  obtain ⟨vs, hx0, hvs⟩ : CRel ρ _ w (a.eval x) (.fn f caps) := hs0
  replace h := operands_ok hT I.t I.gla hg h
  obtain ⟨ss, h, hss⟩ := h
  split at h
  · exact h.elim
  · rename_i R hR
    have hsnd := hΓ f R hR
    obtain ⟨hs, em, fz, h⟩ := h
    obtain ⟨hd, h⟩ := tt_ok h
    have hnd := distinct_ok hd
    have hρc : ∀ (i h : Nat) (v : Value), hs[i]? = some h → ρ[h]? = some v → (given ρ hs ++ given ρ hs)[i]? = some v := fun i h v hi hv => by
      rw [List.getElem?_append_left (by rw [given_len]; exact (List.getElem?_eq_some_iff.1 hi).1)]; exact given_get hi hv
    obtain ⟨ss', l1, h, hl1, hss'⟩ := lendSs_ok hρc I hss h
    obtain ⟨caps', l2, h, hl2, hcs'⟩ := lendCaps_ok hρc I hvs h
    obtain ⟨regs, cs, l3, h, hl3, hgv⟩ := giveK_ok hρc I h
    replace h := appK_ok (appK_ok h)
    obtain ⟨hrl, hcl, hget⟩ := hgv.get
    replace h := memK_ok (vs := given ρ hs) (by rw [given_len, hcl]) h
    obtain ⟨r, out, hRr, h⟩ := h
    replace h := lenK_ok h
    rw [Nat.zero_add] at h
    obtain ⟨hn1, h⟩ := takeK_ok h
    obtain ⟨_, h⟩ := dropK_ok h
    obtain ⟨hn2, h⟩ := takeK_ok h
    obtain ⟨_, h⟩ := dropK_ok h
    obtain ⟨hmk, h⟩ := tt_ok h
    obtain ⟨hms, inv, h7, _, hinv, hkp⟩ := lostK_ok h
    clear h
    obtain ⟨fr, h8, hfr⟩ := lentK_ok h7
    clear h7
    replace h8 := lenK_ok h8
    rw [Nat.zero_add] at h8
    have hout : out.take hs.length ++ ((out.drop hs.length).take hs.length ++ (out.drop hs.length).drop hs.length) = out := by rw [List.take_append_drop, List.take_append_drop]
    have hol : (out.take hs.length).length = hs.length := by simp; omega
    generalize out.take hs.length = outs at *
    generalize (out.drop hs.length).take hs.length = ms at *
    generalize (out.drop hs.length).drop hs.length = new at *
    subst hout
    let Xc : Nat → Prop := fun b => Av X ρ σ.hp b ∧ ¬ Lent ρ (l1 ++ l2 ++ l3) b ∧ ¬ Live (given ρ hs ++ given ρ hs) (regs ++ List.zipWith Reg.mem (given ρ hs) cs) b
    have H : Parted X ρ σ w hs (l1 ++ l2 ++ l3) regs (List.zipWith Reg.mem (given ρ hs) cs) cs Xc :=
      ⟨hnd, (hl1.append hl2).append hl3, hgv.less hρc fun x hx => List.mem_append_right _ hx, rfl, fun b => Iff.rfl⟩
    have hspare := H.spare I
    have hargs : All2 (SRel (given ρ hs ++ given ρ hs) (Av Xc (given ρ hs ++ given ρ hs) (regs ++ List.zipWith Reg.mem (given ρ hs) cs)) w) (args.map a.eval ++ vs).toList (ss' ++ caps'.map fun c => .one c.toC) := by
      rw [Array.toList_append]
      refine All2.append ?_ ?_
      · have := hss' _ hspare.left.left
        simpa using this
      · have := hcs' _ hspare.left.right
        exact this.mapR fun _ _ h => h.toC
    have hXw : ∀ b, Xc b → b < w.heap.size := by
      rintro b ⟨h | h, _⟩
      · exact Nat.lt_of_lt_of_le (I.xs b h) I.gr
      · exact I.hp.lt h
    have hgl : ∀ b, Live ρ σ.hp b → ∀ g l, (g, l) ∈ globs → b ≠ g := by
      rintro b hl g l hg rfl
      obtain ⟨h1, h2, h3, h4⟩ := hGP.gl b l hg
      rcases I.ow b hl with h | h
      · exact h3 h
      · omega
    have hGs : GP Xc w := by
      refine ⟨fun g l hg => ?_⟩
      obtain ⟨h1, h2, h3, h4⟩ := hGP.gl g l hg
      refine ⟨Nat.lt_of_lt_of_le h1 I.gr, ?_, fun h => h, RdC.any (I.fr g h1 h3) h4 (globs_flat hg)⟩
      rintro ⟨hx | hl, _⟩
      · exact h2 hx
      · exact hgl g hl g l hg rfl
    have hlive : ∀ b, Live (given ρ hs ++ given ρ hs) (regs ++ List.zipWith Reg.mem (given ρ hs) cs) b → Live ρ σ.hp b := fun b hb => by
      obtain ⟨i, h, r, v, h1, h2, h3, h4, h5⟩ := (H.live I).1 hb
      exact ⟨h, r, v, h2, h3, h4, h5⟩
    suffices fin : ∀ v w', (∃ ρ', SRel ρ' (Av Xc ρ' (outs ++ (ms ++ new))) w' v r ∧ HpRel Xc ρ' (outs ++ (ms ++ new)) w' ∧ w.heap.size ≤ w'.heap.size ∧ Str w w' ∧ (∀ b, b < w.heap.size → ¬ Live (given ρ hs ++ given ρ hs) (regs ++ List.zipWith Reg.mem (given ρ hs) cs) b → w'.heap[b]? = w.heap[b]?) ∧ ∀ b, Live ρ' (outs ++ (ms ++ new)) b → Live (given ρ hs ++ given ρ hs) (regs ++ List.zipWith Reg.mem (given ρ hs) cs) b ∨ w.heap.size ≤ b) → next (a.put dst v) w' by
      rcases hsnd with ⟨hok, hent⟩ | hext
      · have hrun : (execOp a.eval ⟨dst, .call ⟨.value x, args, argTypes⟩, ty, pos, after, guard⟩).run P w = .ok (.enter f (args.map a.eval ++ vs)) w := by
          have := run_enter (w := w) hent (args.map a.eval ++ vs)
          simp [execOp, resolve, hx0, Deferred.ofValue, invoke, this]
        unfold Oper.wp
        rw [hrun]
        show Calls P f (args.map a.eval ++ vs) w _
        refine (hok Xc w (args.map a.eval ++ vs) _ _ _ r _ hGs hXw (H.hpRel I) (fun b hb => hgl b (hlive b hb)) hargs hRr).mono ?_
        rintro e w' ⟨v, ρ', rfl, h⟩
        exact fin v w' ⟨ρ', h⟩
      · obtain ⟨v, ρ', w', hrun, h⟩ := hext Xc w (args.map a.eval ++ vs) _ _ _ r _ hGs hXw (H.hpRel I) hargs hRr
        exact wp_value (by simp [execOp, resolve, hx0, Deferred.ofValue, invoke, hrun]) (fin v w' ⟨ρ', h⟩)
    rintro v w' ⟨ρ', hs2, hh, hgr, hst, hsame, hnl⟩
    have hc_at : ∀ (i : Nat) (h : Nat) (v : Value) (c : C), hs[i]? = some h → (List.zipWith Reg.mem (given ρ hs) cs)[i]? = some (.mem v c) → (given ρ hs)[i]? = some v ∧ ((c = .own i ∧ ((∀ v0, ρ[h]? = some v0 → ∃ x n k, v0 = .slice x n k) ∨ ∃ M, regs[i]? = some (.mapd M))) ∨ c = .ptr i 0 ∨ c = .junk ∨ c = .town i) := by
      intro i h v c hi hm
      obtain ⟨v', c', he, h4, h5⟩ := H.mems_get hm
      cases he
      obtain ⟨r', c', e1, e2, _, e3, _⟩ := hget i h hi
      rw [h4] at e2; cases e2
      rw [Nat.zero_add] at e3
      refine ⟨h5, ?_⟩
      rcases e3 with ⟨sz, L, _, e, e'⟩ | ⟨_, _, e⟩ | ⟨sz, L, _, _, _, e, e'⟩ | ⟨M, rfl, e⟩ | ⟨sz, M, rfl, e⟩ | e
      · exact .inl ⟨e, .inl fun v0 hv0 => by
          obtain ⟨v1, hv1, x, c1, hh, _⟩ := I.hp.val e'
          rw [hv0] at hv1; cases hv1; exact ⟨_, _, _, hh⟩⟩
      · exact .inr (.inl e)
      · exact .inl ⟨e, .inl fun v0 hv0 => by
          obtain ⟨v1, hv1, x, c1, hh, _⟩ := I.hp.val e'
          rw [hv0] at hv1; cases hv1; exact ⟨_, _, _, hh⟩⟩
      · exact .inl ⟨e, .inr ⟨M, e1⟩⟩
      · exact .inr (.inr (.inr e))
      · exact .inr (.inr (.inl e))
    have hkept : ∀ (i h : Nat) (v : Value), hs[i]? = some h → ρ[h]? = some v → inv ≠ some h → ρ'[i]? = some v := by
      intro i h0 v0 hi hv hne
      obtain ⟨v1, c, c', h1, h2, h3⟩ := hkp i h0 hi
      obtain ⟨h5, h6⟩ := hc_at i h0 v1 c hi h1
      have e6 := given_get hi hv
      rw [h5] at e6; cases e6
      have hi' := (List.getElem?_eq_some_iff.1 hi).1
      have hat : (outs ++ (ms ++ new))[hs.length + i]? = some (.mem v0 c') := by
        rw [List.getElem?_append_right (by omega), hol, Nat.add_sub_cancel_left, List.getElem?_append_left (by omega)]; exact h2
      obtain ⟨u, hu, hRR⟩ := hh.val hat
      rcases h3 with ⟨j, rfl, rfl⟩ | ⟨j, rfl, rfl⟩ | e
      · rcases h6 with ⟨e, _⟩ | e | e
        · cases e; exact MRel.own (show MRel ρ' (Av Xc ρ' (outs ++ (ms ++ new))) w' v0 (.own i) from hRR)
        · cases e
        · rcases e with e | e <;> cases e
      · rcases h6 with ⟨e, _⟩ | e | e
        · cases e
        rotate_left
        · rcases e with e | e <;> cases e
        · cases e
          obtain ⟨b, e1, e2⟩ : CRel ρ' (Av Xc ρ' (outs ++ (ms ++ new))) w' v0 (.ptr i 0) := (show MRel ρ' (Av Xc ρ' (outs ++ (ms ++ new))) w' v0 (.ptr i 0) from hRR).resolve_right (by rintro (⟨_, e, _⟩ | ⟨_, _, _, _, e, _⟩) <;> cases e)
          rw [e2]; exact e1
      · exact absurd e hne
    have hmsm : ∀ m ∈ ms, ∃ v c, m = Reg.mem v c := by
      intro m hm
      obtain ⟨i, hi⟩ := List.getElem?_of_mem hm
      have hi' := (List.getElem?_eq_some_iff.1 hi).1
      obtain ⟨v1, c, c', h1, h2, h3⟩ := hkp i (hs[i]'(by omega)) (by simp [show i < hs.length by omega])
      rw [hi] at h2; cases h2
      exact ⟨_, _, rfl⟩
    have hinv' : ∀ h, inv = some h → h ∈ hs ∧ ∀ (i : Nat) (v v' : Value), hs[i]? = some h → ρ[h]? = some v → ρ'[i]? = some v' → Mov v v' := by
      intro h0 e
      rcases hinv h0 e with e | ⟨i, j, v1, h1, ⟨h2, h3⟩ | ⟨h2, h3⟩⟩
      · cases e
      · refine ⟨List.mem_of_getElem? h1, fun i' v v' _ hv _ => ?_⟩
        obtain ⟨_, h6⟩ := hc_at i h0 v1 _ h1 h2
        rcases h6 with ⟨_, e | ⟨M, e⟩⟩ | e | e
        · obtain ⟨x, n, k, rfl⟩ := e v hv; exact Mov.slice
        · exact absurd h3 (mapsKept_ok hmk i M v1 e)
        · cases e
        · rcases e with e | e <;> cases e
      · refine ⟨List.mem_of_getElem? h1, fun i' v v' hi' hv hv' => ?_⟩
        have := nodup_idx hnd h1 hi'
        subst this
        obtain ⟨h5, h6⟩ := hc_at i h0 v1 _ h1 h2
        have e6 := given_get h1 hv
        rw [h5] at e6; cases e6
        obtain rfl : j = i := by
          rcases h6 with ⟨e, _⟩ | e | e | e
          · cases e
          · cases e
          · cases e
          · cases e; rfl
        have hi2 := (List.getElem?_eq_some_iff.1 h1).1
        have hat : (outs ++ (ms ++ new))[hs.length + j]? = some (.mem v1 (.town j)) := by
          rw [List.getElem?_append_right (by omega), hol, Nat.add_sub_cancel_left, List.getElem?_append_left (by omega)]; exact h3
        obtain ⟨u, hu, hRR⟩ := hh.val hat
        have hM : MRel ρ' (Av Xc ρ' (outs ++ (ms ++ new))) w' v1 (.town j) := hRR
        have hnp : ∀ p, v1 ≠ .pointer p := by
          rintro p rfl
          obtain ⟨r', c', e1, e2, _, e3, e5⟩ := hget j h0 h1
          obtain ⟨v', c0, he, h8, _⟩ := H.mems_get h2
          cases he
          rw [h8] at e2; cases e2
          rw [Nat.zero_add] at e3
          rcases e3 with ⟨_, _, _, e, _⟩ | ⟨_, _, e⟩ | ⟨_, _, _, _, _, e, _⟩ | ⟨_, _, e⟩ | ⟨sz, M, rfl, _⟩ | e
          · cases e
          · cases e
          · cases e
          · cases e
          · obtain ⟨b, es, clock, us, e, _⟩ := (e5 _ hv (fun _ => False) (fun _ h => h.elim)).1
            cases e
          · cases e
        refine ⟨hnp, fun u us e => ?_⟩
        subst e
        rcases hM with ⟨us', e, f⟩ | ⟨_, e, _⟩ | ⟨h9, u9, us9, us', e, e', e''⟩
        · exact absurd rfl (f.2 _)
        · cases e
        · cases e; cases e'
          rw [e''] at hv'; cases hv'
          exact ⟨us', rfl⟩
    obtain ⟨ρ4, I4, hs4⟩ := H.merge I (inv := inv) (fr := fr) hol hms hs2 hh hgr hst hsame hnl hkept hmsm hinv' hfr
    obtain ⟨_, _, hk⟩ := apply_ok h8
    exact hn _ _ _ _ hk (Inv.put (σ := ⟨_, _⟩) I4 hs4)
end
end Go.Proofs.YtphmcgmblkbijaaVY
