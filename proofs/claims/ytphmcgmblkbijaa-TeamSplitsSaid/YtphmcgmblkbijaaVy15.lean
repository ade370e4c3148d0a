/-
  VY: a function: what is said to be left to prove suffices. By the session's own hand.
-/
import Derived.Test.YtphmcgmblkbijaaVy14
import Derived.Deep.LoopGhost
import Derived.Scope
set_option linter.unusedSectionVars false
set_option linter.unusedVariables false
set_option linter.unusedSimpArgs false
set_option linter.all false
set_option linter.unnecessarySimpa false
set_option linter.deprecated false
namespace Go.Proofs.YtphmcgmblkbijaaVY

/-- what is handed back, against what is promised -/
def outCap (m : List Nat) : Cap → Cap → Prop
  | _, .junk => True
  | .ptr h, .ptr i => m[i]? = some h
  | .own h, .own i => m[i]? = some h
  | .pel l, .pel l' => l = l'
  | .d x, .d y => x = y
  | .emp sz, .emp sz' => sz = sz'
  | .fn0 f, .fn0 g => f = g
  | _, _ => False
def outC (hp : List Reg) (m : List Nat) : C → C → Prop
  | _, .junk => True
  | .d x, .d y => x = y
  | .emp sz, .d (.sl sz' L) => sz = sz' ∧ L = []
  | .emp sz, .emp sz' => sz = sz'
  | .own h, .own i => m[i]? = some h
  | .own h, .d (.sl sz L) => (hp[h]? = some (.row sz L) ∧ h ∉ m) ∨ hp[h]? = some (.frz sz L)
  | .ptr h off, .ptr i off' => m[i]? = some h ∧ off = off'
  | .pel l, .pel l' => l = l'
  | .fn f cs, .fn g cs' => f = g ∧ All2 (outCap m) cs cs'
  | .town h, .town i => m[i]? = some h
  | _, _ => False
def outV (hp : List Reg) (m : List Nat) : V1 → V1 → Prop
  | .c x, .c y => outC hp m x y
  | .ag l, .ag l' => All2 (outC hp m) l l'
  | _, _ => False
def outS (hp : List Reg) (m : List Nat) : S → S → Prop
  | .v x, .v y => outV hp m x y
  | .tup l, .tup l' => All2 (outV hp m) l l'
  | _, _ => False
def outR (hp : List Reg) (m : List Nat) : Reg → Reg → Prop
  | _, .gone => True
  | .row sz L, .row sz' L' => sz = sz' ∧ L = L'
  | .frz sz L, .frz sz' L' => sz = sz' ∧ L = L'
  | .box cs, .box cs' => All2 (outC hp m) cs cs'
  | .mem v c, .mem v' c' => v = v' ∧ outC hp m c c'
  | .mapd M, .mapd M' => M = M'
  | .mapr sz M, .mapr sz' M' => sz = sz' ∧ M = M'
  | .rowt sz L cs, .rowt sz' L' cs' => sz = sz' ∧ L = L' ∧ All2 (outC hp m) cs cs'
  | _, _ => False
def Ret (r : S) (new : List Reg) (s : S) (hp : List Reg) : Prop := ∃ m : List Nat, m.Nodup ∧ All2 (fun h g => ∃ g0, hp[h]? = some g0 ∧ outR hp m g0 g) m new ∧ outS hp m s r
section
variable {P : Program} {Γ : Cx} {w w' : World} {X : Nat → Prop} {w0 : World} {B0 : Nat → Prop} [hGP : GPc X B0 w0] {σ : St} {a : Act} {ρ ρn : Hs} {gd : Option (Bool × Bool)} {Q : Exit → Act → World → Prop}
variable (hT : TyOk P Γ.ty) (hΓ : ∀ f R, Γ.fns f = some R → Snd P f R)

theorem Keeps_take (ρ : Hs) (n : Nat) {h : Nat} (hn : h < n) : (ρ.take n)[h]? = ρ[h]? := by rw [List.getElem?_take, if_pos hn]
section under
variable {n : Nat} {A A' : Nat → Prop} (hA : ∀ b, A' b → A b)
include hA
theorem Cap.under_ok {c : Cap} {u : Value} (hb : c.under n = true) (h : CapRel ρ A w u c) : CapRel (ρ.take n) A' w u c := by
  cases c with
  | ptr x => obtain ⟨b, h1, h2⟩ := h; exact ⟨b, by rw [Keeps_take ρ n (by simpa [Cap.under, Nat.blt_eq] using hb)]; exact h1, h2⟩
  | pel l => obtain ⟨b, off, h1, h2, h3⟩ := h; exact ⟨b, off, h1, (Lasts.mono hA).at h2, RdC.lasts (Lasts.mono hA) h2.2 h3⟩
  | own x => exact ⟨by rw [Keeps_take ρ n (by simpa [Cap.under, Nat.blt_eq] using hb)]; exact h.1, h.2⟩
  | d x => exact Rd.lasts (Lasts.mono hA) h
  | emp sz => exact h
  | fn0 f => exact h
  | junk => trivial
theorem C.under_ok {c : C} {u : Value} (hb : c.under n = true) (h : CRel ρ A w u c) : CRel (ρ.take n) A' w u c := by
  cases c with
  | d x => exact Rd.lasts (Lasts.mono hA) h
  | emp sz => exact h
  | own x => exact ⟨by rw [Keeps_take ρ n (by simpa [C.under, Nat.blt_eq] using hb)]; exact h.1, h.2⟩
  | win x sz lo k => obtain ⟨a', l, c, h1, h2⟩ := h; exact ⟨a', l, c, by rw [Keeps_take ρ n (by simpa [C.under, Nat.blt_eq] using hb)]; exact h1, h2⟩
  | ptr x off => obtain ⟨b, h1, h2⟩ := h; exact ⟨b, by rw [Keeps_take ρ n (by simpa [C.under, Nat.blt_eq] using hb)]; exact h1, h2⟩
  | prow x sz i j => obtain ⟨b, off, l, c, h1, h2⟩ := h; exact ⟨b, off, l, c, by rw [Keeps_take ρ n (by simpa [C.under, Nat.blt_eq] using hb)]; exact h1, h2⟩
  | pel l => obtain ⟨b, off, h1, h2, h3⟩ := h; exact ⟨b, off, h1, (Lasts.mono hA).at h2, RdC.lasts (Lasts.mono hA) h2.2 h3⟩
  | fn f cs =>
    obtain ⟨vs, hv, h⟩ := h
    refine ⟨vs, hv, ?_⟩
    have hall : ∀ c ∈ cs, c.under n = true := by simpa [C.under] using hb
    clear hb hv
    generalize vs.toList = us at h
    induction h with
    | nil => exact .nil
    | cons r _ ih => exact .cons (Cap.under_ok hA (hall _ (List.mem_cons_self ..)) r) (ih fun c hc => hall c (List.mem_cons_of_mem _ hc))
  | nq n => exact h
  | town x => obtain ⟨us, h1, h2⟩ := h; exact ⟨us, by rw [Keeps_take ρ n (by simpa [C.under, Nat.blt_eq] using hb)]; exact h1, h2⟩
  | sub x i => obtain ⟨u, us, h1, h2⟩ := h; exact ⟨u, us, by rw [Keeps_take ρ n (by simpa [C.under, Nat.blt_eq] using hb)]; exact h1, h2⟩
  | junk => trivial
theorem cells_under {cs : List C} {us : List Value} (hb : ∀ c ∈ cs, c.under n = true) (h : All2 (fun u c => Flat u ∧ CRel ρ A w u c) us cs) : All2 (fun u c => Flat u ∧ CRel (ρ.take n) A' w u c) us cs := by
  induction h with
  | nil => exact .nil
  | cons r _ ih => exact .cons ⟨r.1, C.under_ok hA (hb _ (List.mem_cons_self ..)) r.2⟩ (ih fun c hc => hb c (List.mem_cons_of_mem _ hc))
theorem S.under_ok {s : S} {u : Value} (hb : s.under n = true) (h : SRel ρ A w u s) : SRel (ρ.take n) A' w u s := by
  cases s with
  | tup l => simp [S.under] at hb
  | v x => cases x with
    | c x => exact C.under_ok hA hb h
    | ag l => obtain ⟨cs, hv, h⟩ := h; exact ⟨cs, hv, cells_under hA (by simpa [S.under, V1.under] using hb) h⟩
    | cnd _ _ _ => simp [S.under, V1.under] at hb
theorem Reg.under_ok {r : Reg} {u : Value} (hb : r.under n = true) (h : RegRel ρ A w u r) : RegRel (ρ.take n) A' w u r := by
  cases r with
  | box cs => obtain ⟨b, T, vs, h1, h2, h3⟩ := h; exact ⟨b, T, vs, h1, h2, cells_under hA (by simpa [Reg.under] using hb) h3⟩
  | row sz L => obtain ⟨x, c, h1, h2, h3, h4⟩ := h; exact ⟨x, c, h1, h2, h3, h4.imp id fun ⟨b, off, T, vs, h5, h6, h7, h8⟩ => ⟨b, off, T, vs, h5, h6, h7, RdL.mono hA h8⟩⟩
  | frz sz L => exact Rd.lasts (Lasts.mono hA) h
  | rowt sz L cs =>
    obtain ⟨x, c, h1, h2, h3, h4, b, off, T, vs, h5, h6, h7, h8, h9⟩ := h
    refine ⟨x, c, h1, h2, h3, h4, b, off, T, vs, h5, h6, h7, RdL.mono hA h8, TailAt_iff.2 fun j c hc => ?_⟩
    obtain ⟨u, hu, hf, hr⟩ := TailAt_iff.1 h9 j c hc
    have hb' : ∀ c ∈ cs, c.under n = true := by simpa [Reg.under] using hb
    exact ⟨u, hu, hf, C.under_ok hA (hb' c (List.mem_of_getElem? hc)) hr⟩
  | mem u c =>
    rcases h with h | ⟨x, rfl, h⟩ | ⟨x, u0, us, us', rfl, rfl, h⟩
    · exact .inl (C.under_ok (A := A) hA hb h)
    · exact .inr (.inl ⟨x, rfl, by rw [Keeps_take ρ n (by simpa [Reg.under, C.under, Nat.blt_eq] using hb)]; exact h⟩)
    · exact .inr (.inr ⟨x, u0, us, us', rfl, rfl, by rw [Keeps_take ρ n (by simpa [Reg.under, C.under, Nat.blt_eq] using hb)]; exact h⟩)
  | mapd M =>
    obtain ⟨b, es, clock, hv, hb, hM, hn⟩ := h
    exact ⟨b, es, clock, hv, hb, hM.imp fun _ _ h => ⟨h.1, h.2.lasts (Lasts.mono hA)⟩, hn⟩
  | mapr sz M =>
    obtain ⟨b, es, clock, us, rfl, hb, hM, hn, hd⟩ := h
    exact ⟨b, es, clock, us, rfl, hb, hM.lasts (Lasts.mono hA) (fun _ _ _ _ => rfl), hn, hd⟩
  | gone => trivial
end under
theorem keepT_ok {L : List Nat} {nh : Nat} {l : List S} : ∀ {i : Nat} {k : List S → Prop}, keepT L nh i l k → ∃ l', k l' ∧ l'.length = l.length ∧ ∀ (j : Nat) (s : S), l'[j]? = some s → s = .junk ∨ (l[j]? = some s ∧ s.under nh = true) := by
  induction l with
  | nil => intro i k h; exact ⟨[], h, rfl, by simp⟩
  | cons x l ih =>
    intro i k h
    unfold keepT at h
    split at h
    · obtain ⟨hb, h⟩ := tt_ok h
      obtain ⟨l', h, h1, h2⟩ := ih h
      refine ⟨_, h, by simp [h1], fun j s hj => ?_⟩
      cases j with
      | zero => simp at hj; subst hj; exact .inr ⟨by simp, hb⟩
      | succ j => simpa using h2 j s (by simpa using hj)
    · obtain ⟨l', h, h1, h2⟩ := ih h
      refine ⟨_, h, by simp [h1], fun j s hj => ?_⟩
      cases j with
      | zero => simp at hj; exact .inl hj.symm
      | succ j => simpa using h2 j s (by simpa using hj)
theorem allBelow_ok {nh : Nat} {l : List Reg} {p : Prop} (h : allBelow nh l p) : (∀ r ∈ l, r.under nh = true) ∧ p := by
  induction l with
  | nil => exact ⟨by simp, h⟩
  | cons r l ih =>
    obtain ⟨h1, h⟩ := tt_ok h
    obtain ⟨h2, h⟩ := ih h
    exact ⟨by simpa using ⟨h1, h2⟩, h⟩
theorem keepK_ok (I : Inv X w0 B0 σ a w ρ) {L : List Nat} {nh : Nat} {k : St → Prop} (h : σ.keepK L nh k) : ∃ σ' ρ', k σ' ∧ Inv X w0 B0 σ' a w ρ' := by
  unfold St.keepK at h
  obtain ⟨t, h, hl, ht⟩ := keepT_ok h
  obtain ⟨hn, h⟩ := takeK_ok h
  obtain ⟨hb, h⟩ := allBelow_ok h
  have hlive : ∀ b, Live (ρ.take nh) (σ.hp.take nh) b → Live ρ σ.hp b := by
    rintro b ⟨h, r, v, h1, h2, h3, h4⟩
    have hlt : h < nh := by have := (List.getElem?_eq_some_iff.1 h1).1; simp at this; omega
    rw [List.getElem?_take, if_pos hlt] at h1 h3
    exact ⟨h, r, v, h1, h2, h3, h4⟩
  have hA : ∀ b, Av X (ρ.take nh) (σ.hp.take nh) b → Av X ρ σ.hp b := fun b h => h.imp id (hlive b)
  have get : ∀ {h : Nat} {r : Reg} {v : Value}, (σ.hp.take nh)[h]? = some r → (ρ.take nh)[h]? = some v → σ.hp[h]? = some r ∧ ρ[h]? = some v := by
    intro h r v h1 h3
    have hlt : h < nh := by have := (List.getElem?_eq_some_iff.1 h1).1; simp at this; omega
    rw [List.getElem?_take, if_pos hlt] at h1 h3
    exact ⟨h1, h3⟩
  refine ⟨_, ρ.take nh, h, ⟨⟨by simp [I.hp.len], ?_, ?_, fun b hb => I.hp.fre b (hlive b hb)⟩, ?_, by rw [hl]; exact I.sz, I.de, I.gr, I.fr, fun b hb => I.ow b (hlive b hb), I.xs, I.st⟩⟩
  · intro h r v h1 h3
    obtain ⟨h1', h3'⟩ := get h1 h3
    exact Reg.under_ok hA (hb r (List.mem_of_getElem? h1)) (I.hp.reg h r v h1' h3')
  · intro h h' r r' v v' b h1 h1' h2 h2' h3 h3' h4 h4'
    obtain ⟨h1, h3⟩ := get h1 h3
    obtain ⟨h1', h3'⟩ := get h1' h3'
    exact I.hp.dis h h' r r' v v' b h1 h1' h2 h2' h3 h3' h4 h4'
  · intro j s hs
    rcases ht j s hs with rfl | ⟨hs', hbl⟩
    · trivial
    · exact S.under_ok hA hbl (I.t j s hs')
theorem born_own (I : Inv X w0 B0 σ a w ρ) {i sz : Nat} (hi : σ.t[i]? = some (.one (.emp sz))) (hsz : 0 < sz) : ∃ ρ', Inv X w0 B0 ⟨σ.t.set i (.one (.own σ.hp.length)), σ.hp ++ [.row sz []]⟩ a w ρ' := by
  obtain ⟨a0, hv⟩ := (I.t i _ hi : CRel ρ _ w _ (.emp sz))
  have T' := touchAdd I (w' := w) (r := .row sz []) (v := .slice a0 0 0) (Nat.le_refl _) (fun _ _ => rfl) ⟨rfl, rfl, rfl, Nat.le_refl _⟩ (fun _ b hb => by cases a0 <;> simp [Bk, blk] at hb)
  have hl := T'.ρt
  have I' := I.touch T' ⟨a0, 0, rfl, Nat.le_refl _, hsz, .inl rfl⟩
  rw [map_sloseO_none] at I'
  have hlt : i < σ.t.length := (List.getElem?_eq_some_iff.1 hi).1
  refine ⟨_, ⟨I'.hp, ?_, by have := I'.sz; simpa using this, I'.de, I'.gr, I'.fr, I'.ow, I'.xs, I'.st⟩⟩
  intro j s hj
  by_cases e : j = i
  · subst e
    rw [List.getElem?_set_self hlt] at hj
    cases hj
    rw [hv]
    exact sown hl ⟨by simp, by simp⟩
  · rw [List.getElem?_set_ne (by omega)] at hj
    exact I'.t j s hj
theorem born_pad (I : Inv X w0 B0 σ a w ρ) : ∃ ρ', Inv X w0 B0 ⟨σ.t, σ.hp ++ [.row 1 []]⟩ a w ρ' := by
  have T' := touchAdd I (w' := w) (r := .row 1 []) (v := .slice none 0 0) (Nat.le_refl _) (fun _ _ => rfl) ⟨rfl, rfl, rfl, Nat.le_refl _⟩ (fun _ b hb => by simp [Bk, blk] at hb)
  have I' := I.touch T' ⟨none, 0, rfl, Nat.le_refl _, by decide, .inl rfl⟩
  rw [map_sloseO_none] at I'
  exact ⟨_, I'⟩
theorem born_read (I : Inv X w0 B0 σ a w ρ) {i sz : Nat} (hi : σ.t[i]? = some (.one (.emp sz))) : Inv X w0 B0 ⟨σ.t.set i (.one (.d (.sl sz []))), σ.hp⟩ a w ρ := by
  obtain ⟨a0, hv⟩ := (I.t i _ hi : CRel ρ _ w _ (.emp sz))
  have hlt : i < σ.t.length := (List.getElem?_eq_some_iff.1 hi).1
  refine ⟨I.hp, ?_, by have := I.sz; simpa using this, I.de, I.gr, I.fr, I.ow, I.xs, I.st⟩
  intro j s hj
  by_cases e : j = i
  · subst e
    rw [List.getElem?_set_self hlt] at hj
    cases hj
    rw [hv]
    show Rd _ _ _ _
    simp only [Rd]
    exact ⟨a0, 0, rfl, Nat.le_refl _, .inl trivial⟩
  · rw [List.getElem?_set_ne (by omega)] at hj
    exact I.t j s hj
theorem born_cell (I : Inv X w0 B0 σ a w ρ) {h i sz : Nat} {cs : List C} (hh : σ.hp[h]? = some (.box cs)) (hi : cs[i]? = some (.emp sz)) (hsz : 0 < sz) : ∃ ρ', Inv X w0 B0 ⟨σ.t, σ.hp.set h (.box (cs.set i (.own σ.hp.length))) ++ [.row sz []]⟩ a w ρ' := by
  obtain ⟨v, hv, b, T, vs, rfl, hb, hall⟩ := I.hp.val hh
  obtain ⟨u, hu, hf, a0, rfl⟩ := hall.get' hi
  have T' := touchAdd I (w' := w) (r := .row sz []) (v := .slice a0 0 0) (Nat.le_refl _) (fun _ _ => rfl) ⟨rfl, rfl, rfl, Nat.le_refl _⟩ (fun _ b hb => by cases a0 <;> simp [Bk, blk] at hb)
  have hl := T'.ρt
  have I' := I.touch T' ⟨a0, 0, rfl, Nat.le_refl _, hsz, .inl rfl⟩
  rw [map_sloseO_none] at I'
  have hlt : h < σ.hp.length := (List.getElem?_eq_some_iff.1 hh).1
  have hh' : (σ.hp ++ [Reg.row sz []])[h]? = some (.box cs) := by rw [List.getElem?_append_left hlt]; exact hh
  have hset : σ.hp.set h (.box (cs.set i (.own σ.hp.length))) ++ [Reg.row sz []] = (σ.hp ++ [Reg.row sz []]).set h (.box (cs.set i (.own σ.hp.length))) := by rw [List.set_append_left _ _ hlt]
  have hlive : ∀ b, Live (ρ ++ [.slice a0 0 0]) ((σ.hp ++ [Reg.row sz []]).set h (.box (cs.set i (.own σ.hp.length)))) b ↔ Live (ρ ++ [.slice a0 0 0]) (σ.hp ++ [Reg.row sz []]) b := by
    intro b
    constructor
    · rintro ⟨x, r, v, h1, h2, h3, h4⟩
      by_cases e : x = h
      · subst e; exact ⟨x, _, v, hh', rfl, h3, h4⟩
      · rw [List.getElem?_set_ne (Ne.symm e)] at h1; exact ⟨x, r, v, h1, h2, h3, h4⟩
    · rintro ⟨x, r, v, h1, h2, h3, h4⟩
      by_cases e : x = h
      · subst e; exact ⟨x, _, v, List.getElem?_set_self (by simp; omega), rfl, h3, h4⟩
      · exact ⟨x, r, v, by rw [List.getElem?_set_ne (Ne.symm e)]; exact h1, h2, h3, h4⟩
  have hAv : ∀ b, Av X (ρ ++ [.slice a0 0 0]) ((σ.hp ++ [Reg.row sz []]).set h (.box (cs.set i (.own σ.hp.length)))) b → Av X (ρ ++ [.slice a0 0 0]) (σ.hp ++ [Reg.row sz []]) b := fun b hb => hb.imp id (hlive b).1
  refine ⟨ρ ++ [.slice a0 0 0], ?_⟩
  rw [hset]
  refine ⟨⟨by simpa using I'.hp.len, ?_, ?_, fun b hb hx => I'.hp.fre b ((hlive b).1 hb) hx⟩, fun j s hj => (I'.t j s hj).less hAv, I'.sz, I'.de, I'.gr, I'.fr, fun b hb => I'.ow b ((hlive b).1 hb), I'.xs, I'.st⟩
  · intro x r v h1 h3
    by_cases e : x = h
    · subst e
      rw [List.getElem?_set_self (by simp; omega)] at h1
      cases h1
      have hR := I'.hp.reg x _ v hh' h3
      obtain ⟨b', T', vs', rfl, hb', hall'⟩ := hR
      have hvb : (ρ ++ [Value.slice a0 0 0])[x]? = some (.pointer (some ⟨b, 0, none⟩)) := by
        rw [List.getElem?_append_left (by rw [I.hp.len]; exact hlt)]; exact hv
      rw [hvb] at h3; cases h3
      rw [hb] at hb'; cases hb'
      refine ⟨b, T, vs, rfl, hb, ?_⟩
      refine All2.of_get (by simp [hall.length]) fun j u c hu' hc => ?_
      by_cases ej : j = i
      · subst ej
        rw [List.getElem?_set_self (List.getElem?_eq_some_iff.1 hi).1] at hc
        cases hc
        rw [hu] at hu'; cases hu'
        exact ⟨⟨by simp, by simp⟩, by rw [← I.hp.len]; simp, ⟨by simp, by simp⟩⟩
      · rw [List.getElem?_set_ne (Ne.symm ej)] at hc
        have := hall'.get hu' hc
        exact ⟨this.1, this.2.less hAv⟩
    · rw [List.getElem?_set_ne (Ne.symm e)] at h1
      have := RegRel.back (f := some) (ρ' := ρ ++ [.slice a0 0 0]) hAv (fun j h v e hv => by cases e; exact hv) (I'.hp.reg x r v h1 h3)
      rwa [Reg.back_some] at this
  · intro x x' r r' v v' b h1 h1' h2 h2' h3 h3' h4 h4'
    have key : ∀ (x : Nat) (r : Reg), ((σ.hp ++ [Reg.row sz []]).set h (.box (cs.set i (.own σ.hp.length))))[x]? = some r → r.live = true → ∃ r0, (σ.hp ++ [Reg.row sz []])[x]? = some r0 ∧ r0.live = true := by
      intro x r h1 h2
      by_cases e : x = h
      · subst e; exact ⟨_, hh', rfl⟩
      · rw [List.getElem?_set_ne (Ne.symm e)] at h1; exact ⟨r, h1, h2⟩
    obtain ⟨r0, e1, e2⟩ := key x r h1 h2
    obtain ⟨r0', e1', e2'⟩ := key x' r' h1' h2'
    exact I'.hp.dis x x' r0 r0' v v' b e1 e1' e2 e2' h3 h3' h4 h4'
/-- a part of a row is the row from now on -/
theorem trim_ok (I : Inv X w0 B0 σ a w ρ) {i h sz lo n : Nat} {L : List (List D)} (hi : σ.t[i]? = some (.one (.win h sz lo n))) (hh : σ.hp[h]? = some (.row sz L)) :
    ∃ ρ', Inv X w0 B0 ⟨(σ.t.map (S.lose h)).set i (.one (.own h)), (σ.hp.map (Reg.lose h)).set h (.row sz ((L.drop lo).take n))⟩ a w ρ' := by
  obtain ⟨a0, l0, c0, hρ, hlo, hl0, a', hval, ha'⟩ := (I.t i _ hi : CRel ρ _ w _ (.win h sz lo n))
  obtain ⟨v, hv, hR⟩ := I.hp.val hh
  rw [hρ] at hv; cases hv
  obtain ⟨x, c, he, hc, hz, hR⟩ := hR
  cases he
  have hblk : ∀ b, Bk (.slice a' n (c0 - lo)) b → w.heap.size ≤ b ∨ Bk (.slice a0 L.length c0) b := by
    intro b hb
    right
    cases hcl : c0 - lo with
    | zero => rw [hcl] at hb; cases a' <;> simp [Bk, blk] at hb
    | succ m =>
      rcases ha' with e | rfl
      · omega
      · rw [hcl] at hb
        cases a0 with
        | none => simp [Bk, blk] at hb
        | some a0 =>
          cases c0 with
          | zero => omega
          | succ c0 =>
            simp only [Bk, blk, Option.map_some, Addr.add] at hb ⊢
            split at hb <;> exact hb
  have T' := touchMove I (w' := w) (r' := .row sz ((L.drop lo).take n)) (v' := .slice a' n (c0 - lo)) hh rfl hρ (Nat.le_refl _) (Str.refl w) (fun b _ => .inl rfl) Mov.slice hblk
  have hl := T'.ρt
  have I' := I.touch T' ?_
  rotate_left
  · have hlen : ((L.drop lo).take n).length = n := by simp; omega
    refine ⟨a', c0 - lo, by rw [hlen], by rw [hlen]; omega, hz, ?_⟩
    by_cases e : c0 = lo
    · left; omega
    · right
      rcases ha' with e' | rfl
      · exact absurd e' e
      · rcases hR with e' | ⟨b, off, T, vs, rfl, hb, hs, hL⟩
        · omega
        · refine ⟨b, off + lo * sz, T, vs, by simp [Addr.add_lit], hb, ?_, ?_⟩
          · have : (lo + (c0 - lo)) * sz = c0 * sz := by congr 1; omega
            rw [Nat.add_mul] at this; omega
          · have := ((hL.drop lo).take n)
            exact RdL.rows T'.lasts rfl this
  have hlt : i < σ.t.length := (List.getElem?_eq_some_iff.1 hi).1
  refine ⟨_, ⟨I'.hp, ?_, by have := I'.sz; simpa using this, I'.de, I'.gr, I'.fr, I'.ow, I'.xs, I'.st⟩⟩
  intro j s hj
  by_cases e : j = i
  · subst e
    rw [List.getElem?_set_self (by simpa using hlt)] at hj
    cases hj
    rw [hval]
    exact sown hl ⟨by simp, by simp⟩
  · rw [List.getElem?_set_ne (by omega)] at hj
    exact I'.t j s hj
/-- what is remembered of a handle need not be remembered -/
theorem forget_ok (I : Inv X w0 B0 σ a w ρ) {h : Nat} {v : Value} {c : C} (hr : σ.hp[h]? = some (.mem v c)) : Inv X w0 B0 ⟨σ.t, σ.hp.set h (.mem v .junk)⟩ a w ρ := by
  have hlt := (List.getElem?_eq_some_iff.1 hr).1
  have hlive : ∀ b, Live ρ (σ.hp.set h (.mem v .junk)) b ↔ Live ρ σ.hp b := by
    intro b
    constructor
    · rintro ⟨x, r, u, h1, h2, h3, h4⟩
      by_cases e : x = h
      · subst e; rw [List.getElem?_set_self hlt] at h1; cases h1; cases h2
      · rw [List.getElem?_set_ne (Ne.symm e)] at h1; exact ⟨x, r, u, h1, h2, h3, h4⟩
    · rintro ⟨x, r, u, h1, h2, h3, h4⟩
      by_cases e : x = h
      · subst e; rw [hr] at h1; cases h1; cases h2
      · exact ⟨x, r, u, by rw [List.getElem?_set_ne (Ne.symm e)]; exact h1, h2, h3, h4⟩
  have hAv : Av X ρ (σ.hp.set h (.mem v .junk)) = Av X ρ σ.hp := funext fun b => propext ⟨fun hb => hb.imp id (hlive b).1, fun hb => hb.imp id (hlive b).2⟩
  refine ⟨⟨by simpa using I.hp.len, ?_, ?_, fun b hb hx => I.hp.fre b ((hlive b).1 hb) hx⟩, fun j s hj => by rw [hAv]; exact I.t j s hj, I.sz, I.de, I.gr, I.fr, fun b hb => I.ow b ((hlive b).1 hb), I.xs, I.st⟩
  · intro x r u h1 h3
    rw [hAv]
    by_cases e : x = h
    · subst e; rw [List.getElem?_set_self hlt] at h1; cases h1; exact .inl trivial
    · rw [List.getElem?_set_ne (Ne.symm e)] at h1; exact I.hp.reg x r u h1 h3
  · intro x x' r r' u u' b h1 h1' h2 h2' h3 h3' h4 h4'
    have get : ∀ (x : Nat) (r : Reg), (σ.hp.set h (.mem v .junk))[x]? = some r → r.live = true → σ.hp[x]? = some r := by
      intro x r h1 h2
      by_cases e : x = h
      · subst e; rw [List.getElem?_set_self hlt] at h1; cases h1; cases h2
      · rw [List.getElem?_set_ne (Ne.symm e)] at h1; exact h1
    exact I.hp.dis x x' r r' u u' b (get x r h1 h2) (get x' r' h1' h2') h2 h2' h3 h3' h4 h4'
theorem nbeq {a b : Nat} (h : a ≠ b) : Nat.beq a b = false := Bool.eq_false_iff.2 fun e => h (Nat.eq_of_beq_eq_true e)
/-- a handle is told as another one, that is forgotten -/
theorem ren_ok (I : Inv X w0 B0 σ a w ρ) {x y : Nat} {r : Reg} (hr : σ.hp[y]? = some r) (hne : y ≠ x) (hx : x < σ.hp.length) :
    ∃ ρ', Inv X w0 B0 ⟨σ.t.map (S.back (renH x y)), ((σ.hp.map (Reg.back (renH x y))).set x (r.back (renH x y))).set y .gone⟩ a w ρ' := by
  obtain ⟨vy, hvy, hRy⟩ := I.hp.val hr
  have hxl : x < ρ.length := by rw [I.hp.len]; exact hx
  have hyl : y < σ.hp.length := (List.getElem?_eq_some_iff.1 hr).1
  have fx : renH x y x = none := by unfold renH; rw [Nat.beq_refl]
  have fy : renH x y y = some x := by unfold renH; rw [nbeq hne, Nat.beq_refl]
  have fz : ∀ z, z ≠ x → z ≠ y → renH x y z = some z := fun z h1 h2 => by
    unfold renH; rw [nbeq h1, nbeq h2]
  have hf : ∀ (j h : Nat) (v : Value), renH x y j = some h → ρ[j]? = some v → (ρ.set x vy)[h]? = some v := by
    intro j h v h1 h2
    by_cases e1 : j = x
    · subst e1; rw [fx] at h1; cases h1
    · by_cases e2 : j = y
      · subst e2; rw [fy] at h1; cases h1
        rw [hvy] at h2; cases h2
        exact List.getElem?_set_self hxl
      · rw [fz j e1 e2] at h1; cases h1
        rw [List.getElem?_set_ne (Ne.symm e1)]; exact h2
  have hget : ∀ (z : Nat) (g : Reg), (((σ.hp.map (Reg.back (renH x y))).set x (r.back (renH x y))).set y .gone)[z]? = some g → (z = y ∧ g = .gone) ∨ (z = x ∧ z ≠ y ∧ g = r.back (renH x y)) ∨ (z ≠ x ∧ z ≠ y ∧ ∃ g0, σ.hp[z]? = some g0 ∧ g = g0.back (renH x y)) := by
    intro z g h
    by_cases e1 : z = y
    · subst e1
      rw [List.getElem?_set_self (by simpa using hyl)] at h
      cases h; exact .inl ⟨rfl, rfl⟩
    · rw [List.getElem?_set_ne (Ne.symm e1)] at h
      by_cases e2 : z = x
      · subst e2
        rw [List.getElem?_set_self (by simpa using hx)] at h
        cases h; exact .inr (.inl ⟨rfl, e1, rfl⟩)
      · rw [List.getElem?_set_ne (Ne.symm e2), List.getElem?_map] at h
        obtain ⟨g0, h1, h2⟩ := Option.map_eq_some_iff.1 h
        exact .inr (.inr ⟨e2, e1, g0, h1, h2.symm⟩)
  -- where a live one stood
  have old : ∀ (z : Nat) (g : Reg) (v : Value), (((σ.hp.map (Reg.back (renH x y))).set x (r.back (renH x y))).set y .gone)[z]? = some g → g.live = true → (ρ.set x vy)[z]? = some v → ∃ z0 g0, σ.hp[z0]? = some g0 ∧ g0.live = true ∧ ρ[z0]? = some v ∧ renH x y z0 = some z := by
    intro z g v h1 h2 h3
    rcases hget z g h1 with ⟨_, rfl⟩ | ⟨rfl, hzy, rfl⟩ | ⟨hzx, hzy, g0, h4, rfl⟩
    · cases h2
    · rw [List.getElem?_set_self hxl] at h3; cases h3
      exact ⟨y, r, hr, (live_back _ _).symm.trans h2, hvy, fy⟩
    · rw [List.getElem?_set_ne (Ne.symm hzx)] at h3
      exact ⟨z, g0, h4, (live_back _ _).symm.trans h2, h3, fz z hzx hzy⟩
  have hlive : ∀ b, Live (ρ.set x vy) (((σ.hp.map (Reg.back (renH x y))).set x (r.back (renH x y))).set y .gone) b → Live ρ σ.hp b := by
    rintro b ⟨z, g, v, h1, h2, h3, h4⟩
    obtain ⟨z0, g0, k1, k2, k3, _⟩ := old z g v h1 h2 h3
    exact ⟨z0, g0, v, k1, k2, k3, h4⟩
  have hA : ∀ b, Av X (ρ.set x vy) (((σ.hp.map (Reg.back (renH x y))).set x (r.back (renH x y))).set y .gone) b → Av X ρ σ.hp b := fun b hb => hb.imp id (hlive b)
  refine ⟨ρ.set x vy, ⟨⟨by simp [I.hp.len], ?_, ?_, fun b hb => I.hp.fre b (hlive b hb)⟩, ?_, by have := I.sz; simpa using this, I.de, I.gr, I.fr, fun b hb => I.ow b (hlive b hb), I.xs, I.st⟩⟩
  · intro z g v h1 h2
    rcases hget z g h1 with ⟨_, rfl⟩ | ⟨rfl, hzy, rfl⟩ | ⟨hzx, hzy, g0, h4, rfl⟩
    · trivial
    · rw [List.getElem?_set_self hxl] at h2; cases h2
      exact hRy.back hA hf
    · rw [List.getElem?_set_ne (Ne.symm hzx)] at h2
      exact (I.hp.reg z g0 v h4 h2).back hA hf
  · intro z z' g g' v v' b h1 h1' h2 h2' h3 h3' h4 h4'
    obtain ⟨z0, g0, k1, k2, k3, k4⟩ := old z g v h1 h2 h3
    obtain ⟨z1, g1, l1, l2, l3, l4⟩ := old z' g' v' h1' h2' h3'
    have := I.hp.dis z0 z1 g0 g1 v v' b k1 l1 k2 l2 k3 l3 h4 h4'
    subst this
    rw [k4] at l4; cases l4; rfl
  · intro i s hs
    rw [List.getElem?_map] at hs
    obtain ⟨s0, h0, rfl⟩ := Option.map_eq_some_iff.1 hs
    exact (I.t i s0 h0).back hA hf
theorem tellK_ok : ∀ {E : List Tell} {σ : St} {ρ : Hs} {k : St → Prop}, Inv X w0 B0 σ a w ρ → tellK E σ k → ∃ σ' ρ', k σ' ∧ Inv X w0 B0 σ' a w ρ'
  | [], σ, ρ, k, I, h => ⟨σ, ρ, h, I⟩
  | .pad :: E, σ, ρ, k, I, h => by
    unfold tellK at h
    replace h := appK_ok h
    obtain ⟨ρ', I'⟩ := born_pad I
    exact tellK_ok I' h
  | .slot i o :: E, σ, ρ, k, I, h => by
    unfold tellK at h
    obtain ⟨s, hs, h⟩ := nthK_ok h
    split at h
    · split at h
      · obtain ⟨hq, h⟩ := tt_ok h
        replace h := lenK_ok h
        rw [Nat.zero_add] at h
        replace h := appK_ok h
        obtain ⟨_, h⟩ := setK_ok h
        obtain ⟨ρ', I'⟩ := born_own I hs (Nat.le_of_ble_eq_true hq)
        exact tellK_ok I' h
      · obtain ⟨_, h⟩ := setK_ok h
        exact tellK_ok (born_read I hs) h
    · exact h.elim
  | .cell x i :: E, σ, ρ, k, I, h => by
    unfold tellK at h
    obtain ⟨s, hs, h⟩ := nthK_ok h
    split at h
    · obtain ⟨c, hc, h⟩ := nthK_ok h
      split at h
      · obtain ⟨hq, h⟩ := tt_ok h
        replace h := lenK_ok h
        rw [Nat.zero_add] at h
        obtain ⟨_, h⟩ := setK_ok h
        obtain ⟨_, h⟩ := setK_ok h
        replace h := appK_ok h
        obtain ⟨ρ', I'⟩ := born_cell I hs hc (Nat.le_of_ble_eq_true hq)
        exact tellK_ok I' h
      · exact h.elim
    · exact h.elim
  | .trim i :: E, σ, ρ, k, I, h => by
    unfold tellK at h
    obtain ⟨s, hs, h⟩ := nthK_ok h
    split at h
    · obtain ⟨r, hr, h⟩ := nthK_ok h
      split at h
      · obtain ⟨hq, h5⟩ := tt_ok h
        clear h
        obtain rfl := Nat.eq_of_beq_eq_true hq
        replace h5 := loseRs_ok (loseSs_ok h5)
        obtain ⟨_, h5⟩ := setK_ok h5
        obtain ⟨_, h5⟩ := setK_ok h5
        obtain ⟨ρ', I'⟩ := trim_ok I hs hr
        exact tellK_ok I' h5
      · exact h.elim
    · exact h.elim
  | .rows i sz :: E, σ, ρ, k, I, h => by
    unfold tellK at h
    obtain ⟨s, hs, h⟩ := nthK_ok h
    split at h
    · rename_i x
      obtain ⟨r, hr, h⟩ := nthK_ok h
      split at h
      · obtain ⟨hq, h5⟩ := tt_ok h
        clear h
        replace h5 := loseRs_ok (loseSs_ok h5)
        obtain ⟨_, h5⟩ := setK_ok h5
        obtain ⟨hlt, h5⟩ := setK_ok h5
        obtain ⟨hv, hf⟩ := (I.t i _ hs : CRel ρ _ w _ (.own x))
        obtain ⟨ρ', I', hρ⟩ := rows_ok I hr hv hf (Nat.le_of_ble_eq_true hq)
        have I2 : Inv X w0 B0 ⟨(σ.t.map (S.lose x)).set i (.one (.town x)), (σ.hp.map (Reg.lose x)).set x (.mapr sz [])⟩ a w ρ' := by
          refine ⟨I'.hp, fun j s hj => ?_, by have := I'.sz; simpa using this, I'.de, I'.gr, I'.fr, I'.ow, I'.xs, I'.st⟩
          by_cases e : j = i
          · subst e
            rw [List.getElem?_set_self (by simpa using hlt)] at hj
            cases hj
            exact ⟨[], hρ, hf⟩
          · rw [List.getElem?_set_ne (by omega)] at hj
            exact I'.t j s hj
        exact tellK_ok I2 h5
      · exact h.elim
    · exact h.elim
  | .take i :: E, σ, ρ, k, I, h => by
    unfold tellK at h
    obtain ⟨s, hs, h⟩ := nthK_ok h
    split at h
    · rename_i x j
      obtain ⟨r, hr, h⟩ := nthK_ok h
      split at h
      · rename_i sz M
        obtain ⟨key, L, hM, h5⟩ := h
        clear h
        replace h5 := loseRs_ok (loseSs_ok h5)
        obtain ⟨_, h5⟩ := setK_ok h5
        replace h5 := appK_ok (lenK_ok h5)
        rw [Nat.zero_add] at h5
        obtain ⟨hlt, h5⟩ := setK_ok h5
        obtain ⟨ρ', I', hρ, hrow, _⟩ := takeRow I hr hM (I.t i _ hs : CRel ρ _ w _ (.sub x j))
        have I2 : Inv X w0 B0 ⟨(σ.t.map (S.lose x)).set i (.one (.own σ.hp.length)), (σ.hp.map (Reg.lose x)).set x (.mapr sz (M.set j (key, none))) ++ [.row sz L]⟩ a w ρ' := by
          refine ⟨I'.hp, fun q s hq => ?_, by have := I'.sz; simpa using this, I'.de, I'.gr, I'.fr, I'.ow, I'.xs, I'.st⟩
          by_cases e : q = i
          · subst e
            rw [List.getElem?_set_self (by simpa using hlt)] at hq
            cases hq
            obtain ⟨a0, c, hu, _⟩ := hrow
            exact ⟨hρ, by rw [hu]; exact ⟨by simp, by simp⟩⟩
          · rw [List.getElem?_set_ne (by omega)] at hq
            exact I'.t q s hq
        exact tellK_ok I2 h5
      · exact h.elim
    · exact h.elim
  | .view i :: E, σ, ρ, k, I, h => by
    unfold tellK at h
    obtain ⟨s, hs, h⟩ := nthK_ok h
    split at h
    · rename_i x
      obtain ⟨r, hr, h⟩ := nthK_ok h
      split at h
      · rename_i sz L
        obtain ⟨hlt, h5⟩ := setK_ok h
        have I2 : Inv X w0 B0 ⟨σ.t.set i (.v (.c (.win x sz 0 L.length))), σ.hp⟩ a w ρ := by
          refine ⟨I.hp, fun j s hj => ?_, by have := I.sz; simpa using this, I.de, I.gr, I.fr, I.ow, I.xs, I.st⟩
          by_cases e : j = i
          · subst e
            rw [List.getElem?_set_self (by simpa using hlt)] at hj
            cases hj
            obtain ⟨hv, hf⟩ := (I.t j _ hs : CRel ρ _ w _ (.own x))
            obtain ⟨v0, hv0, a0, c, h1, h2, _⟩ := I.hp.val hr
            rw [hv] at hv0; cases hv0
            rw [h1] at hv
            show CRel ρ (Av X ρ σ.hp) w (a.tmps.getD j undef) (.win x sz 0 L.length)
            rw [h1]
            refine ⟨a0, L.length, c, hv, by omega, h2, a0, rfl, .inr ?_⟩
            cases a0 <;> simp [Addr.add]
          · rw [List.getElem?_set_ne (by omega)] at hj
            exact I.t j s hj
        exact tellK_ok I2 h5
      · exact h.elim
    · exact h.elim
  | .unrows i :: E, σ, ρ, k, I, h => by
    unfold tellK at h
    obtain ⟨s, hs, h⟩ := nthK_ok h
    split at h
    · rename_i x
      obtain ⟨r, hr, h⟩ := nthK_ok h
      split at h
      · obtain ⟨hM, h5⟩ := h
        replace h5 := loseRs_ok (loseSs_ok h5)
        obtain ⟨_, h5⟩ := setK_ok h5
        obtain ⟨ρ', I'⟩ := unrows_ok I hr hM
        exact tellK_ok I' h5
      · exact h.elim
    · exact h.elim
  | .forget i :: E, σ, ρ, k, I, h => by
    unfold tellK at h
    obtain ⟨r, hr, h⟩ := nthK_ok h
    split at h
    · obtain ⟨_, h⟩ := setK_ok h
      exact tellK_ok (forget_ok I hr) h
    · exact h.elim
  | .freeze i :: E, σ, ρ, k, I, h => by
    unfold tellK at h
    obtain ⟨r, hr, h⟩ := nthK_ok h
    split at h
    · obtain ⟨_, h⟩ := setK_ok h
      exact tellK_ok (I.freezes (FrzOk.row hr)).1 h
    · exact h.elim
  | .close i :: E, σ, ρ, k, I, h => by
    unfold tellK at h
    obtain ⟨r, hr, h⟩ := nthK_ok h
    split at h
    · obtain ⟨x, fr, h, hfr, hc⟩ := close_ok I hr h
      obtain ⟨hno, h⟩ := tt_ok h
      obtain ⟨hxl, h⟩ := tt_ok h
      obtain ⟨_, h⟩ := updsK_ok h
      obtain ⟨_, h⟩ := setK_ok h
      exact tellK_ok (hc hno (Nat.eq_of_beq_eq_true hxl)).1 h
    · exact h.elim
  | .ren x y :: E, σ, ρ, k, I, h => by
    unfold tellK at h
    obtain ⟨r, hr, h⟩ := nthK_ok h
    obtain ⟨hne, h⟩ := tt_ok h
    obtain ⟨hx, h⟩ := setK_ok h
    obtain ⟨_, h⟩ := setK_ok h
    obtain ⟨ρ', I'⟩ := ren_ok I hr (notL_ok hne _ (List.mem_cons_self ..)) (by simpa using hx)
    exact tellK_ok I' h
def Ex.to : Ex → Exit
  | .normal => .normal
  | .exit id => .exit id
  | .ret => .ret
include hT hΓ in
theorem vcCode_ok (hm : P.follows .mixedOrders = true) {c : Code} : plansOk Γ.plan c = true → ∀ {Q : Exit → Act → World → Prop} {K : Ex → St → Prop} {σ : St} {a : Act} {w : World} {ρ : Hs}, Inv X w0 B0 σ a w ρ → vcCode Γ c σ K →
    (∀ e σ' a' w' ρ', K e σ' → Inv X w0 B0 σ' a' w' ρ' → Q e.to a' w') → c.wp P Q a w := by
  induction c with
  | skip => intro _ Q K σ a w ρ I h hn; exact wp_skip (hn _ _ _ _ _ h I)
  | region id ops draw =>
    intro hpl Q K σ a w ρ I h hn
    cases draw with
    | true =>
      simp only [plansOk, Bool.and_eq_true] at hpl
      exact region_ok hT hΓ hm hpl.1 hpl.2 I h (fun σ' a' w' ρ' hk hI => hn .normal _ _ _ _ hk hI)
    | false =>
      refine wp_region ?_
      have := vcOps_ok (Q := Q) hT hΓ (all := ops) ops.toList 0 (K .normal) I (by intro j; simp) h (fun σ' a' w' ρ' hk hI => hn .normal _ _ _ _ hk hI)
      simpa using this
  | seq x y ihx ihy =>
    intro hpl Q K σ a w ρ I h hn
    simp only [plansOk, Bool.and_eq_true] at hpl
    replace ihx := @ihx hpl.1
    replace ihy := @ihy hpl.2
    unfold vcCode at h
    split at h
    · refine wp_seq (ihx I h ?_)
      intro e σ' a' w' ρ' hk hI
      cases e with
      | normal => exact ihy hI hk hn
      | exit id => exact hn (.exit id) _ _ _ _ hk hI
      | ret => exact hn .ret _ _ _ _ hk hI
    · obtain ⟨E, L, nh, J, h, hJ⟩ := h
      refine wp_seq (ihx I h ?_)
      intro e σ' a' w' ρ' hk hI
      cases e with
      | normal =>
        obtain ⟨σ0, ρ0, hk, hI⟩ := tellK_ok hI hk
        obtain ⟨σ1, ρ1, hk, hI⟩ := keepK_ok hI hk
        exact ihy hI (hJ _ hk) hn
      | exit id => exact hn (.exit id) _ _ _ _ hk hI
      | ret => exact hn .ret _ _ _ _ hk hI
  | cond c x y ihx ihy =>
    intro hpl Q K σ a w ρ I h hn
    simp only [plansOk, Bool.and_eq_true] at hpl
    replace ihx := @ihx hpl.1
    replace ihy := @ihy hpl.2
    obtain ⟨s, h, hs⟩ := operand_ok (gd := none) hT I.t I.gla (by intro b w h; cases h) h
    split at h
    · rename_i t
      have hv := sdb_inv hs
      cases t with
      | true => exact wp_cond_true hv (ihx I (h.1 rfl) hn)
      | false => exact wp_cond_false hv (ihy I (h.2 rfl) hn)
    · rename_i n
      obtain ⟨t, hv, ht⟩ := (hs : CRel ρ _ w _ (.nq n))
      cases t with
      | true => exact wp_cond_true hv (ihx I (h.1 (ht rfl)) hn)
      | false => exact wp_cond_false hv (ihy I h.2 hn)
    · exact h.elim
  | block id x ih =>
    intro hpl Q K σ a w ρ I h hn
    replace ih := @ih hpl
    refine wp_block (ih I h ?_)
    intro e σ' a' w' ρ' hk hI
    cases e with
    | normal => exact hn .normal _ _ _ _ hk hI
    | exit j =>
      show Exit.inBlock id Q (.exit j) a' w'
      simp only [Exit.inBlock]
      dsimp only at hk
      by_cases e : j = id
      · subst e
        rw [beq_self_eq_true] at hk
        rw [if_pos rfl]; exact hn .normal _ _ _ _ hk hI
      · have : (j == id) = false := by simpa using e
        rw [this] at hk
        rw [if_neg e]; exact hn (.exit j) _ _ _ _ hk hI
    | ret => exact hn .ret _ _ _ _ hk hI
  | loop x ih =>
    intro hpl Q K σ a w ρ I h hn
    replace ih := @ih hpl
    obtain ⟨E, L, nh, J, ⟨n, hJ⟩, hround⟩ := h
    obtain ⟨σ0, ρ0, hJ, I⟩ := tellK_ok I hJ
    obtain ⟨σ1, ρ1, hJ, I⟩ := keepK_ok I hJ
    refine wp_loop_ghost (fun n a w => ∃ σ ρ, J n σ ∧ Inv X w0 B0 σ a w ρ) n ⟨σ1, ρ1, hJ, I⟩ ?_
    rintro n a w ⟨σ, ρ, hJ, I⟩
    refine ih I (hround n σ hJ) ?_
    intro e σ' a' w' ρ' hk hI
    cases e with
    | normal => obtain ⟨m, hm, E, hk⟩ := hk; obtain ⟨σ3, ρ3, hk, hI⟩ := tellK_ok hI hk; obtain ⟨σ2, ρ2, hk, hI⟩ := keepK_ok hI hk; exact ⟨m, hm, σ2, ρ2, hk, hI⟩
    | exit id => exact hn (.exit id) _ _ _ _ hk hI
    | ret => exact hn .ret _ _ _ _ hk hI
  | exit id => intro _ Q K σ a w ρ I h hn; exact wp_exit (hn (.exit id) _ _ _ _ h I)
  | ret => intro _ Q K σ a w ρ I h hn; exact wp_ret (hn .ret _ _ _ _ h I)
  | scope x ih =>
    intro hpl Q K σ a w ρ I h hn
    replace ih := @ih hpl
    refine wp_scope_straight (ih I h ?_)
    intro e σ' a' w' ρ' hk hI
    cases e with
    | normal => exact hn .normal _ _ _ _ hk hI
    | exit id => exact hn (.exit id) _ _ _ _ hk hI
    | ret => exact hn .ret _ _ _ _ hk hI
  | label l => intro _ Q K σ a w ρ I h; exact h.elim
  | goto l => intro _ Q K σ a w ρ I h; exact h.elim
  | refuse y => intro _ Q K σ a w ρ I h; exact h.elim
  | rangeFunc f ps x y _ _ => intro _ Q K σ a w ρ I h; exact h.elim

theorem run_mapM_results {tmps : Array Value} : ∀ {rs : List ResultVar} {vs : List Value}, All2 (fun v (r : ResultVar) => match r with
      | .tmp t => tmps.getD t undef = v
      | .cell x T => ∃ p : Addr, tmps.getD x undef = .pointer (some p) ∧ (loadVar T p).run P w = .ok v w) vs rs →
    (rs.mapM fun (r : ResultVar) => match r with
      | .tmp t => (pure (tmps.getD t undef) : Sem Value)
      | .cell x T => do loadVar T (← asAddr (tmps.getD x undef))).run P w = .ok vs w
  | [], vs, h => by cases h; rfl
  | r :: rs, vs, h => by
    cases h with
    | @cons v _ vs _ h1 h2 =>
    have ih := run_mapM_results h2
    rw [List.mapM_cons]
    cases r with
    | tmp t =>
      have h1 : tmps.getD t undef = v := h1
      simp only [Sem.run_bind, Sem.run_pure, Result.andThen_ok, h1, ih]
    | cell x T =>
      obtain ⟨p, h1, h3⟩ := h1
      have h4 : (asAddr (.pointer (some p))).run P w = .ok p w := rfl
      simp only [Sem.run_bind, h1, h4, Sem.run_pure, Result.andThen_ok, h3, ih]
include hT in
theorem resK_ok (I : Inv X w0 B0 σ a w ρ) : ∀ {rs : List ResultVar} {k : List V1 → Prop}, resK Γ σ.t σ.hp rs k → ∃ l vs, k l ∧ All2 (V1Rel ρ (Av X ρ σ.hp) w) vs l ∧ All2 (fun v (r : ResultVar) => match r with
      | .tmp t => a.tmps.getD t undef = v
      | .cell x T => ∃ p : Addr, a.tmps.getD x undef = .pointer (some p) ∧ (loadVar T p).run P w = .ok v w) vs rs
  | [], k, h => ⟨[], [], h, .nil, .nil⟩
  | .tmp i :: rs, k, h => by
    unfold resK at h
    replace h := nthK_ok h
    obtain ⟨s, hs, h⟩ := h
    have hr := I.t i s hs
    split at h
    · obtain ⟨l, vs, h, h1, h2⟩ := resK_ok I h
      exact ⟨_, _, h, .cons hr h1, .cons rfl h2⟩
    · exact h.elim
  | .cell x T :: rs, k, h => by
    unfold resK at h
    replace h := nthK_ok h
    obtain ⟨s, hs, h⟩ := h
    have hr := I.t x s hs
    have hh : ∀ (h : Nat) (r : Reg), σ.hp[h]? = some r → ∃ v, ρ[h]? = some v ∧ RegRel ρ (Av X ρ σ.hp) w v r := fun h r hr => I.hp.val hr
    obtain ⟨v, s', h, hrun, hrel⟩ := loadK_ok (gd := none) hT hh (by intro b w h; cases h) hr h
    have hp : ∃ p : Addr, a.tmps.getD x undef = .pointer (some p) := by
      cases hv : a.tmps.getD x undef with
      | pointer p => cases p with
        | none => rw [hv] at hrun; simp [Instr.loadAt, Instr.sureAddr] at hrun
        | some p => exact ⟨p, rfl⟩
      | _ => rw [hv] at hrun; simp [Instr.loadAt, Instr.sureAddr] at hrun
    obtain ⟨p, hp⟩ := hp
    rw [hp] at hrun
    simp [Instr.loadAt, Instr.sureAddr] at hrun
    split at h
    · obtain ⟨l, vs, h, h1, h2⟩ := resK_ok I h
      exact ⟨_, _, h, .cons hrel h1, .cons ⟨p, hp, hrun⟩ h2⟩
    · exact h.elim

def tupV : List Value → Value
  | [v] => v
  | vs => .tuple vs.toArray
theorem run_results {fn : Func} {tmps : Array Value} {vs : List Value} (h : All2 (fun v (r : ResultVar) => match r with
      | .tmp t => tmps.getD t undef = v
      | .cell x T => ∃ p : Addr, tmps.getD x undef = .pointer (some p) ∧ (loadVar T p).run P w = .ok v w) vs fn.results.toList) :
    (results fn tmps).run P w = .ok (tupV vs) w := by
  have hm := run_mapM_results (P := P) (w := w) (tmps := tmps) h
  have e : (fn.results.mapM fun (r : ResultVar) => match r with
      | .tmp t => (pure (tmps.getD t undef) : Sem Value)
      | .cell x T => do loadVar T (← asAddr (tmps.getD x undef))).run P w = .ok vs.toArray w := by
    rw [← Array.toArray_toList (xs := fn.results)]
    rw [List.mapM_toArray]
    simp only [Sem.run_map, hm, Result.andThen_ok]
  unfold results
  rw [Sem.run_bind]
  refine (congrArg (fun r : Result (Array Value) => r.andThen fun a w' => (pure (if h : a.size = 1 then a[0] else Value.tuple a) : Sem Value).run P w') e).trans ?_
  cases vs with
  | nil => rfl
  | cons v vs => cases vs with
    | nil => rfl
    | cons v' vs => simp [tupV]

/-- handles that are handed back -/
def pickH (ρ : Hs) (m : List Nat) : Hs := m.map fun h => ρ.getD h undef
theorem pickH_get {m : List Nat} {i h : Nat} {v : Value} (hm : m[i]? = some h) (hv : ρ[h]? = some v) : (pickH ρ m)[i]? = some v := by
  unfold pickH
  rw [List.getElem?_map, hm]
  simp [List.getD_eq_getElem?_getD, hv]
theorem all2_out {α : Type} {R R' : Value → α → Prop} {O : α → α → Prop} (h : ∀ c r u, R u c → O c r → R' u r) : ∀ {us : List Value} {l l' : List α}, All2 R us l → All2 O l l' → All2 R' us l' := by
  intro us l l' h1 h2
  induction h1 generalizing l' with
  | nil => cases h2; exact .nil
  | cons r _ ih => cases h2 with
    | cons o h2 => exact .cons (h _ _ _ r o) (ih h2)
abbrev OutM (hp : List Reg) (m : List Nat) (new : List Reg) : Prop := All2 (fun h g => ∃ g0, hp[h]? = some g0 ∧ outR hp m g0 g) m new
theorem outR_live {hp : List Reg} {m : List Nat} {g0 g : Reg} (h : outR hp m g0 g) (hl : g.live = true) : g0.live = true := by
  cases g0 <;> cases g <;> simp [Reg.live] at hl ⊢ <;> exact h.elim
theorem live_pick {hp new : List Reg} {m : List Nat} (hm : OutM hp m new) (hl : ρ.length = hp.length) {b : Nat} (h : Live (pickH ρ m) new b) :
    ∃ (i h : Nat) (g : Reg) (v : Value), m[i]? = some h ∧ hp[h]? = some g ∧ g.live = true ∧ ρ[h]? = some v ∧ Bk v b := by
  obtain ⟨i, g, v, h1, h2, h3, h4⟩ := h
  obtain ⟨h, hi, g0, hg, ho⟩ := hm.get' h1
  have hlt : h < ρ.length := by rw [hl]; exact (List.getElem?_eq_some_iff.1 hg).1
  have hv := pickH_get hi (List.getElem?_eq_getElem hlt)
  rw [hv] at h3; cases h3
  exact ⟨i, h, g0, _, hi, hg, outR_live ho h2, List.getElem?_eq_getElem hlt, h4⟩
theorem out_ok (I : Inv X w0 B0 σ a w ρ) {m : List Nat} {new : List Reg} (hnd : m.Nodup) (hm : OutM σ.hp m new) :
    (∀ b, Av X (pickH ρ m) new b → Av X ρ σ.hp b) ∧ HpRel X (pickH ρ m) new w ∧ ∀ (c r : C) (u : Value), CRel ρ (Av X ρ σ.hp) w u c → outC σ.hp m c r → CRel (pickH ρ m) (Av X (pickH ρ m) new) w u r := by
  have hl := I.hp.len
  have hA : ∀ b, Av X (pickH ρ m) new b → Av X ρ σ.hp b := by
    rintro b (h | h)
    · exact .inl h
    · obtain ⟨i, h, g, v, h1, h2, h3, h4, h5⟩ := live_pick hm hl h
      exact .inr ⟨h, g, v, h2, h3, h4, h5⟩
  have hCap : ∀ (c r : Cap) (u : Value), CapRel ρ (Av X ρ σ.hp) w u c → outCap m c r → CapRel (pickH ρ m) (Av X (pickH ρ m) new) w u r := by
    intro c r u hc ho
    unfold outCap at ho
    split at ho
    · trivial
    · obtain ⟨b, h1, h2⟩ := hc; exact ⟨b, pickH_get ho h1, h2⟩
    · exact ⟨pickH_get ho hc.1, hc.2⟩
    · subst ho; exact CapRel.less hA (ρ := ρ) (c := .pel _) hc
    · subst ho; exact CapRel.less hA (ρ := ρ) (c := .d _) hc
    · subst ho; exact hc
    · subst ho; exact hc
    · exact ho.elim
  have hC : ∀ (c r : C) (u : Value), CRel ρ (Av X ρ σ.hp) w u c → outC σ.hp m c r → CRel (pickH ρ m) (Av X (pickH ρ m) new) w u r := by
    intro c r u hc ho
    unfold outC at ho
    split at ho
    · trivial
    · subst ho; exact Rd.lasts (Lasts.mono hA) hc
    · obtain ⟨rfl, rfl⟩ := ho
      obtain ⟨a', rfl⟩ := hc
      show Rd _ w _ (.sl _ [])
      simp only [Rd]; exact ⟨a', 0, rfl, Nat.le_refl _, .inl trivial⟩
    · subst ho; exact hc
    · exact ⟨pickH_get ho hc.1, hc.2⟩
    · rename_i h sz L
      show Rd _ w _ (.sl sz L)
      obtain ⟨hv, hf⟩ := hc
      rcases ho with ⟨ho, hnm⟩ | ho
      · obtain ⟨v', hv', hR⟩ := I.hp.val ho
        rw [hv] at hv'; cases hv'
        obtain ⟨x, c, rfl, hcl, hz, hR⟩ := hR
        simp only [Rd]
        refine ⟨x, c, rfl, hcl, ?_⟩
        cases c with
        | zero => exact .inl (List.length_eq_zero_iff.1 (by omega))
        | succ c =>
          rcases hR with hR | ⟨b, off, Tb, cur, rfl, hcur, _, hL⟩
          · cases hR
          · refine .inr ⟨b, off, rfl, ⟨(Array.getElem?_eq_some_iff.1 hcur).1, ?_⟩, RdL.mono hA hL⟩
            rintro (hX | hlv)
            · exact I.hp.fre b ⟨h, _, _, ho, rfl, hv, rfl⟩ hX
            · obtain ⟨i, h', g, v, h1, h2, h3, h4, h5⟩ := live_pick hm hl hlv
              have := I.hp.dis h' h g _ v _ b h2 ho h3 rfl h4 hv h5 rfl
              subst this
              exact hnm (List.mem_of_getElem? h1)
      · obtain ⟨v', hv', hR⟩ := I.hp.val ho
        rw [hv] at hv'; cases hv'
        exact Rd.lasts (Lasts.mono hA) hR
    · obtain ⟨ho, rfl⟩ := ho
      obtain ⟨b, h1, h2⟩ := hc
      exact ⟨b, pickH_get ho h1, h2⟩
    · subst ho
      obtain ⟨b, off, h1, h2, h3⟩ := hc
      exact ⟨b, off, h1, (Lasts.mono hA).at h2, RdC.lasts (Lasts.mono hA) h2.2 h3⟩
    · obtain ⟨rfl, ho⟩ := ho
      obtain ⟨vs, hv, hc⟩ := hc
      exact ⟨vs, hv, all2_out (R := CapRel ρ (Av X ρ σ.hp) w) (R' := CapRel (pickH ρ m) (Av X (pickH ρ m) new) w) (O := outCap m) hCap hc ho⟩
    · obtain ⟨us, h1, h2⟩ := hc
      exact ⟨us, pickH_get ho h1, h2⟩
    · exact ho.elim
  refine ⟨hA, ⟨by simp [pickH, hm.length], ?_, ?_, ?_⟩, hC⟩
  · intro i g v h1 h3
    obtain ⟨h, hi, g0, hg, ho⟩ := hm.get' h1
    obtain ⟨v', hv', hR⟩ := I.hp.val hg
    have := pickH_get hi hv'
    rw [this] at h3; cases h3
    unfold outR at ho
    split at ho
    · trivial
    · obtain ⟨rfl, rfl⟩ := ho
      obtain ⟨x, c, h5, h6, h7, h8⟩ := hR; exact ⟨x, c, h5, h6, h7, h8.imp id fun ⟨b, off, T, vs, h9, h10, h11, h12⟩ => ⟨b, off, T, vs, h9, h10, h11, RdL.mono hA h12⟩⟩
    · obtain ⟨rfl, rfl⟩ := ho
      exact Rd.lasts (Lasts.mono hA) hR
    · obtain ⟨b, T, vs, h4, h5, h6⟩ := hR
      exact ⟨b, T, vs, h4, h5, all2_out (O := outC σ.hp m) (fun c r u h1 h2 => ⟨h1.1, hC c r u h1.2 h2⟩) h6 ho⟩
    · obtain ⟨rfl, ho⟩ := ho
      rcases hR with hR | ⟨x, rfl, hx⟩ | ⟨x, u0, us, us', rfl, rfl, hx⟩
      · exact .inl (hC _ _ _ hR ho)
      rotate_left
      · rename_i c'
        cases c' <;> simp only [outC] at ho
        case town y => exact .inr (.inr ⟨y, u0, us, us', rfl, rfl, pickH_get ho hx⟩)
        case junk => exact .inl trivial
      · rename_i c'
        cases c' <;> simp only [outC] at ho
        case own y => exact .inr (.inl ⟨y, rfl, pickH_get ho hx⟩)
        case junk => exact .inl trivial
        case d y =>
          cases y <;> simp only [outC] at ho
          rename_i sz L
          have hfl : ∀ vm, ρ[x]? = some vm → Flat vm := by
            intro vm hx
            rcases ho with ⟨ho, _⟩ | ho
            · obtain ⟨v1, hv1, a1, c1, hsl, _⟩ := I.hp.val ho
              rw [hx] at hv1; cases hv1
              subst hsl
              show Flat _
              exact ⟨fun _ h => (by cases h), fun _ h => (by cases h)⟩
            · obtain ⟨v1, hv1, hR1⟩ := I.hp.val ho
              rw [hx] at hv1; cases hv1
              exact Rd.flat (x := .sl sz L) hR1
          exact .inl (hC _ _ _ (show CRel ρ _ w _ (.own x) from ⟨hx, hfl _ hx⟩) ho)
    · subst ho
      obtain ⟨b, es, clock, hv', hb, hM, hn⟩ := hR
      exact ⟨b, es, clock, hv', hb, hM.imp fun _ _ h => ⟨h.1, h.2.lasts (Lasts.mono hA)⟩, hn⟩
    · obtain ⟨rfl, rfl⟩ := ho
      obtain ⟨b, es, clock, us, rfl, hb, hM, hn, hd⟩ := hR
      exact ⟨b, es, clock, us, rfl, hb, hM.lasts (Lasts.mono hA) (fun _ _ _ _ => rfl), hn, hd⟩
    · obtain ⟨rfl, rfl, ho⟩ := ho
      obtain ⟨x, c, h4, h5, h6, h7, b, off, T, vs, h8, h9, h10, h11, h12⟩ := hR
      obtain ⟨us, hall, hcell⟩ := TailAt.vals h12
      have hall' : All2 (fun u c => Flat u ∧ CRel (pickH ρ m) (Av X (pickH ρ m) new) w u c) us _ := all2_out (O := outC σ.hp m) (fun c r u h1 h2 => ⟨h1.1, hC c r u h1.2 h2⟩) hall ho
      refine ⟨x, c, h4, h5, h6, by rw [← h7, ho.length], b, off, T, vs, h8, h9, h10, RdL.mono hA h11, TailAt_iff.2 fun j c' hc' => ?_⟩
      obtain ⟨u, hu, hr'⟩ := hall'.get' hc'
      exact ⟨u, hcell j u hu, hr'⟩
    · exact ho.elim
  · intro i i' g g' v v' b h1 h1' h2 h2' h3 h3' h4 h4'
    obtain ⟨h, hi, g0, hg, ho⟩ := hm.get' h1
    obtain ⟨h', hi', g0', hg', ho'⟩ := hm.get' h1'
    obtain ⟨u, hu, _⟩ := I.hp.val hg
    obtain ⟨u', hu', _⟩ := I.hp.val hg'
    rw [pickH_get hi hu] at h3; cases h3
    rw [pickH_get hi' hu'] at h3'; cases h3'
    have e := I.hp.dis h h' g0 g0' _ _ b hg hg' (outR_live ho h2) (outR_live ho' h2') hu hu' h4 h4'
    subst e
    exact nodup_idx hnd hi hi'
  · intro b hb hx
    obtain ⟨i, h, g, v, h1, h2, h3, h4, h5⟩ := live_pick hm hl hb
    exact I.hp.fre b ⟨h, g, v, h2, h3, h4, h5⟩ hx
theorem outV_ok (I : Inv X w0 B0 σ a w ρ) {m : List Nat} {new : List Reg} (hnd : m.Nodup) (hm : OutM σ.hp m new) {x y : V1} {u : Value} (h : V1Rel ρ (Av X ρ σ.hp) w u x) (ho : outV σ.hp m x y) :
    V1Rel (pickH ρ m) (Av X (pickH ρ m) new) w u y := by
  have key := (out_ok I hnd hm).2.2
  unfold outV at ho
  split at ho
  · exact key _ _ _ h ho
  · obtain ⟨cs, hv, h⟩ := h
    exact ⟨cs, hv, all2_out (fun c r u h1 h2 => ⟨h1.1, key c r u h1.2 h2⟩) h ho⟩
  · exact ho.elim
theorem outS_ok (I : Inv X w0 B0 σ a w ρ) {m : List Nat} {new : List Reg} (hnd : m.Nodup) (hm : OutM σ.hp m new) {x y : S} {u : Value} (h : SRel ρ (Av X ρ σ.hp) w u x) (ho : outS σ.hp m x y) :
    SRel (pickH ρ m) (Av X (pickH ρ m) new) w u y := by
  unfold outS at ho
  split at ho
  · exact outV_ok I hnd hm h ho
  · obtain ⟨vs, hv, h⟩ := h
    exact ⟨vs, hv, all2_out (R := V1Rel ρ (Av X ρ σ.hp) w) (R' := V1Rel (pickH ρ m) (Av X (pickH ρ m) new) w) (O := outV σ.hp m) (fun c r u h1 h2 => outV_ok I hnd hm h1 h2) h ho⟩
  · exact ho.elim
include hT in
theorem retK_ok (I : Inv X w0 B0 σ a w ρ) {fn : Func} {k : S → List Reg → Prop} (h : retK Γ fn σ k) : ∃ v s, k s σ.hp ∧ (results fn a.tmps).run P w = .ok v w ∧ SRel ρ (Av X ρ σ.hp) w v s := by
  unfold retK at h
  obtain ⟨l, vs, h, h1, h2⟩ := resK_ok hT I h
  have hrun := run_results h2
  split at h
  · cases h1 with
    | cons r h1 => cases h1; exact ⟨_, _, h, hrun, r⟩
  · rename_i hne
    refine ⟨_, _, h, hrun, ?_⟩
    have e : tupV vs = .tuple vs.toArray := by
      cases h1 with
      | nil => rfl
      | cons r h1 => cases h1 with
        | nil => exact absurd rfl (hne _)
        | cons _ _ => rfl
    rw [e]
    exact ⟨vs.toArray, rfl, by simpa using h1⟩
include hT hΓ in
/-- What is said to be left to prove of a function suffices. -/
theorem fn_ok (hm : P.follows .mixedOrders = true) {f : FuncId} {fn : Func} (hf : P.funcs[f]? = some fn) (hpl : (match fn.body with | some c => plansOk Γ.plan c | none => true) = true) {R : List S → List Reg → S → List Reg → Prop} (h : ∀ ss hp r out, R ss hp r out → vcFn Γ fn ss hp (Ret r out)) : Ok P f R := by
  intro X w args ss hp ρ r out hG0 hX hhp hgl0 hargs hR
  haveI : GPc X (Live ρ hp) w := ⟨fun g l hg => by
    obtain ⟨h1, h2, _, h4⟩ := hG0.gl g l hg
    exact ⟨h1, h2, fun hl => hgl0 g hl g l hg rfl, h4⟩⟩
  have h := h ss hp r out hR
  unfold vcFn at h
  split at h
  · exact h.elim
  · rename_i c hb
    refine calls_of_wp hf hb ?_
    have hlen : args.size = ss.length := by have := hargs.length; simpa using this
    have I : Inv X w (Live ρ hp) ⟨ss ++ List.replicate (fn.ntmps - ss.length) .junk, hp⟩ { tmps := args ++ Array.replicate (fn.ntmps - args.size) undef, defers := [] } w ρ := by
      refine ⟨hhp, ?_, by simp [hlen], rfl, Nat.le_refl _, fun _ _ _ => rfl, fun b hb => .inl hb, hX, Str.refl w⟩
      intro i s hs
      rcases Nat.lt_or_ge i ss.length with hi | hi
      · rw [List.getElem?_append_left hi] at hs
        obtain ⟨u, hu, hr⟩ := hargs.get' hs
        have : (args ++ Array.replicate (fn.ntmps - args.size) undef).getD i undef = u := by
          rw [Array.getD_eq_getD_getElem?, Array.getElem?_append_left (by omega)]
          rw [Array.getElem?_toList] at hu
          rw [hu]; rfl
        dsimp only
        rw [this]
        exact hr
      · rw [List.getElem?_append_right hi] at hs
        have := List.mem_of_getElem? hs
        rw [List.mem_replicate] at this
        rw [this.2]; trivial
    rw [hb] at hpl
    refine vcCode_ok hT hΓ hm hpl I h ?_
    intro e σ' a' w' ρ' hk hI
    have fin : (∃ E, tellK E σ' fun σ' => retK Γ fn σ' (Ret r out)) → a'.defers = [] ∧ ∃ v, (results fn a'.tmps).run P w' = .ok v w' ∧ (∃ v_1 ρ', Ending.returned v = .returned v_1 ∧ SRel ρ' (Av X ρ' out) w' v_1 r ∧ HpRel X ρ' out w' ∧ w.heap.size ≤ w'.heap.size ∧ Str w w' ∧ (∀ b, b < w.heap.size → ¬ Live ρ hp b → w'.heap[b]? = w.heap[b]?) ∧ ∀ b, Live ρ' out b → Live ρ hp b ∨ w.heap.size ≤ b) := by
      rintro ⟨E, hk⟩
      obtain ⟨σ', ρ', hk, hI⟩ := tellK_ok hI hk
      obtain ⟨v, s, ⟨m, hnd, hm, ho⟩, hrun, hrel⟩ := retK_ok hT hI hk
      refine ⟨hI.de, v, hrun, v, pickH ρ' m, rfl, outS_ok hI hnd hm hrel ho, (out_ok hI hnd hm).2.1, hI.gr, hI.st, fun b hb hn => hI.fr b hb hn, fun b hb => ?_⟩
      obtain ⟨i, h, g, v, h1, h2, h3, h4, h5⟩ := live_pick hm hI.hp.len hb
      exact hI.ow b ⟨h, g, v, h2, h3, h4, h5⟩
    cases e with
    | normal => exact fin hk
    | ret => exact fin hk
    | exit id => exact hk.elim
end
end Go.Proofs.YtphmcgmblkbijaaVY
