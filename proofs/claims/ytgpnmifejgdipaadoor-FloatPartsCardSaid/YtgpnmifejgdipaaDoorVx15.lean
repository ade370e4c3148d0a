/-
  VX: a function: what is said to be left to prove suffices. By the session's own hand.
-/
import Derived.Test.YtgpnmifejgdipaaDoorVx14
import Derived.Deep.LoopGhost
import Derived.Scope
set_option linter.unusedSectionVars false
set_option linter.unusedVariables false
set_option linter.unusedSimpArgs false
namespace Go.Proofs.YtgpnmifejgdipaaDoorVX

/-- what is handed back, against what is promised -/
def outC (hp : List Reg) (m : List Nat) : C → C → Prop
  | _, .junk => True
  | .d x, .d y => x = y
  | .emp sz, .d (.sl sz' L) => sz = sz' ∧ L = []
  | .own h, .own i => m[i]? = some h
  | .own h, .d (.sl sz L) => (hp[h]? = some (.row sz L) ∧ h ∉ m) ∨ hp[h]? = some (.frz sz L)
  | .pel l, .pel l' => l = l'
  | _, _ => False
def outV (hp : List Reg) (m : List Nat) : V1 → V1 → Prop
  | .c x, .c y => outC hp m x y
  | .ag l, .ag l' => All2 (outC hp m) l l'
  | _, _ => False
def outS (hp : List Reg) (m : List Nat) : S → S → Prop
  | .v x, .v y => outV hp m x y
  | .tup l, .tup l' => All2 (outV hp m) l l'
  | _, _ => False
def isRow : Reg → Prop
  | .row _ _ | .frz _ _ => True
  | _ => False
def Ret (r : S) (new : List Reg) (s : S) (hp : List Reg) : Prop := ∃ m : List Nat, m.Nodup ∧ All2 (fun h g => hp[h]? = some g ∧ isRow g) m new ∧ outS hp m s r
section
variable {P : Program} {Γ : Cx} {w w' : World} {X : Nat → Prop} {w0 : World} {B0 : Nat → Prop} [hGP : GPc X B0 w0] {σ : St} {a : Act} {ρ ρn : Hs} {gd : Option (Bool × Bool)} {Q : Exit → Act → World → Prop}
variable (hT : TyOk P Γ.ty) (hΓ : ∀ f R, Γ.fns f = some R → Snd P f R)

theorem Keeps_take (ρ : Hs) (n : Nat) {h : Nat} (hn : h < n) : (ρ.take n)[h]? = ρ[h]? := by rw [List.getElem?_take, if_pos hn]
section under
variable {n : Nat} {A A' : Nat → Prop} (hA : ∀ b, A' b → A b)
include hA
theorem Cap.under_ok {c : Cap} {u : Value} (hb : c.under n = true) (h : CapRel ρ A w u c) : CapRel (ρ.take n) A' w u c := by
  cases c with
  | ptr x => obtain ⟨b, h1, h2⟩ := h; exact ⟨b, by rw [Keeps_take ρ n (by simpa [Cap.under, Nat.blt_eq] using hb)]; exact h1, h2⟩
  | pel l => obtain ⟨b, off, h1, h2, h3⟩ := h; exact ⟨b, off, h1, (Lasts.mono hA).at h2, RdC.lasts (Lasts.mono hA) h2.2 h3⟩
theorem C.under_ok {c : C} {u : Value} (hb : c.under n = true) (h : CRel ρ A w u c) : CRel (ρ.take n) A' w u c := by
  cases c with
  | d x => exact Rd.lasts (Lasts.mono hA) h
  | emp sz => exact h
  | own x => exact ⟨by rw [Keeps_take ρ n (by simpa [C.under, Nat.blt_eq] using hb)]; exact h.1, h.2⟩
  | win x sz lo k => obtain ⟨a', l, c, h1, h2⟩ := h; exact ⟨a', l, c, by rw [Keeps_take ρ n (by simpa [C.under, Nat.blt_eq] using hb)]; exact h1, h2⟩
  | ptr x off => obtain ⟨b, h1, h2⟩ := h; exact ⟨b, by rw [Keeps_take ρ n (by simpa [C.under, Nat.blt_eq] using hb)]; exact h1, h2⟩
  | prow x sz i j => obtain ⟨b, off, l, c, h1, h2⟩ := h; exact ⟨b, off, l, c, by rw [Keeps_take ρ n (by simpa [C.under, Nat.blt_eq] using hb)]; exact h1, h2⟩
  | pel l => obtain ⟨b, off, h1, h2, h3⟩ := h; exact ⟨b, off, h1, (Lasts.mono hA).at h2, RdC.lasts (Lasts.mono hA) h2.2 h3⟩
  | fn f cs =>
    obtain ⟨vs, hv, h⟩ := h
    refine ⟨vs, hv, ?_⟩
    have hall : ∀ c ∈ cs, c.under n = true := by simpa [C.under] using hb
    clear hb hv
    generalize vs.toList = us at h
    induction h with
    | nil => exact .nil
    | cons r _ ih => exact .cons (Cap.under_ok hA (hall _ (List.mem_cons_self ..)) r) (ih fun c hc => hall c (List.mem_cons_of_mem _ hc))
  | junk => trivial
theorem cells_under {cs : List C} {us : List Value} (hb : ∀ c ∈ cs, c.under n = true) (h : All2 (fun u c => Flat u ∧ CRel ρ A w u c) us cs) : All2 (fun u c => Flat u ∧ CRel (ρ.take n) A' w u c) us cs := by
  induction h with
  | nil => exact .nil
  | cons r _ ih => exact .cons ⟨r.1, C.under_ok hA (hb _ (List.mem_cons_self ..)) r.2⟩ (ih fun c hc => hb c (List.mem_cons_of_mem _ hc))
theorem S.under_ok {s : S} {u : Value} (hb : s.under n = true) (h : SRel ρ A w u s) : SRel (ρ.take n) A' w u s := by
  cases s with
  | tup l => simp [S.under] at hb
  | v x => cases x with
    | c x => exact C.under_ok hA hb h
    | ag l => obtain ⟨cs, hv, h⟩ := h; exact ⟨cs, hv, cells_under hA (by simpa [S.under, V1.under] using hb) h⟩
    | cnd _ _ _ => simp [S.under, V1.under] at hb
theorem Reg.under_ok {r : Reg} {u : Value} (hb : r.under n = true) (h : RegRel ρ A w u r) : RegRel (ρ.take n) A' w u r := by
  cases r with
  | box cs => obtain ⟨b, T, vs, h1, h2, h3⟩ := h; exact ⟨b, T, vs, h1, h2, cells_under hA (by simpa [Reg.under] using hb) h3⟩
  | row sz L => obtain ⟨x, c, h1, h2, h3, h4⟩ := h; exact ⟨x, c, h1, h2, h3, h4.imp id fun ⟨b, off, T, vs, h5, h6, h7, h8⟩ => ⟨b, off, T, vs, h5, h6, h7, RdL.mono hA h8⟩⟩
  | frz sz L => exact Rd.lasts (Lasts.mono hA) h
  | gone => trivial
end under
theorem keepT_ok {L : List Nat} {nh : Nat} {l : List S} : ∀ {i : Nat} {k : List S → Prop}, keepT L nh i l k → ∃ l', k l' ∧ l'.length = l.length ∧ ∀ (j : Nat) (s : S), l'[j]? = some s → s = .junk ∨ (l[j]? = some s ∧ s.under nh = true) := by
  induction l with
  | nil => intro i k h; exact ⟨[], h, rfl, by simp⟩
  | cons x l ih =>
    intro i k h
    unfold keepT at h
    split at h
    · obtain ⟨hb, h⟩ := tt_ok h
      obtain ⟨l', h, h1, h2⟩ := ih h
      refine ⟨_, h, by simp [h1], fun j s hj => ?_⟩
      cases j with
      | zero => simp at hj; subst hj; exact .inr ⟨by simp, hb⟩
      | succ j => simpa using h2 j s (by simpa using hj)
    · obtain ⟨l', h, h1, h2⟩ := ih h
      refine ⟨_, h, by simp [h1], fun j s hj => ?_⟩
      cases j with
      | zero => simp at hj; exact .inl hj.symm
      | succ j => simpa using h2 j s (by simpa using hj)
theorem allBelow_ok {nh : Nat} {l : List Reg} {p : Prop} (h : allBelow nh l p) : (∀ r ∈ l, r.under nh = true) ∧ p := by
  induction l with
  | nil => exact ⟨by simp, h⟩
  | cons r l ih =>
    obtain ⟨h1, h⟩ := tt_ok h
    obtain ⟨h2, h⟩ := ih h
    exact ⟨by simpa using ⟨h1, h2⟩, h⟩
theorem keepK_ok (I : Inv X w0 B0 σ a w ρ) {L : List Nat} {nh : Nat} {k : St → Prop} (h : σ.keepK L nh k) : ∃ σ' ρ', k σ' ∧ Inv X w0 B0 σ' a w ρ' := by
  unfold St.keepK at h
  obtain ⟨t, h, hl, ht⟩ := keepT_ok h
  obtain ⟨hn, h⟩ := takeK_ok h
  obtain ⟨hb, h⟩ := allBelow_ok h
  have hlive : ∀ b, Live (ρ.take nh) (σ.hp.take nh) b → Live ρ σ.hp b := by
    rintro b ⟨h, r, v, h1, h2, h3, h4⟩
    have hlt : h < nh := by have := (List.getElem?_eq_some_iff.1 h1).1; simp at this; omega
    rw [List.getElem?_take, if_pos hlt] at h1 h3
    exact ⟨h, r, v, h1, h2, h3, h4⟩
  have hA : ∀ b, Av X (ρ.take nh) (σ.hp.take nh) b → Av X ρ σ.hp b := fun b h => h.imp id (hlive b)
  have get : ∀ {h : Nat} {r : Reg} {v : Value}, (σ.hp.take nh)[h]? = some r → (ρ.take nh)[h]? = some v → σ.hp[h]? = some r ∧ ρ[h]? = some v := by
    intro h r v h1 h3
    have hlt : h < nh := by have := (List.getElem?_eq_some_iff.1 h1).1; simp at this; omega
    rw [List.getElem?_take, if_pos hlt] at h1 h3
    exact ⟨h1, h3⟩
  refine ⟨_, ρ.take nh, h, ⟨⟨by simp [I.hp.len], ?_, ?_, fun b hb => I.hp.fre b (hlive b hb)⟩, ?_, by rw [hl]; exact I.sz, I.de, I.gr, I.fr, fun b hb => I.ow b (hlive b hb), I.xs, I.st⟩⟩
  · intro h r v h1 h3
    obtain ⟨h1', h3'⟩ := get h1 h3
    exact Reg.under_ok hA (hb r (List.mem_of_getElem? h1)) (I.hp.reg h r v h1' h3')
  · intro h h' r r' v v' b h1 h1' h2 h2' h3 h3' h4 h4'
    obtain ⟨h1, h3⟩ := get h1 h3
    obtain ⟨h1', h3'⟩ := get h1' h3'
    exact I.hp.dis h h' r r' v v' b h1 h1' h2 h2' h3 h3' h4 h4'
  · intro j s hs
    rcases ht j s hs with rfl | ⟨hs', hbl⟩
    · trivial
    · exact S.under_ok hA hbl (I.t j s hs')
theorem born_own (I : Inv X w0 B0 σ a w ρ) {i sz : Nat} (hi : σ.t[i]? = some (.one (.emp sz))) (hsz : 0 < sz) : ∃ ρ', Inv X w0 B0 ⟨σ.t.set i (.one (.own σ.hp.length)), σ.hp ++ [.row sz []]⟩ a w ρ' := by
  obtain ⟨a0, hv⟩ := (I.t i _ hi : CRel ρ _ w _ (.emp sz))
  have T' := touchAdd I (w' := w) (r := .row sz []) (v := .slice a0 0 0) (Nat.le_refl _) (fun _ _ => rfl) ⟨rfl, rfl, rfl⟩ (fun _ b hb => by cases a0 <;> simp [blk] at hb)
  have hl := T'.ρt
  have I' := I.touch T' ⟨a0, 0, rfl, Nat.le_refl _, hsz, .inl rfl⟩
  rw [map_sloseO_none] at I'
  have hlt : i < σ.t.length := (List.getElem?_eq_some_iff.1 hi).1
  refine ⟨_, ⟨I'.hp, ?_, by have := I'.sz; simpa using this, I'.de, I'.gr, I'.fr, I'.ow, I'.xs, I'.st⟩⟩
  intro j s hj
  by_cases e : j = i
  · subst e
    rw [List.getElem?_set_self hlt] at hj
    cases hj
    rw [hv]
    exact sown hl ⟨by simp, by simp⟩
  · rw [List.getElem?_set_ne (by omega)] at hj
    exact I'.t j s hj
theorem born_read (I : Inv X w0 B0 σ a w ρ) {i sz : Nat} (hi : σ.t[i]? = some (.one (.emp sz))) : Inv X w0 B0 ⟨σ.t.set i (.one (.d (.sl sz []))), σ.hp⟩ a w ρ := by
  obtain ⟨a0, hv⟩ := (I.t i _ hi : CRel ρ _ w _ (.emp sz))
  have hlt : i < σ.t.length := (List.getElem?_eq_some_iff.1 hi).1
  refine ⟨I.hp, ?_, by have := I.sz; simpa using this, I.de, I.gr, I.fr, I.ow, I.xs, I.st⟩
  intro j s hj
  by_cases e : j = i
  · subst e
    rw [List.getElem?_set_self hlt] at hj
    cases hj
    rw [hv]
    show Rd _ _ _ _
    simp only [Rd]
    exact ⟨a0, 0, rfl, Nat.le_refl _, .inl trivial⟩
  · rw [List.getElem?_set_ne (by omega)] at hj
    exact I.t j s hj
theorem bornK_ok : ∀ {E : List (Nat × Bool)} {σ : St} {ρ : Hs} {k : St → Prop}, Inv X w0 B0 σ a w ρ → bornK E σ k → ∃ σ' ρ', k σ' ∧ Inv X w0 B0 σ' a w ρ'
  | [], σ, ρ, k, I, h => ⟨σ, ρ, h, I⟩
  | (i, o) :: E, σ, ρ, k, I, h => by
    unfold bornK at h
    obtain ⟨s, hs, h⟩ := nthK_ok h
    split at h
    · split at h
      · obtain ⟨hq, h⟩ := tt_ok h
        replace h := lenK_ok h
        rw [Nat.zero_add] at h
        replace h := appK_ok h
        obtain ⟨_, h⟩ := setK_ok h
        obtain ⟨ρ', I'⟩ := born_own I hs (Nat.le_of_ble_eq_true hq)
        exact bornK_ok I' h
      · obtain ⟨_, h⟩ := setK_ok h
        exact bornK_ok (born_read I hs) h
    · exact h.elim
def Ex.to : Ex → Exit
  | .normal => .normal
  | .exit id => .exit id
  | .ret => .ret
include hT hΓ in
theorem vcCode_ok (hm : P.follows .mixedOrders = true) {c : Code} : plansOk Γ.plan c = true → ∀ {Q : Exit → Act → World → Prop} {K : Ex → St → Prop} {σ : St} {a : Act} {w : World} {ρ : Hs}, Inv X w0 B0 σ a w ρ → vcCode Γ c σ K →
    (∀ e σ' a' w' ρ', K e σ' → Inv X w0 B0 σ' a' w' ρ' → Q e.to a' w') → c.wp P Q a w := by
  induction c with
  | skip => intro _ Q K σ a w ρ I h hn; exact wp_skip (hn _ _ _ _ _ h I)
  | region id ops draw =>
    intro hpl Q K σ a w ρ I h hn
    cases draw with
    | true =>
      simp only [plansOk, Bool.and_eq_true] at hpl
      exact region_ok hT hΓ hm hpl.1 hpl.2 I h (fun σ' a' w' ρ' hk hI => hn .normal _ _ _ _ hk hI)
    | false =>
      refine wp_region ?_
      have := vcOps_ok (Q := Q) hT hΓ (all := ops) ops.toList 0 (K .normal) I (by intro j; simp) h (fun σ' a' w' ρ' hk hI => hn .normal _ _ _ _ hk hI)
      simpa using this
  | seq x y ihx ihy =>
    intro hpl Q K σ a w ρ I h hn
    simp only [plansOk, Bool.and_eq_true] at hpl
    replace ihx := @ihx hpl.1
    replace ihy := @ihy hpl.2
    unfold vcCode at h
    split at h
    · refine wp_seq (ihx I h ?_)
      intro e σ' a' w' ρ' hk hI
      cases e with
      | normal => exact ihy hI hk hn
      | exit id => exact hn (.exit id) _ _ _ _ hk hI
      | ret => exact hn .ret _ _ _ _ hk hI
    · obtain ⟨L, nh, J, h, hJ⟩ := h
      refine wp_seq (ihx I h ?_)
      intro e σ' a' w' ρ' hk hI
      cases e with
      | normal =>
        obtain ⟨σ1, ρ1, hk, hI⟩ := keepK_ok hI hk
        exact ihy hI (hJ _ hk) hn
      | exit id => exact hn (.exit id) _ _ _ _ hk hI
      | ret => exact hn .ret _ _ _ _ hk hI
  | cond c x y ihx ihy =>
    intro hpl Q K σ a w ρ I h hn
    simp only [plansOk, Bool.and_eq_true] at hpl
    replace ihx := @ihx hpl.1
    replace ihy := @ihy hpl.2
    obtain ⟨s, h, hs⟩ := operand_ok (gd := none) hT I.t I.gla (by intro b w h; cases h) h
    split at h
    · rename_i t
      have hv := sdb_inv hs
      cases t with
      | true => exact wp_cond_true hv (ihx I (h.1 rfl) hn)
      | false => exact wp_cond_false hv (ihy I (h.2 rfl) hn)
    · exact h.elim
  | block id x ih =>
    intro hpl Q K σ a w ρ I h hn
    replace ih := @ih hpl
    refine wp_block (ih I h ?_)
    intro e σ' a' w' ρ' hk hI
    cases e with
    | normal => exact hn .normal _ _ _ _ hk hI
    | exit j =>
      show Exit.inBlock id Q (.exit j) a' w'
      simp only [Exit.inBlock]
      dsimp only at hk
      by_cases e : j = id
      · subst e
        rw [beq_self_eq_true] at hk
        rw [if_pos rfl]; exact hn .normal _ _ _ _ hk hI
      · have : (j == id) = false := by simpa using e
        rw [this] at hk
        rw [if_neg e]; exact hn (.exit j) _ _ _ _ hk hI
    | ret => exact hn .ret _ _ _ _ hk hI
  | loop x ih =>
    intro hpl Q K σ a w ρ I h hn
    replace ih := @ih hpl
    obtain ⟨E, L, nh, J, ⟨n, hJ⟩, hround⟩ := h
    obtain ⟨σ0, ρ0, hJ, I⟩ := bornK_ok I hJ
    obtain ⟨σ1, ρ1, hJ, I⟩ := keepK_ok I hJ
    refine wp_loop_ghost (fun n a w => ∃ σ ρ, J n σ ∧ Inv X w0 B0 σ a w ρ) n ⟨σ1, ρ1, hJ, I⟩ ?_
    rintro n a w ⟨σ, ρ, hJ, I⟩
    refine ih I (hround n σ hJ) ?_
    intro e σ' a' w' ρ' hk hI
    cases e with
    | normal => obtain ⟨m, hm, hk⟩ := hk; obtain ⟨σ2, ρ2, hk, hI⟩ := keepK_ok hI hk; exact ⟨m, hm, σ2, ρ2, hk, hI⟩
    | exit id => exact hn (.exit id) _ _ _ _ hk hI
    | ret => exact hn .ret _ _ _ _ hk hI
  | exit id => intro _ Q K σ a w ρ I h hn; exact wp_exit (hn (.exit id) _ _ _ _ h I)
  | ret => intro _ Q K σ a w ρ I h hn; exact wp_ret (hn .ret _ _ _ _ h I)
  | scope x ih =>
    intro hpl Q K σ a w ρ I h hn
    replace ih := @ih hpl
    refine wp_scope_straight (ih I h ?_)
    intro e σ' a' w' ρ' hk hI
    cases e with
    | normal => exact hn .normal _ _ _ _ hk hI
    | exit id => exact hn (.exit id) _ _ _ _ hk hI
    | ret => exact hn .ret _ _ _ _ hk hI
  | label l => intro _ Q K σ a w ρ I h; exact h.elim
  | goto l => intro _ Q K σ a w ρ I h; exact h.elim
  | refuse y => intro _ Q K σ a w ρ I h; exact h.elim
  | rangeFunc f ps x y _ _ => intro _ Q K σ a w ρ I h; exact h.elim

theorem run_mapM_results {tmps : Array Value} : ∀ {rs : List ResultVar} {vs : List Value}, All2 (fun v (r : ResultVar) => match r with
      | .tmp t => tmps.getD t undef = v
      | .cell x T => ∃ p : Addr, tmps.getD x undef = .pointer (some p) ∧ (loadVar T p).run P w = .ok v w) vs rs →
    (rs.mapM fun (r : ResultVar) => match r with
      | .tmp t => (pure (tmps.getD t undef) : Sem Value)
      | .cell x T => do loadVar T (← asAddr (tmps.getD x undef))).run P w = .ok vs w
  | [], vs, h => by cases h; rfl
  | r :: rs, vs, h => by
    cases h with
    | @cons v _ vs _ h1 h2 =>
    have ih := run_mapM_results h2
    rw [List.mapM_cons]
    cases r with
    | tmp t =>
      have h1 : tmps.getD t undef = v := h1
      simp only [Sem.run_bind, Sem.run_pure, Result.andThen_ok, h1, ih]
    | cell x T =>
      obtain ⟨p, h1, h3⟩ := h1
      have h4 : (asAddr (.pointer (some p))).run P w = .ok p w := rfl
      simp only [Sem.run_bind, h1, h4, Sem.run_pure, Result.andThen_ok, h3, ih]
include hT in
theorem resK_ok (I : Inv X w0 B0 σ a w ρ) : ∀ {rs : List ResultVar} {k : List V1 → Prop}, resK Γ σ.t σ.hp rs k → ∃ l vs, k l ∧ All2 (V1Rel ρ (Av X ρ σ.hp) w) vs l ∧ All2 (fun v (r : ResultVar) => match r with
      | .tmp t => a.tmps.getD t undef = v
      | .cell x T => ∃ p : Addr, a.tmps.getD x undef = .pointer (some p) ∧ (loadVar T p).run P w = .ok v w) vs rs
  | [], k, h => ⟨[], [], h, .nil, .nil⟩
  | .tmp i :: rs, k, h => by
    unfold resK at h
    replace h := nthK_ok h
    obtain ⟨s, hs, h⟩ := h
    have hr := I.t i s hs
    split at h
    · obtain ⟨l, vs, h, h1, h2⟩ := resK_ok I h
      exact ⟨_, _, h, .cons hr h1, .cons rfl h2⟩
    · exact h.elim
  | .cell x T :: rs, k, h => by
    unfold resK at h
    replace h := nthK_ok h
    obtain ⟨s, hs, h⟩ := h
    have hr := I.t x s hs
    have hh : ∀ (h : Nat) (r : Reg), σ.hp[h]? = some r → ∃ v, ρ[h]? = some v ∧ RegRel ρ (Av X ρ σ.hp) w v r := fun h r hr => I.hp.val hr
    obtain ⟨v, s', h, hrun, hrel⟩ := loadK_ok (gd := none) hT hh (by intro b w h; cases h) hr h
    have hp : ∃ p : Addr, a.tmps.getD x undef = .pointer (some p) := by
      cases hv : a.tmps.getD x undef with
      | pointer p => cases p with
        | none => rw [hv] at hrun; simp [Instr.loadAt, Instr.sureAddr] at hrun
        | some p => exact ⟨p, rfl⟩
      | _ => rw [hv] at hrun; simp [Instr.loadAt, Instr.sureAddr] at hrun
    obtain ⟨p, hp⟩ := hp
    rw [hp] at hrun
    simp [Instr.loadAt, Instr.sureAddr] at hrun
    split at h
    · obtain ⟨l, vs, h, h1, h2⟩ := resK_ok I h
      exact ⟨_, _, h, .cons hrel h1, .cons ⟨p, hp, hrun⟩ h2⟩
    · exact h.elim

def tupV : List Value → Value
  | [v] => v
  | vs => .tuple vs.toArray
theorem run_results {fn : Func} {tmps : Array Value} {vs : List Value} (h : All2 (fun v (r : ResultVar) => match r with
      | .tmp t => tmps.getD t undef = v
      | .cell x T => ∃ p : Addr, tmps.getD x undef = .pointer (some p) ∧ (loadVar T p).run P w = .ok v w) vs fn.results.toList) :
    (results fn tmps).run P w = .ok (tupV vs) w := by
  have hm := run_mapM_results (P := P) (w := w) (tmps := tmps) h
  have e : (fn.results.mapM fun (r : ResultVar) => match r with
      | .tmp t => (pure (tmps.getD t undef) : Sem Value)
      | .cell x T => do loadVar T (← asAddr (tmps.getD x undef))).run P w = .ok vs.toArray w := by
    rw [← Array.toArray_toList (xs := fn.results)]
    rw [List.mapM_toArray]
    simp only [Sem.run_map, hm, Result.andThen_ok]
  unfold results
  rw [Sem.run_bind]
  refine (congrArg (fun r : Result (Array Value) => r.andThen fun a w' => (pure (if h : a.size = 1 then a[0] else Value.tuple a) : Sem Value).run P w') e).trans ?_
  cases vs with
  | nil => rfl
  | cons v vs => cases vs with
    | nil => rfl
    | cons v' vs => simp [tupV]

/-- handles that are handed back -/
def pickH (ρ : Hs) (m : List Nat) : Hs := m.map fun h => ρ.getD h undef
theorem pickH_get {m : List Nat} {i h : Nat} {v : Value} (hm : m[i]? = some h) (hv : ρ[h]? = some v) : (pickH ρ m)[i]? = some v := by
  unfold pickH
  rw [List.getElem?_map, hm]
  simp [List.getD_eq_getElem?_getD, hv]
theorem live_pick {hp new : List Reg} {m : List Nat} (hm : All2 (fun h g => hp[h]? = some g ∧ isRow g) m new) (hl : ρ.length = hp.length) {b : Nat} (h : Live (pickH ρ m) new b) :
    ∃ (i h : Nat) (g : Reg) (v : Value), m[i]? = some h ∧ hp[h]? = some g ∧ g.live = true ∧ ρ[h]? = some v ∧ blk v = some b := by
  obtain ⟨i, g, v, h1, h2, h3, h4⟩ := h
  obtain ⟨h, hi, hg, _⟩ := hm.get' h1
  have hlt : h < ρ.length := by rw [hl]; exact (List.getElem?_eq_some_iff.1 hg).1
  have hv := pickH_get hi (List.getElem?_eq_getElem hlt)
  rw [hv] at h3; cases h3
  exact ⟨i, h, g, _, hi, hg, h2, List.getElem?_eq_getElem hlt, h4⟩
theorem out_ok (I : Inv X w0 B0 σ a w ρ) {m : List Nat} {new : List Reg} (hnd : m.Nodup) (hm : All2 (fun h g => σ.hp[h]? = some g ∧ isRow g) m new) :
    (∀ b, Av X (pickH ρ m) new b → Av X ρ σ.hp b) ∧ HpRel X (pickH ρ m) new w ∧ ∀ (c r : C) (u : Value), CRel ρ (Av X ρ σ.hp) w u c → outC σ.hp m c r → CRel (pickH ρ m) (Av X (pickH ρ m) new) w u r := by
  have hl := I.hp.len
  have hA : ∀ b, Av X (pickH ρ m) new b → Av X ρ σ.hp b := by
    rintro b (h | h)
    · exact .inl h
    · obtain ⟨i, h, g, v, h1, h2, h3, h4, h5⟩ := live_pick hm hl h
      exact .inr ⟨h, g, v, h2, h3, h4, h5⟩
  refine ⟨hA, ⟨by simp [pickH, hm.length], ?_, ?_, ?_⟩, ?_⟩
  · intro i g v h1 h3
    obtain ⟨h, hi, hg, hrow⟩ := hm.get' h1
    obtain ⟨v', hv', hR⟩ := I.hp.val hg
    have := pickH_get hi hv'
    rw [this] at h3; cases h3
    cases g with
    | row sz L => obtain ⟨x, c, h5, h6, h7, h8⟩ := hR; exact ⟨x, c, h5, h6, h7, h8.imp id fun ⟨b, off, T, vs, h9, h10, h11, h12⟩ => ⟨b, off, T, vs, h9, h10, h11, RdL.mono hA h12⟩⟩
    | frz sz L => exact Rd.lasts (Lasts.mono hA) hR
    | _ => exact hrow.elim
  · intro i i' g g' v v' b h1 h1' h2 h2' h3 h3' h4 h4'
    obtain ⟨h, hi, hg, _⟩ := hm.get' h1
    obtain ⟨h', hi', hg', _⟩ := hm.get' h1'
    obtain ⟨u, hu, _⟩ := I.hp.val hg
    obtain ⟨u', hu', _⟩ := I.hp.val hg'
    rw [pickH_get hi hu] at h3; cases h3
    rw [pickH_get hi' hu'] at h3'; cases h3'
    have e := I.hp.dis h h' g g' _ _ b hg hg' h2 h2' hu hu' h4 h4'
    subst e
    have hlt := (List.getElem?_eq_some_iff.1 hi).1
    have hlt' := (List.getElem?_eq_some_iff.1 hi').1
    have := (List.getElem_inj hnd (h₀ := hlt) (h₁ := hlt')).1 ((List.getElem?_eq_some_iff.1 hi).2.trans (List.getElem?_eq_some_iff.1 hi').2.symm)
    exact this
  · intro b hb hx
    obtain ⟨i, h, g, v, h1, h2, h3, h4, h5⟩ := live_pick hm hl hb
    exact I.hp.fre b ⟨h, g, v, h2, h3, h4, h5⟩ hx
  · intro c r u hc ho
    unfold outC at ho
    split at ho
    · trivial
    · subst ho; exact Rd.lasts (Lasts.mono hA) hc
    · obtain ⟨rfl, rfl⟩ := ho
      obtain ⟨a', rfl⟩ := hc
      show Rd _ w _ (.sl _ [])
      simp only [Rd]; exact ⟨a', 0, rfl, Nat.le_refl _, .inl trivial⟩
    · exact ⟨pickH_get ho hc.1, hc.2⟩
    · rename_i h sz L
      show Rd _ w _ (.sl sz L)
      obtain ⟨hv, hf⟩ := hc
      rcases ho with ⟨ho, hnm⟩ | ho
      · obtain ⟨v', hv', hR⟩ := I.hp.val ho
        rw [hv] at hv'; cases hv'
        obtain ⟨x, c, rfl, hcl, hz, hR⟩ := hR
        simp only [Rd]
        refine ⟨x, c, rfl, hcl, ?_⟩
        cases c with
        | zero => exact .inl (List.length_eq_zero_iff.1 (by omega))
        | succ c =>
          rcases hR with hR | ⟨b, off, Tb, cur, rfl, hcur, _, hL⟩
          · cases hR
          · refine .inr ⟨b, off, rfl, ⟨(Array.getElem?_eq_some_iff.1 hcur).1, ?_⟩, RdL.mono hA hL⟩
            rintro (hX | hlv)
            · exact I.hp.fre b ⟨h, _, _, ho, rfl, hv, rfl⟩ hX
            · obtain ⟨i, h', g, v, h1, h2, h3, h4, h5⟩ := live_pick hm hl hlv
              have := I.hp.dis h' h g _ v _ b h2 ho h3 rfl h4 hv h5 rfl
              subst this
              exact hnm (List.mem_of_getElem? h1)
      · obtain ⟨v', hv', hR⟩ := I.hp.val ho
        rw [hv] at hv'; cases hv'
        exact Rd.lasts (Lasts.mono hA) hR
    · subst ho
      obtain ⟨b, off, h1, h2, h3⟩ := hc
      exact ⟨b, off, h1, (Lasts.mono hA).at h2, RdC.lasts (Lasts.mono hA) h2.2 h3⟩
    · exact ho.elim
theorem all2_out {α : Type} {R R' : Value → α → Prop} {O : α → α → Prop} (h : ∀ c r u, R u c → O c r → R' u r) : ∀ {us : List Value} {l l' : List α}, All2 R us l → All2 O l l' → All2 R' us l' := by
  intro us l l' h1 h2
  induction h1 generalizing l' with
  | nil => cases h2; exact .nil
  | cons r _ ih => cases h2 with
    | cons o h2 => exact .cons (h _ _ _ r o) (ih h2)
theorem outV_ok (I : Inv X w0 B0 σ a w ρ) {m : List Nat} {new : List Reg} (hnd : m.Nodup) (hm : All2 (fun h g => σ.hp[h]? = some g ∧ isRow g) m new) {x y : V1} {u : Value} (h : V1Rel ρ (Av X ρ σ.hp) w u x) (ho : outV σ.hp m x y) :
    V1Rel (pickH ρ m) (Av X (pickH ρ m) new) w u y := by
  have key := (out_ok I hnd hm).2.2
  unfold outV at ho
  split at ho
  · exact key _ _ _ h ho
  · obtain ⟨cs, hv, h⟩ := h
    exact ⟨cs, hv, all2_out (fun c r u h1 h2 => ⟨h1.1, key c r u h1.2 h2⟩) h ho⟩
  · exact ho.elim
theorem outS_ok (I : Inv X w0 B0 σ a w ρ) {m : List Nat} {new : List Reg} (hnd : m.Nodup) (hm : All2 (fun h g => σ.hp[h]? = some g ∧ isRow g) m new) {x y : S} {u : Value} (h : SRel ρ (Av X ρ σ.hp) w u x) (ho : outS σ.hp m x y) :
    SRel (pickH ρ m) (Av X (pickH ρ m) new) w u y := by
  unfold outS at ho
  split at ho
  · exact outV_ok I hnd hm h ho
  · obtain ⟨vs, hv, h⟩ := h
    exact ⟨vs, hv, all2_out (R := V1Rel ρ (Av X ρ σ.hp) w) (R' := V1Rel (pickH ρ m) (Av X (pickH ρ m) new) w) (O := outV σ.hp m) (fun c r u h1 h2 => outV_ok I hnd hm h1 h2) h ho⟩
  · exact ho.elim
include hT in
theorem retK_ok (I : Inv X w0 B0 σ a w ρ) {fn : Func} {k : S → List Reg → Prop} (h : retK Γ fn σ k) : ∃ v s, k s σ.hp ∧ (results fn a.tmps).run P w = .ok v w ∧ SRel ρ (Av X ρ σ.hp) w v s := by
  unfold retK at h
  obtain ⟨l, vs, h, h1, h2⟩ := resK_ok hT I h
  have hrun := run_results h2
  split at h
  · cases h1 with
    | cons r h1 => cases h1; exact ⟨_, _, h, hrun, r⟩
  · rename_i hne
    refine ⟨_, _, h, hrun, ?_⟩
    have e : tupV vs = .tuple vs.toArray := by
      cases h1 with
      | nil => rfl
      | cons r h1 => cases h1 with
        | nil => exact absurd rfl (hne _)
        | cons _ _ => rfl
    rw [e]
    exact ⟨vs.toArray, rfl, by simpa using h1⟩
include hT hΓ in
/-- What is said to be left to prove of a function suffices. -/
theorem fn_ok (hm : P.follows .mixedOrders = true) {f : FuncId} {fn : Func} (hf : P.funcs[f]? = some fn) (hpl : (match fn.body with | some c => plansOk Γ.plan c | none => true) = true) {R : List S → S → List Reg → Prop} (h : ∀ ss r new, R ss r new → vcFn Γ fn ss [] (Ret r new)) : Ok P f R := by
  intro X w args ss r new hG0 hX hargs hR
  haveI : GPc X (fun _ => False) w := hG0
  have h := h ss r new hR
  unfold vcFn at h
  split at h
  · exact h.elim
  · rename_i c hb
    refine calls_of_wp hf hb ?_
    have hlen : args.size = ss.length := by have := hargs.length; simpa using this
    have I : Inv X w (fun _ => False) ⟨ss ++ List.replicate (fn.ntmps - ss.length) .junk, []⟩ { tmps := args ++ Array.replicate (fn.ntmps - args.size) undef, defers := [] } w [] := by
      refine ⟨⟨rfl, by intro h r v hr; simp at hr, by intro h h' r r' v v' b hr; simp at hr, by rintro b ⟨h, r, v, hr, _⟩; simp at hr⟩, ?_, by simp [hlen], rfl, Nat.le_refl _, fun _ _ _ => rfl, by rintro b ⟨h, r, v, hr, _⟩; simp at hr, hX, Str.refl w⟩
      intro i s hs
      have hmono : ∀ b, Av X [] [] b → X b := by
        rintro b (h | ⟨h, r, v, hr, _⟩)
        · exact h
        · simp at hr
      rcases Nat.lt_or_ge i ss.length with hi | hi
      · rw [List.getElem?_append_left hi] at hs
        obtain ⟨u, hu, hr⟩ := hargs.get' hs
        have : (args ++ Array.replicate (fn.ntmps - args.size) undef).getD i undef = u := by
          rw [Array.getD_eq_getD_getElem?, Array.getElem?_append_left (by omega)]
          rw [Array.getElem?_toList] at hu
          rw [hu]; rfl
        dsimp only
        rw [this]
        exact hr.less hmono
      · rw [List.getElem?_append_right hi] at hs
        have := List.mem_of_getElem? hs
        rw [List.mem_replicate] at this
        rw [this.2]; trivial
    rw [hb] at hpl
    refine vcCode_ok hT hΓ hm hpl I h ?_
    intro e σ' a' w' ρ' hk hI
    have fin : retK Γ fn σ' (Ret r new) → a'.defers = [] ∧ ∃ v, (results fn a'.tmps).run P w' = .ok v w' ∧ (∃ v_1 ρ, Ending.returned v = .returned v_1 ∧ SRel ρ (Av X ρ new) w' v_1 r ∧ HpRel X ρ new w' ∧ w.heap.size ≤ w'.heap.size ∧ Str w w' ∧ (∀ b, b < w.heap.size → w'.heap[b]? = w.heap[b]?) ∧ ∀ b, Live ρ new b → w.heap.size ≤ b) := by
      intro hk
      obtain ⟨v, s, ⟨m, hnd, hm, ho⟩, hrun, hrel⟩ := retK_ok hT hI hk
      refine ⟨hI.de, v, hrun, v, pickH ρ' m, rfl, outS_ok hI hnd hm hrel ho, (out_ok hI hnd hm).2.1, hI.gr, hI.st, fun b hb => hI.fr b hb (fun h => h), fun b hb => ?_⟩
      obtain ⟨i, h, g, v, h1, h2, h3, h4, h5⟩ := live_pick hm hI.hp.len hb
      exact (hI.ow b ⟨h, g, v, h2, h3, h4, h5⟩).resolve_left (fun h => h)
    cases e with
    | normal => exact fin hk
    | ret => exact fin hk
    | exit id => exact hk.elim
end
end Go.Proofs.YtgpnmifejgdipaaDoorVX
