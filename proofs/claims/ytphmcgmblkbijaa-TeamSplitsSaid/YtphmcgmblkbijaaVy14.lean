/-
  VY: where the order is left open: a plan stands for all orders. By the session's own hand.
-/
import Derived.Test.YtphmcgmblkbijaaVy13
set_option linter.unusedSectionVars false
set_option linter.unusedVariables false
set_option linter.unusedSimpArgs false
set_option linter.all false
set_option linter.unnecessarySimpa false
set_option linter.deprecated false
namespace Go.Proofs.YtphmcgmblkbijaaVY
section
variable {α : Type}
theorem appK_of {l m : List α} {k : List α → Prop} (h : k (l ++ m)) : appK l m k := by
  induction l generalizing k with
  | nil => exact h
  | cons a l ih => exact ih h
theorem setK_of {l : List α} {n : Nat} {x : α} {k : List α → Prop} (hn : n < l.length) (h : k (l.set n x)) : setK l n x k := by
  induction l generalizing n k with
  | nil => simp at hn
  | cons a l ih => cases n with
    | zero => exact h
    | succ n => exact ih (by simpa using hn) h
end
theorem loseCaps_of {h : Nat} {l : List Cap} : ∀ {k : List Cap → Prop}, k (l.map (Cap.lose h)) → loseCaps h l k := by
  induction l with
  | nil => intro k hk; exact hk
  | cons c l ih =>
    intro k hk
    cases c <;> simp only [loseCaps]
    case own => split <;> (rename_i e; apply ih; simpa [Cap.lose, e] using hk)
    all_goals exact ih hk
theorem loseCs_of {h : Nat} {l : List C} : ∀ {k : List C → Prop}, k (l.map (C.lose h)) → loseCs h l k := by
  induction l with
  | nil => intro k hk; exact hk
  | cons c l ih =>
    intro k hk
    cases c <;> simp only [loseCs]
    case own => split <;> (rename_i e; apply ih; simpa [C.lose, e] using hk)
    case win => split <;> (rename_i e; apply ih; simpa [C.lose, e] using hk)
    case prow => split <;> (rename_i e; apply ih; simpa [C.lose, e] using hk)
    case fn => exact loseCaps_of (ih hk)
    case sub => split <;> (rename_i e; apply ih; simpa [C.lose, e] using hk)
    all_goals exact ih hk
theorem loseSs_of {h : Nat} {l : List S} : ∀ {k : List S → Prop}, k (l.map (S.lose h)) → loseSs h l k := by
  induction l with
  | nil => intro k hk; exact hk
  | cons s l ih =>
    intro k hk
    cases s with
    | tup vs => exact ih hk
    | v x => cases x with
      | c x => unfold loseSs; exact loseCs_of (ih hk)
      | ag cs => unfold loseSs; exact loseCs_of (ih hk)
      | cnd b w x => exact ih hk
theorem loseRs_of {h : Nat} {l : List Reg} : ∀ {k : List Reg → Prop}, k (l.map (Reg.lose h)) → loseRs h l k := by
  induction l with
  | nil => intro k hk; exact hk
  | cons r l ih =>
    intro k hk
    cases r with
    | box cs => unfold loseRs; exact loseCs_of (ih hk)
    | rowt _ _ cs => unfold loseRs; exact loseCs_of (ih hk)
    | row _ _ => exact ih hk
    | frz _ _ => exact ih hk
    | mem v c => unfold loseRs; exact loseCs_of (ih hk)
    | mapd _ => exact ih hk
    | mapr _ _ => exact ih hk
    | gone => exact ih hk
theorem updsK_of {us : List (Nat × Reg)} : ∀ {hp : List Reg} {k : List Reg → Prop}, (∀ u ∈ us, u.1 < hp.length) → k (us.foldl (fun hp u => hp.set u.1 u.2) hp) → updsK us hp k := by
  induction us with
  | nil => intro hp k _ h; exact h
  | cons u us ih =>
    intro hp k h1 h2
    obtain ⟨x, r⟩ := u
    exact setK_of (h1 (x, r) (List.mem_cons_self ..)) (ih (fun u hu => by simpa using h1 u (List.mem_cons_of_mem _ hu)) h2)
theorem apply_of {σ : St} {dst : Option Tmp} {s : S} {upd : List (Nat × Reg)} {new : List Reg} {inv : Option Nat} {k : St → Prop} (h1 : ∀ u ∈ upd, u.1 < σ.hp.length) (h2 : ∀ d, dst = some d → d < σ.t.length)
    (h3 : k (σ.after dst s upd new inv)) : σ.apply dst s upd new inv k := by
  have key : ∀ (t : List S) (hp : List Reg), t.length = σ.t.length → hp.length = σ.hp.length →
      k (afterD t (upd.foldl (fun hp u => hp.set u.1 u.2) hp ++ new) dst s) → (updsK upd hp fun hp => appK hp new fun hp => putD t hp dst s k) := by
    intro t hp ht hh h
    refine updsK_of (fun u hu => by rw [hh]; exact h1 u hu) (appK_of ?_)
    cases dst with
    | none => exact h
    | some d => exact setK_of (by rw [ht]; exact h2 d rfl) h
  unfold St.apply
  unfold St.after at h3
  cases inv with
  | none => rw [map_loseO_none, map_sloseO_none] at h3; exact key σ.t σ.hp rfl rfl h3
  | some i => exact loseSs_of (loseRs_of (key _ _ (by simp) (by simp) h3))

section
variable {Γ : Cx} {ops : Array Oper}
theorem looks_sees {o : Oper} {i : Tmp} (h : i ∈ Oper.sees o) : i ∈ o.looksAt ops := by
  obtain ⟨x, hx, hi⟩ := List.mem_flatMap.1 h
  cases x <;> simp only [seenT, List.mem_singleton, List.not_mem_nil] at hi
  subst hi
  exact List.mem_append_left _ (List.mem_filterMap.2 ⟨_, hx, rfl⟩)
theorem looks_guard {o : Oper} {j g : Nat} {w : Bool} {og : Oper} (hg : o.guard = some (j, w)) (hj : ops[j]? = some og) (hd : og.dst = some g) : g ∈ o.looksAt ops := by
  refine List.mem_append_right _ ?_
  rw [hg]; simp [hj, hd]
theorem lookStep_dt {o : Oper} {t t1 : List S} {hp hp1 : List Reg} {H : List Nat} (hT : SameT (o.looksAt ops) t t1) (hS : noMem o.op = false → ∀ i ∈ Oper.sees o, ∀ s, t[i]? = some s → In H s) (hH : SameH H hp hp1) :
    Dt (lookStep Γ ops o t hp) (lookStep Γ ops o t1 hp1) (fun _ => True) := by
  have hT' : SameT (Oper.sees o) t t1 := fun i hi => hT i (looks_sees hi)
  intro k h
  unfold lookStep at h
  split at h
  · rename_i e
    obtain ⟨s, h1, h2, h3⟩ := evP_dt hT' hS hH k h
    exact ⟨s, h1, h2, fun k' hk' => by unfold lookStep; rw [e]; exact h3 k' hk'⟩
  · rename_i j w hg
    split at h
    · rename_i g op' ty' pos' af' gu' hj
      have e := hT g (looks_guard hg hj rfl)
      replace h := Dt.nth (l' := t1) (fun a ha => by rw [e]; exact ha) _ h
      obtain ⟨s, _, h, g1⟩ := h
      unfold gdK at h
      split at h
      · obtain ⟨s, _, h, g2⟩ := evP_dt hT' hS hH _ h
        exact ⟨_, trivial, h, fun k' hk' => by
          unfold lookStep; rw [hg]; simp only [hj]
          exact g1 _ (g2 _ hk')⟩
      · obtain ⟨s, _, h, g2⟩ := evP_dt hT' hS hH _ h
        exact ⟨_, trivial, h, fun k' hk' => by
          unfold lookStep; rw [hg]; simp only [hj]
          exact g1 _ (g2 _ hk')⟩
      · exact h.elim
    · exact h.elim
theorem actStep_m {o : Oper} {t t1 : List S} {hp : List Reg} (hT : SameT (o.looksAt ops) t t1) {k k' : EffK} (hk : ∀ s u n i, k s u n i → k' s u n i) (h : actStep Γ ops o t hp k) : actStep Γ ops o t1 hp k' := by
  have hT' : SameT (Oper.sees o) t t1 := fun i hi => hT i (looks_sees hi)
  unfold actStep at h ⊢
  split at h
  · exact evM_m hT' hk h
  · rename_i j w hg
    split at h
    · rename_i g op' ty' pos' af' gu' hj
      have e := hT g (looks_guard hg hj rfl)
      refine (Dt.nth (l' := t1) (fun a ha => by rw [e]; exact ha)).m (fun s h => ?_) h
      unfold gdK at h ⊢
      split at h
      · exact ⟨fun e => evM_m hT' hk (h.1 e), fun e => hk _ _ _ _ (h.2 e)⟩
      · exact ⟨fun e => evM_m hT' hk (h.1 e), fun e => hk _ _ _ _ (h.2 e)⟩
      · exact h.elim
    · exact h.elim
/-- ops that lie ahead of each, as it was said -/
def hasL (cert : List (List Nat)) (i j : Nat) : Bool := match cert[i]? with
  | some l => inL l j
  | none => false
def certAt (ops : Array Oper) (cert : List (List Nat)) (i : Nat) (l : List Nat) : Bool := l.all fun j => match ops[i]? with
  | some o => o.after.any fun e => Region.binds .any e && (e.on == j || hasL cert e.on j)
  | none => false
def certOk (ops : Array Oper) (cert : List (List Nat)) : Bool := (List.range cert.length).all fun i => certAt ops cert i (cert.getD i [])
theorem inL_iff {l : List Nat} {n : Nat} : inL l n = true ↔ n ∈ l := by
  induction l with
  | nil => simp [inL]
  | cons x l ih =>
    unfold inL
    split
    · rename_i e; have := Nat.eq_of_beq_eq_true e; simp [this]
    · rename_i e
      have : x ≠ n := fun h => by subst h; simp at e
      rw [ih]; simp [Ne.symm this]
/-- what is listed has what lies ahead listed too -/
def Down (cert : List (List Nat)) (listed : Array Bool) : Prop := ∀ i j, listed.getD i false = true → hasL cert i j = true → listed.getD j false = true
theorem hasL_ready {cert : List (List Nat)} {listed : Array Bool} (hc : certOk ops cert = true) (hD : Down cert listed) {i j : Nat} (hr : i ∈ Region.ready .any ops listed) (h : hasL cert i j = true) : listed.getD j false = true := by
  unfold hasL at h
  split at h
  · rename_i l hl
    have hj := inL_iff.1 h
    have hi : i < cert.length := (List.getElem?_eq_some_iff.1 hl).1
    have := List.all_eq_true.1 hc i (List.mem_range.2 hi)
    rw [List.getD_eq_getElem?_getD, hl] at this
    have := List.all_eq_true.1 this j hj
    obtain ⟨_, o, ho, hall⟩ := mem_ready.1 hr
    rw [ho] at this
    obtain ⟨e, he, hb⟩ := Array.any_eq_true'.1 this
    simp only [Bool.and_eq_true, Bool.or_eq_true, beq_iff_eq] at hb
    have h1 := hall e he hb.1
    rcases hb.2 with h2 | h2
    · rw [← h2]; exact h1
    · exact hD _ _ h1 h2
  · cases h
theorem Down.set {cert : List (List Nat)} {listed : Array Bool} (hc : certOk ops cert = true) (hD : Down cert listed) {i : Nat} (hr : i ∈ Region.ready .any ops listed) : Down cert (listed.setIfInBounds i true) := by
  intro a b ha hab
  by_cases h : i = a
  · subst h; exact getD_set_true (hasL_ready hc hD hr hab)
  · rw [getD_set_ne false h] at ha; exact getD_set_true (hD _ _ ha hab)

/-- What is known of an operation that looked early is not undone. -/
def Clear (cert : List (List Nat)) (lk : List Fl) (j : Nat) (hp : List Reg) (upd : List (Nat × Reg)) (inv : Option Nat) : Prop := ∀ e ∈ lk, hasL cert j e.i = false → e.clear hp upd inv = true
/-- All orders. -/
def allA (Γ : Cx) (ops : Array Oper) (cert : List (List Nat)) : Nat → Array Bool → List Fl → St → (St → Prop) → Prop
  | 0, listed, _, σ, K => Region.ready .any ops listed = [] ∧ K σ
  | f + 1, listed, lk, σ, K => (Region.ready .any ops listed = [] → K σ) ∧ ∀ i ∈ Region.ready .any ops listed, ∀ o, ops[i]? = some o →
    (isLook o.op = true → lookStep Γ ops o σ.t σ.hp fun s => σ.apply o.dst s [] [] none fun σ' => allA Γ ops cert f (listed.setIfInBounds i true) lk σ' K) ∧
    (isLook o.op = false → actStep Γ ops o σ.t σ.hp fun s upd new inv => Clear cert lk i σ.hp upd inv ∧ σ.apply o.dst s upd new inv fun σ' => allA Γ ops cert f (listed.setIfInBounds i true) lk σ' K)
theorem apply_m {σ : St} {dst : Option Tmp} {s : S} {upd : List (Nat × Reg)} {new : List Reg} {inv : Option Nat} {k k' : St → Prop} (hk : ∀ σ, k σ → k' σ) (h : σ.apply dst s upd new inv k) : σ.apply dst s upd new inv k' := by
  obtain ⟨h1, h2, h3⟩ := apply_ok h
  exact apply_of h1 h2 (hk _ h3)
theorem SameT.refl (L : List Tmp) (t : List S) : SameT L t t := fun _ _ => rfl
theorem lookStep_m {o : Oper} {t t1 : List S} {hp : List Reg} (hT : SameT (o.looksAt ops) t t1) {k k' : S → Prop} (hk : ∀ s, k s → k' s) (h : lookStep Γ ops o t hp k) : lookStep Γ ops o t1 hp k' :=
  (lookStep_dt (H := (t.map S.hs).flatten) hT (fun _ i hi s hs h hh => List.mem_flatten.2 ⟨_, List.mem_map.2 ⟨s, List.mem_of_getElem? hs, rfl⟩, hh⟩) (SameH.refl _ _)).m hk h
theorem allA_drop {cert : List (List Nat)} {e : Fl} {K : St → Prop} : ∀ {f : Nat} {listed : Array Bool} {lk lk' : List Fl} {σ : St}, (∀ e ∈ lk', e ∈ lk) → allA Γ ops cert f listed lk σ K → allA Γ ops cert f listed lk' σ K := by
  intro f
  induction f with
  | zero => intro listed lk lk' σ _ h; exact h
  | succ f ih =>
    intro listed lk lk' σ hs h
    refine ⟨h.1, fun i hi o ho => ⟨fun hl => ?_, fun hl => ?_⟩⟩
    · exact lookStep_m (SameT.refl _ _) (fun s h => apply_m (fun σ' h => ih hs h) h) ((h.2 i hi o ho).1 hl)
    · exact actStep_m (SameT.refl _ _) (fun s u n i h => ⟨fun e he => h.1 e (hs e he), apply_m (fun σ' h => ih hs h) h.2⟩) ((h.2 i hi o ho).2 hl)
end
theorem allSs_iff {h : Nat} {l : List S} : allSs h l = true ↔ ∀ c ∈ l, c.steady h = true := by
  induction l with
  | nil => simp [allSs]
  | cons c l ih =>
    unfold allSs
    split
    · rename_i e; rw [ih]; simp [e]
    · rename_i e; simp [e]
theorem S.steady_ok {h : Nat} {s : S} (hs : s.steady h = true) : s.lose h = s := by
  cases s with
  | tup l => simp [S.steady] at hs
  | v x => cases x with
    | c x => simp only [S.lose]; rw [C.steady_ok (by simpa [S.steady] using hs)]
    | ag l => simp only [S.lose]; rw [map_steady (by simpa [S.steady] using hs)]
    | cnd _ _ _ => simp [S.steady] at hs
theorem Reg.steady_ok {h : Nat} {r : Reg} (hs : r.steady h = true) : r.lose h = r := by
  cases r with
  | box cs => simp only [Reg.lose]; rw [map_steady (by simpa [Reg.steady] using hs)]
  | rowt _ _ cs => simp only [Reg.lose]; rw [map_steady (by simpa [Reg.steady] using hs)]
  | mem v c => simp only [Reg.lose]; rw [C.steady_ok (by simpa [Reg.steady] using hs)]
  | _ => rfl
theorem hsClear_ok {bx : Bool} {hp : List Reg} {upd : List (Nat × Reg)} {inv : Option Nat} {l : List Nat} (h : hsClear bx hp upd inv l = true) : ∀ x ∈ l, (∀ u ∈ upd, u.1 ≠ x) ∧ ∀ i, inv = some i → i ≠ x ∧ (bx = false → ∀ r, hp[x]? = some r → r.steady i = true) := by
  induction l with
  | nil => intro x hx; cases hx
  | cons y l ih =>
    unfold hsClear at h
    split at h
    · cases h
    · rename_i e
      have hu : ∀ u ∈ upd, u.1 ≠ y := by
        intro u hu he
        have : inL (upd.map (·.1)) y = true := inL_iff.2 (List.mem_map.2 ⟨u, hu, he⟩)
        rw [this] at e; cases e
      split at h
      · intro x hx
        cases hx with
        | head => exact ⟨hu, fun i hi => by cases hi⟩
        | tail _ hx => exact ih h x hx
      · rename_i i
        split at h
        · cases h
        · rename_i e'
          simp only [Bool.or_eq_false_iff, Bool.not_eq_false', Bool.or_eq_true] at e'
          intro x hx
          cases hx with
          | head =>
            refine ⟨hu, fun i' hi => ?_⟩
            cases hi
            refine ⟨fun e => ?_, fun hb r hr => ?_⟩
            · rw [e] at e'; simp at e'
            · have := e'.2.resolve_left (by rw [hb]; decide); unfold regSteady at this; rw [hr] at this; exact this
          | tail _ hx => exact ih h x hx
theorem Fl.clear_ok {hp : List Reg} {upd : List (Nat × Reg)} {inv : Option Nat} {e : Fl} (h : e.clear hp upd inv = true) :
    (∀ x ∈ e.hs, (∀ u ∈ upd, u.1 ≠ x) ∧ ∀ i, inv = some i → i ≠ x ∧ (e.bx = false → ∀ r, hp[x]? = some r → r.steady i = true)) ∧ ∀ s ∈ e.ss, s.loseO inv = s := by
  unfold Fl.clear at h
  split at h
  · rename_i e1
    refine ⟨hsClear_ok e1, ?_⟩
    intro s hs
    split at h
    · rfl
    · exact S.steady_ok (allSs_iff.1 h s hs)
  · cases h
theorem foldl_set_other {us : List (Nat × Reg)} : ∀ {hp : List Reg} {x : Nat}, (∀ u ∈ us, u.1 ≠ x) → (us.foldl (fun hp u => hp.set u.1 u.2) hp)[x]? = hp[x]? := by
  induction us with
  | nil => intro hp x _; rfl
  | cons u us ih =>
    intro hp x h
    rw [List.foldl_cons, ih (fun u hu => h u (List.mem_cons_of_mem _ hu)), List.getElem?_set_ne (h u (List.mem_cons_self ..))]
theorem after_hp {σ : St} {dst : Option Tmp} {s : S} {upd : List (Nat × Reg)} {new : List Reg} {inv : Option Nat} : (σ.after dst s upd new inv).hp = upd.foldl (fun hp u => hp.set u.1 u.2) (σ.hp.map (Reg.loseO inv)) ++ new := by
  unfold St.after afterD; cases dst <;> rfl
theorem after_t {σ : St} {dst : Option Tmp} {s : S} {upd : List (Nat × Reg)} {new : List Reg} {inv : Option Nat} : (σ.after dst s upd new inv).t = match dst with | none => σ.t.map (S.loseO inv) | some d => (σ.t.map (S.loseO inv)).set d s := by
  unfold St.after afterD; cases dst <;> rfl
/-- what was looked at is as it was -/
theorem clear_same {σ : St} {dst : Option Tmp} {s : S} {upd : List (Nat × Reg)} {new : List Reg} {inv : Option Nat} {e : Fl} {L : List Tmp} (h : e.clear σ.hp upd inv = true) (hd : ∀ d, dst = some d → d ∉ L)
    (hL : ∀ i ∈ L, ∀ s, σ.t[i]? = some s → s ∈ e.ss ∨ ∃ b, s = .v (.c (.d (.bool b)))) : SameT L σ.t (σ.after dst s upd new inv).t ∧ (∀ x ∈ e.hs, ∀ r, σ.hp[x]? = some r → (σ.after dst s upd new inv).hp[x]? = some (r.loseO inv)) ∧ (e.bx = false → SameH e.hs σ.hp (σ.after dst s upd new inv).hp) := by
  obtain ⟨h1, h2⟩ := Fl.clear_ok h
  have hlose : ∀ x ∈ e.hs, ∀ r, σ.hp[x]? = some r → (σ.after dst s upd new inv).hp[x]? = some (r.loseO inv) := by
    intro x hx r hr
    rw [after_hp]
    have hlt : x < σ.hp.length := (List.getElem?_eq_some_iff.1 hr).1
    have hlen : ∀ (us : List (Nat × Reg)) (hp : List Reg), (us.foldl (fun hp u => hp.set u.1 u.2) hp).length = hp.length := by
      intro us
      induction us with
      | nil => intro hp; rfl
      | cons u us ih => intro hp; rw [List.foldl_cons, ih]; simp
    rw [List.getElem?_append_left (by rw [hlen]; simpa using hlt), foldl_set_other (h1 x hx).1]
    simp only [List.getElem?_map, hr, Option.map_some]
  refine ⟨?_, hlose, ?_⟩
  · intro i hi
    have : (σ.after dst s upd new inv).t[i]? = (σ.t[i]?).map (S.loseO inv) := by
      rw [after_t]
      cases dst with
      | none => simp
      | some d => rw [List.getElem?_set_ne (fun e => hd d rfl (by rw [e]; exact hi))]; simp
    rw [this]
    cases hs : σ.t[i]? with
    | none => rfl
    | some s' =>
      have : s'.loseO inv = s' := by
        rcases hL i hi s' hs with h | ⟨b, rfl⟩
        · exact h2 s' h
        · cases inv <;> rfl
      simp [this]
  · intro hb x hx r hr
    rw [hlose x hx r hr]
    cases inv with
    | none => rfl
    | some i => exact congrArg some (Reg.steady_ok (((h1 x hx).2 i rfl).2 hb r hr))
theorem dropK_lose {h : Nat} : ∀ {l : List C} {n : Nat} {k : List C → Prop}, dropK l n k → ∃ m, k m ∧ ∀ k' : List C → Prop, k' (m.map (C.lose h)) → dropK (l.map (C.lose h)) n k'
  | l, 0, k, hk => ⟨l, by cases l <;> exact hk, fun k' h' => by cases l <;> exact h'⟩
  | [], n + 1, k, hk => hk.elim
  | c :: l, n + 1, k, hk => dropK_lose (l := l) (n := n) hk
theorem takeK_lose {h : Nat} : ∀ {l : List C} {n : Nat} {k : List C → Prop}, takeK l n k → ∃ m, k m ∧ ∀ k' : List C → Prop, k' (m.map (C.lose h)) → takeK (l.map (C.lose h)) n k'
  | l, 0, k, hk => ⟨[], by cases l <;> exact hk, fun k' h' => by cases l <;> exact h'⟩
  | [], n + 1, k, hk => hk.elim
  | c :: l, n + 1, k, hk => by
    obtain ⟨m, h1, h2⟩ := takeK_lose (h := h) (l := l) (n := n) (k := fun l' => k (c :: l')) hk
    exact ⟨c :: m, h1, fun k' h' => h2 (fun l' => k' (C.lose h c :: l')) h'⟩
theorem partK_lose {h : Nat} {ag : Bool} {n : Nat} {l : List C} {s : S} (hs : s.lose h = s) (hk : partK ag n l fun r => r = s) : partK ag n (l.map (C.lose h)) fun r => r = s := by
  unfold partK at hk ⊢
  cases ag with
  | true =>
    obtain ⟨m, h1, h2⟩ := takeK_lose (h := h) hk
    refine h2 _ ?_
    rw [← hs, ← h1]; rfl
  | false =>
    cases l with
    | nil => exact hk.elim
    | cons c l =>
      show S.one (c.lose h) = s
      rw [← hs, ← hk]; rfl
theorem loadK_lose {h : Nat} {gd : Option (Bool × Bool)} {T : TI} {hp hp1 : List Reg} {x off : Nat} {s : S} (hs : s.lose h = s) (hh : ∀ r, hp[x]? = some r → hp1[x]? = some (r.lose h)) (hk : loadK gd T hp (.v (.c (.ptr x off))) fun r => r = s) :
    loadK gd T hp1 (.v (.c (.ptr x off))) fun r => r = s := by
  unfold loadK at hk ⊢
  cases ht : told T.kd with
  | false => rw [ht] at hk; exact hk.elim
  | true =>
    rw [ht] at hk
    simp only [tt] at hk ⊢
    obtain ⟨r, hr, hk⟩ := nthK_ok hk
    refine nthK_of (hh r hr) ?_
    cases r with
    | box cs =>
      simp only [Reg.lose]
      simp only [] at hk
      obtain ⟨m, h1, h2⟩ := dropK_lose (h := h) hk
      exact h2 _ (partK_lose hs h1)
    | _ => exact hk.elim
def St.put (σ : St) (d : Option Tmp) (s : S) : St := σ.after d s [] [] none
theorem put_t {σ : St} {d : Option Tmp} {s : S} : (σ.put d s).t = match d with | none => σ.t | some d => σ.t.set d s := by
  unfold St.put; rw [after_t, map_sloseO_none]
theorem put_hp {σ : St} {d : Option Tmp} {s : S} : (σ.put d s).hp = σ.hp := by
  unfold St.put; rw [after_hp, map_loseO_none]; simp
theorem st_ext {σ σ' : St} (h1 : σ.t = σ'.t) (h2 : σ.hp = σ'.hp) : σ = σ' := by cases σ; cases σ'; simp at h1 h2; simp [h1, h2]
theorem put_same {σ : St} {d : Option Tmp} {s : S} {L : List Tmp} (h : ∀ x, d = some x → x ∉ L) : SameT L (σ.put d s).t σ.t := by
  intro i hi
  rw [put_t]
  cases d with
  | none => rfl
  | some x => exact (List.getElem?_set_ne (fun e => h x rfl (by rw [e]; exact hi))).symm
theorem put_after {σ : St} {di dj : Option Tmp} {s s' : S} {upd : List (Nat × Reg)} {new : List Reg} {inv : Option Nat} (hd : ∀ d, di = some d → dj ≠ some d) (hs : s.loseO inv = s) :
    (σ.put di s).after dj s' upd new inv = (σ.after dj s' upd new inv).put di s := by
  apply st_ext
  · rw [put_t, after_t, after_t, put_t]
    cases di with
    | none => rfl
    | some d => cases dj with
      | none => simp [List.map_set, hs]
      | some e =>
        have : d ≠ e := fun h => hd d rfl (h ▸ rfl)
        simp only [List.map_set, hs]
        rw [List.set_comm _ _ this]
  · rw [put_hp, after_hp, after_hp, put_hp]

section
variable {Γ : Cx} {ops : Array Oper} {cert : List (List Nat)}
theorem put_len {σ : St} {d : Option Tmp} {s : S} : (σ.put d s).t.length = σ.t.length := by rw [put_t]; cases d <;> simp
theorem nthO_some {α : Type} : ∀ {l : List α} {i : Nat} {a : α}, nthO l i = some a → l[i]? = some a
  | [], _, _, h => by cases h
  | x :: l, 0, a, h => by simpa [nthO] using h
  | x :: l, i + 1, a, h => by simpa using nthO_some (l := l) (i := i) h
theorem nthO_of {α : Type} : ∀ {l : List α} {i : Nat} {a : α}, l[i]? = some a → nthO l i = some a
  | [], _, _, h => by simp at h
  | x :: l, 0, a, h => by simpa [nthO] using h
  | x :: l, i + 1, a, h => by simpa [nthO] using nthO_of (l := l) (i := i) (by simpa using h)
theorem isBoxLoad_ok {o : Oper} {t : List S} (h : isBoxLoad o t = true) : o.guard = none ∧ ∃ T i x off, o.op = .load T (.tmp i) ∧ t[i]? = some (.v (.c (.ptr x off))) := by
  unfold isBoxLoad at h
  split at h
  · rename_i T i hg ho
    split at h
    · rename_i x off hn
      exact ⟨hg, T, i, x, off, ho, nthO_some hn⟩
    · cases h
  · cases h
theorem isBoxLoad_same {o : Oper} {t t1 : List S} (hT : SameT (o.looksAt ops) t t1) (h : isBoxLoad o t = true) : isBoxLoad o t1 = true := by
  obtain ⟨hg, T, i, x, off, ho, hi⟩ := isBoxLoad_ok h
  have h1 : t1[i]? = some (.v (.c (.ptr x off))) := by
    rw [← hi]; exact hT i (looks_sees (by simp [Oper.sees, ho, Op.operands, seenT]))
  unfold isBoxLoad
  rw [hg, ho]
  simp only [nthO_of h1]
/-- a load out of a box sees the same, where only other cells of the box are lost -/
theorem box_look {o : Oper} {t t1 : List S} {hp hp1 : List Reg} {s : S} {H : List Nat} {inv : Option Nat} (hb : isBoxLoad o t = true) (hT : SameT (o.looksAt ops) t t1) (hsh : noMem o.op = false → ∀ x ∈ Oper.sees o, ∀ s, t[x]? = some s → In H s)
    (hl : ∀ x ∈ H, ∀ r, hp[x]? = some r → hp1[x]? = some (r.loseO inv)) (hs : s.loseO inv = s) (hk : lookStep Γ ops o t hp fun r => r = s) : lookStep Γ ops o t1 hp1 fun r => r = s := by
  obtain ⟨hg, T, i, x, off, ho, hi⟩ := isBoxLoad_ok hb
  have hsee : i ∈ Oper.sees o := by simp [Oper.sees, ho, Op.operands, seenT]
  have h1 : t1[i]? = some (.v (.c (.ptr x off))) := by rw [← hi]; exact hT i (looks_sees hsee)
  have hx : x ∈ H := hsh (by rw [ho]; rfl) i hsee _ hi x (by simp [S.hs, V1.hs, C.hs])
  unfold lookStep at hk ⊢
  rw [hg] at hk ⊢
  simp only [] at hk ⊢
  unfold evP at hk ⊢
  rw [ho] at hk ⊢
  simp only [operand] at hk ⊢
  obtain ⟨a, ha, hk⟩ := nthK_ok hk
  rw [hi] at ha; cases ha
  refine nthK_of h1 ?_
  cases inv with
  | none =>
    have e : ∀ r, hp[x]? = some r → hp1[x]? = some r := fun r hr => hl x hx r hr
    simp only [strip] at hk ⊢
    exact (loadK_dt (H := [x]) (fun y hy r hr => by simp at hy; subst hy; exact e r hr) (fun y hy => by simpa [S.hs, V1.hs, C.hs] using hy)).m (fun _ h => h) hk
  | some h =>
    simp only [strip] at hk ⊢
    exact loadK_lose hs (fun r hr => hl x hx r hr) hk
/-- An operation that looks may be taken first. -/
theorem allA_first (hc : certOk ops cert = true) {i : Nat} {oi : Oper} {s : S} {e : Fl} {K : St → Prop} (hi : ops[i]? = some oi) (hl : isLook oi.op = true) (hei : e.i = i) (hes : s ∈ e.ss) :
    ∀ (f : Nat) (listed : Array Bool) (lk : List Fl) (σ : St),
      (∀ j oj, ops[j]? = some oj → j ≠ i → listed.getD j true = false → (∀ e ∈ oj.after, Region.binds .any e = true → e.on ≠ i) → oi.apart ops oj = true) →
      Down cert listed → i ∈ Region.ready .any ops listed → (∀ d, oi.dst = some d → d < σ.t.length) →
      (∀ x ∈ oi.looksAt ops, ∀ s, σ.t[x]? = some s → s ∈ e.ss ∨ ∃ b, s = .v (.c (.d (.bool b)))) → (noMem oi.op = false → ∀ x ∈ Oper.sees oi, ∀ s, σ.t[x]? = some s → In e.hs s) → (e.bx = true → isBoxLoad oi σ.t = true) → (lookStep Γ ops oi σ.t σ.hp fun r => r = s) →
      allA Γ ops cert f (listed.setIfInBounds i true) (e :: lk) (σ.put oi.dst s) K → allA Γ ops cert (f + 1) listed lk σ K := by
  have here : ∀ (f : Nat) (listed : Array Bool) (lk : List Fl) (σ : St), (∀ d, oi.dst = some d → d < σ.t.length) → (lookStep Γ ops oi σ.t σ.hp fun r => r = s) → allA Γ ops cert f (listed.setIfInBounds i true) (e :: lk) (σ.put oi.dst s) K → ∀ o, ops[i]? = some o →
      (isLook o.op = true → lookStep Γ ops o σ.t σ.hp fun s => σ.apply o.dst s [] [] none fun σ' => allA Γ ops cert f (listed.setIfInBounds i true) lk σ' K) ∧
      (isLook o.op = false → actStep Γ ops o σ.t σ.hp fun s upd new inv => Clear cert lk i σ.hp upd inv ∧ σ.apply o.dst s upd new inv fun σ' => allA Γ ops cert f (listed.setIfInBounds i true) lk σ' K) := by
    intro f listed lk σ hd hy H o ho
    rw [hi] at ho; cases ho
    refine ⟨fun _ => ?_, fun h => absurd hl (by simp [h])⟩
    refine lookStep_m (SameT.refl _ _) (fun r hr => ?_) hy
    subst hr
    exact apply_of (by simp) hd (allA_drop (e := e) (fun e he => List.mem_cons_of_mem _ he) H)
  intro f
  induction f with
  | zero =>
    intro listed lk σ _ _ hr hd _ _ _ hy H
    refine ⟨fun h => (by rw [h] at hr; cases hr), fun j hj => ?_⟩
    by_cases hji : j = i
    · subst hji; exact here 0 listed lk σ hd hy H
    · have := ready_mono hj hji
      rw [H.1] at this
      cases this
  | succ f ih =>
    intro listed lk σ hfree hD hr hd hss hsh hbx hy H
    refine ⟨fun h => (by rw [h] at hr; cases hr), fun j hj => ?_⟩
    by_cases hji : j = i
    · subst hji; exact here (f + 1) listed lk σ hd hy H
    · intro oj hoj
      have h1 := H.2 j (ready_mono hj hji) oj hoj
      obtain ⟨hjun, oj', hoj', hall⟩ := mem_ready.1 hj
      rw [hoj] at hoj'; cases hoj'
      have hiun : listed.getD i false = false := by
        have h0 := (mem_ready.1 hr).1
        rcases Nat.lt_or_ge i listed.size with h' | h'
        · simp [h'] at h0 ⊢; exact h0
        · simp [Array.getElem?_eq_none h']
      have hnot : ∀ e ∈ oj.after, Region.binds .any e = true → e.on ≠ i := fun e he hb heq => by
        have h1 := hall e he hb
        rw [heq, hiun] at h1
        cases h1
      have hap := hfree j oj hoj hji hjun hnot
      obtain ⟨a1, a2, a3⟩ := Oper.apart_spec hap
      have hfree' : ∀ k ok, ops[k]? = some ok → k ≠ i → (listed.setIfInBounds j true).getD k true = false →
          (∀ e ∈ ok.after, Region.binds .any e = true → e.on ≠ i) → oi.apart ops ok = true := fun k ok hk hki hun hno => by
        refine hfree k ok hk hki ?_ hno
        by_cases hjk : j = k
        · subst hjk; exact hjun
        · rw [getD_set_ne true hjk] at hun; exact hun
      have hcj : hasL cert j i = false := by
        cases hh : hasL cert j i with
        | false => rfl
        | true => have := hasL_ready hc hD hj hh; rw [hiun] at this; cases this
      have hset : (listed.setIfInBounds i true).setIfInBounds j true = (listed.setIfInBounds j true).setIfInBounds i true := Array.setIfInBounds_comm _ _ (Ne.symm hji)
      rw [hset] at h1
      constructor
      · intro hlj
        refine lookStep_m (put_same a1) (fun r h => ?_) (put_hp ▸ h1.1 hlj)
        obtain ⟨b1, b2, h⟩ := apply_ok h
        refine apply_of (by simp) (fun d hd => by have := b2 d hd; rwa [put_len] at this) ?_
        have hcomm : (σ.put oi.dst s).after oj.dst r [] [] none = (σ.put oj.dst r).put oi.dst s := put_after a2 rfl
        rw [hcomm] at h
        have hsame : SameT (oi.looksAt ops) σ.t (σ.put oj.dst r).t := fun x hx => (put_same a3 x hx).symm
        refine ih _ lk (σ.put oj.dst r) hfree' (hD.set hc hj) (ready_mono hr (Ne.symm hji)) (fun d h => by rw [put_len]; exact hd d h) ?_ ?_ (fun hb => isBoxLoad_same hsame (hbx hb)) ?_ h
        · intro x hx s' hs'; rw [hsame x hx] at hs'; exact hss x hx s' hs'
        · intro hn x hx s' hs'; rw [hsame x (looks_sees hx)] at hs'; exact hsh hn x hx s' hs'
        · rw [put_hp]; exact lookStep_m hsame (fun _ h => h) hy
      · intro hlj
        refine actStep_m (put_same a1) (fun r upd new inv h => ?_) (put_hp ▸ h1.2 hlj)
        obtain ⟨hcl, h⟩ := h
        have hce := hcl e (List.mem_cons_self ..) (by rw [hei]; exact hcj)
        refine ⟨fun e' he' => hcl e' (List.mem_cons_of_mem _ he'), ?_⟩
        obtain ⟨b1, b2, h⟩ := apply_ok h
        refine apply_of (by rw [put_hp] at b1; exact b1) (fun d hd => by have := b2 d hd; rwa [put_len] at this) ?_
        rw [put_after a2 ((Fl.clear_ok hce).2 s hes)] at h
        obtain ⟨hsame, hlose, hsameH⟩ := clear_same (s := r) (new := new) hce a3 hss
        refine ih _ lk (σ.after oj.dst r upd new inv) hfree' (hD.set hc hj) (ready_mono hr (Ne.symm hji)) (fun d h => ?_) ?_ ?_ (fun hb => isBoxLoad_same hsame (hbx hb)) ?_ h
        · rw [after_t]; cases oj.dst <;> simp [hd d h]
        · intro x hx s' hs'; rw [hsame x hx] at hs'; exact hss x hx s' hs'
        · intro hn x hx s' hs'; rw [hsame x (looks_sees hx)] at hs'; exact hsh hn x hx s' hs'
        · cases hb : e.bx with
          | false => exact (lookStep_dt hsame hsh (hsameH hb)).m (fun _ h => h) hy
          | true => exact box_look (hbx hb) hsame hsh hlose ((Fl.clear_ok hce).2 s hes) hy
end
section
variable {P : Program} {Γ : Cx} {Q : Exit → Act → World → Prop} {X : Nat → Prop} {w0 : World} {B0 : Nat → Prop} [hGP : GPc X B0 w0]
variable (hT : TyOk P Γ.ty) (hΓ : ∀ f R, Γ.fns f = some R → Snd P f R)
include hT hΓ
theorem allA_ok {ops : Array Oper} {cert : List (List Nat)} {K : St → Prop} : ∀ (f : Nat) (listed : Array Bool) (lk : List Fl) {σ : St} {a : Act} {w : World} {ρ : Hs}, Inv X w0 B0 σ a w ρ → allA Γ ops cert f listed lk σ K →
    (∀ σ' a' w' ρ', K σ' → Inv X w0 B0 σ' a' w' ρ' → Q .normal a' w') → wpAny P .any ops Q f listed a w := by
  intro f
  induction f with
  | zero => intro listed lk σ a w ρ I h hn; exact ⟨h.1, hn _ _ _ _ h.2 I⟩
  | succ f ih =>
    intro listed lk σ a w ρ I h hn
    refine ⟨fun e => hn _ _ _ _ (h.1 e) I, fun i hi => ?_⟩
    obtain ⟨_, o, ho, _⟩ := mem_ready.1 hi
    obtain ⟨h1, h2⟩ := h.2 i hi o ho
    have next : ∀ σ' a' w' ρ', allA Γ ops cert f (listed.setIfInBounds i true) lk σ' K → Inv X w0 B0 σ' a' w' ρ' → wpAny P .any ops Q f (listed.setIfInBounds i true) a' w' :=
      fun σ' a' w' ρ' hk hI => ih _ _ hI hk hn
    unfold wpOp
    simp only [ho]
    cases hl : isLook o.op with
    | true => exact look_ok hT I (h1 hl) next
    | false => exact act_ok hT hΓ I (actStep_m (SameT.refl _ _) (fun s u n i h => h.2) (h2 hl)) next
end

/-- the operations that stand at the head of the choices -/
def heads : Plan → List Nat
  | .act i _ _ q => i :: heads q
  | _ => []
def selfApart (ops : Array Oper) (o : Oper) : Bool := match o.dst with
  | some d => !(o.looksAt ops).contains d
  | none => true
def floats (ops : Array Oper) (cert : List (List Nat)) (listed : Array Bool) (i : Nat) (us : List Nat) : Bool :=
  (List.range ops.size).all fun j => !listed.getD j false || inL us j || hasL cert i j || (match ops[j]? with
    | some o => !isLook o.op
    | none => true)
def planOk (ops : Array Oper) (cert : List (List Nat)) : Plan → Bool → Nat → Array Bool → Bool
  | .done, _, _, listed => (Region.ready .any ops listed).isEmpty
  | .stop, c, _, _ => c
  | .look i p, c, n, listed => !c && match n with
    | 0 => false
    | n + 1 => (Region.ready .any ops listed).contains i && Region.free .any ops listed i && (match ops[i]? with
      | some o => isLook o.op && selfApart ops o
      | none => false) && planOk ops cert p false n (listed.setIfInBounds i true)
  | .act i us p q, c, n, listed => (c || (!(Region.ready .any ops listed).isEmpty && (Region.ready .any ops listed).all (inL (i :: heads q)))) && match n with
    | 0 => false
    | n + 1 => (match ops[i]? with
      | some o => !isLook o.op
      | none => false) && floats ops cert listed i us && planOk ops cert p false n (listed.setIfInBounds i true) && planOk ops cert q true (n + 1) listed

section
variable {Γ : Cx} {ops : Array Oper} {cert : List (List Nat)} {K : St → Prop}
theorem vals_mem {t : List S} {L : List Tmp} {i : Tmp} {s : S} (hi : i ∈ L) (hs : t[i]? = some s) : s ∈ vals t L := by
  induction L with
  | nil => cases hi
  | cons j L ih =>
    unfold vals
    cases hi with
    | head => rw [hs]; exact List.mem_cons_self ..
    | tail _ hi =>
      split
      · exact List.mem_cons_of_mem _ (ih hi)
      · exact ih hi
theorem handles_mem {l : List S} {s : S} (hs : s ∈ l) : In (handles l) s := by
  induction l with
  | nil => cases hs
  | cons x l ih =>
    intro h hh
    unfold handles
    cases hs with
    | head => exact List.mem_append_left _ hh
    | tail _ hs => exact List.mem_append_right _ (ih hs h hh)
/-- only looking operations that are listed stand in the log -/
def LogOk (ops : Array Oper) (listed : Array Bool) (lk : List Fl) : Prop := ∀ e ∈ lk, listed.getD e.i false = true ∧ ∃ o, ops[e.i]? = some o ∧ isLook o.op = true
theorem clearK_ok {us : List Nat} {hp : List Reg} {upd : List (Nat × Reg)} {inv : Option Nat} {lk : List Fl} (h : clearK us hp upd inv lk = true) : ∀ e ∈ lk, e.i ∈ us → e.clear hp upd inv = true := by
  induction lk with
  | nil => intro e he; cases he
  | cons x l ih =>
    unfold clearK at h
    intro e he hu
    split at h
    · split at h
      · rename_i h2
        cases he with
        | head => exact h2
        | tail _ he => exact ih h e he hu
      · cases h
    · rename_i h1
      cases he with
      | head => rw [inL_iff.2 hu] at h1; cases h1
      | tail _ he => exact ih h e he hu
theorem looks_split {o : Oper} {x : Tmp} (hx : x ∈ o.looksAt ops) : x ∈ Oper.sees o ∨ x ∈ guardT ops o := by
  unfold Oper.looksAt at hx
  rcases List.mem_append.1 hx with hx | hx
  · obtain ⟨y, hy, he⟩ := List.mem_filterMap.1 hx
    cases y <;> simp only [Option.some.injEq] at he <;> try cases he
    exact .inl (List.mem_flatMap.2 ⟨_, hy, by simp [seenT]⟩)
  · refine .inr ?_
    unfold guardT
    cases hg : o.guard with
    | none => rw [hg] at hx; simp at hx
    | some jw =>
      obtain ⟨j, w⟩ := jw
      rw [hg] at hx
      dsimp only at hx ⊢
      cases hj : ops[j]? with
      | none => rw [hj] at hx; simp at hx
      | some og =>
        rw [hj] at hx
        obtain ⟨d, _, _, _, _, _⟩ := og
        cases d with
        | none => simp at hx
        | some g => simpa using hx
theorem selfApart_ok {o : Oper} (h : selfApart ops o = true) : ∀ d, o.dst = some d → d ∉ o.looksAt ops := by
  intro d hd
  unfold selfApart at h
  rw [hd] at h
  simpa using h
theorem listed_set {listed : Array Bool} {i : Nat} (hr : i ∈ Region.ready .any ops listed) (hs : listed.size = ops.size) : (listed.setIfInBounds i true).getD i false = true := by
  obtain ⟨_, o, ho, _⟩ := mem_ready.1 hr
  have := (Array.getElem?_eq_some_iff.1 ho).1
  simp [hs, this]
/-- A plan that was looked through stands for all orders. -/
theorem plan_all (hc : certOk ops cert = true) : ∀ (p : Plan) (n : Nat) (listed : Array Bool) (lk : List Fl) (σ : St), listed.size = ops.size → Down cert listed → LogOk ops listed lk →
    (planOk ops cert p false n listed = true → runPlan Γ ops p lk σ K → allA Γ ops cert n listed lk σ K) ∧
    (planOk ops cert p true n listed = true → runPlan Γ ops p lk σ K → ∀ j ∈ heads p, j ∈ Region.ready .any ops listed → ∃ m, n = m + 1 ∧ ∀ o, ops[j]? = some o → isLook o.op = false ∧
      actStep Γ ops o σ.t σ.hp fun s upd new inv => Clear cert lk j σ.hp upd inv ∧ σ.apply o.dst s upd new inv fun σ' => allA Γ ops cert m (listed.setIfInBounds j true) lk σ' K) := by
  intro p
  induction p with
  | done =>
    intro n listed lk σ hs hD hL
    refine ⟨fun h hr => ?_, fun _ _ j hj => by cases hj⟩
    have he : Region.ready .any ops listed = [] := by simpa [planOk] using h
    cases n with
    | zero => exact ⟨he, hr⟩
    | succ n => exact ⟨fun _ => hr, fun i hi => by rw [he] at hi; cases hi⟩
  | stop =>
    intro n listed lk σ hs hD hL
    exact ⟨fun h => by simp [planOk] at h, fun _ _ j hj => by cases hj⟩
  | look i p ih =>
    intro n listed lk σ hs hD hL
    refine ⟨fun h hr => ?_, fun h => by simp [planOk] at h⟩
    cases n with
    | zero => simp [planOk] at h
    | succ n =>
      simp only [planOk, Bool.not_false, Bool.true_and, Bool.and_eq_true] at h
      obtain ⟨⟨⟨h1, h2⟩, h3⟩, h4⟩ := h
      have hrd : i ∈ Region.ready .any ops listed := by simpa using h1
      unfold runPlan at hr
      split at hr
      · rename_i o ho
        rw [ho] at h3
        simp only [Bool.and_eq_true] at h3
        replace hr := lookStep_dt (H := handles (vals σ.t (Oper.sees o))) (SameT.refl _ _) (fun _ x hx s hs => handles_mem (vals_mem hx hs)) (SameH.refl _ _) _ hr
        obtain ⟨s, _, hr, hy⟩ := hr
        obtain ⟨_, b2, hr⟩ := apply_ok hr
        have hA := ((ih n (listed.setIfInBounds i true) _ _ (by simpa using hs) (hD.set hc hrd) ?_).1 h4 hr)
        · refine allA_first hc (s := s) ho h3.1 rfl (List.mem_cons_self ..) n listed lk σ (Region.free_spec ho h2) hD hrd b2 ?_ ?_ ?_ (hy _ rfl) hA
          · intro x hx s' hs'
            rcases looks_split hx with h | h
            · exact .inl (List.mem_cons_of_mem _ (List.mem_append_right _ (vals_mem h hs')))
            · exact .inl (List.mem_cons_of_mem _ (List.mem_append_left _ (vals_mem h hs')))
          · intro hn x hx s' hs'; unfold lookHs; rw [hn]; exact handles_mem (vals_mem hx hs')
          · exact fun h => h
        · intro e he
          cases he with
          | head => exact ⟨listed_set hrd hs, o, ho, h3.1⟩
          | tail _ he => exact ⟨getD_set_true (hL e he).1, (hL e he).2⟩
      · exact hr.elim
  | act i us p q ihp ihq =>
    intro n listed lk σ hs hD hL
    have key : ∀ m, (match ops[i]? with
        | some o => !isLook o.op
        | none => false) = true → floats ops cert listed i us = true → planOk ops cert p false m (listed.setIfInBounds i true) = true → runPlan Γ ops (.act i us p q) lk σ K → i ∈ Region.ready .any ops listed → ∀ o, ops[i]? = some o → isLook o.op = false ∧
        actStep Γ ops o σ.t σ.hp fun s upd new inv => Clear cert lk i σ.hp upd inv ∧ σ.apply o.dst s upd new inv fun σ' => allA Γ ops cert m (listed.setIfInBounds i true) lk σ' K := by
      intro m h1 h2 h3 hr hrd o ho
      rw [ho] at h1
      refine ⟨by simpa using h1, ?_⟩
      have hr' : actStep Γ ops o σ.t σ.hp fun s upd new inv => tt (clearK us σ.hp upd inv lk) <| σ.apply o.dst s upd new inv (runPlan Γ ops p lk · K) := by
        unfold runPlan at hr
        simp only [ho] at hr
        cases q <;> first | exact hr | exact hr.1
      refine actStep_m (SameT.refl _ _) (fun s u nw iv h => ?_) hr'
      obtain ⟨hck, h⟩ := tt_ok h
      refine ⟨fun e he hne => ?_, ?_⟩
      · refine clearK_ok hck e he ?_
        obtain ⟨hl, oe, hoe, hle⟩ := hL e he
        have hlt : e.i < ops.size := (Array.getElem?_eq_some_iff.1 hoe).1
        have := List.all_eq_true.1 h2 e.i (List.mem_range.2 hlt)
        rw [hl, hne, hoe] at this
        simp only [hle, Bool.not_true, Bool.false_or, Bool.or_false] at this
        exact inL_iff.1 this
      · refine apply_m (fun σ' h => ?_) h
        exact (ihp m (listed.setIfInBounds i true) lk σ' (by simpa using hs) (hD.set hc hrd) (fun e he => ⟨getD_set_true (hL e he).1, (hL e he).2⟩)).1 h3 h
    have hq : ∀ n, planOk ops cert q true n listed = true → runPlan Γ ops (.act i us p q) lk σ K → ∀ j ∈ heads q, j ∈ Region.ready .any ops listed → ∃ m, n = m + 1 ∧ ∀ o, ops[j]? = some o → isLook o.op = false ∧
        actStep Γ ops o σ.t σ.hp fun s upd new inv => Clear cert lk j σ.hp upd inv ∧ σ.apply o.dst s upd new inv fun σ' => allA Γ ops cert m (listed.setIfInBounds j true) lk σ' K := by
      intro n h hr j hj hrd
      have hr' : runPlan Γ ops q lk σ K := by
        unfold runPlan at hr
        cases q <;> first | exact hr.2 | cases hj
      exact (ihq n listed lk σ hs hD hL).2 h hr' j hj hrd
    constructor
    · intro h hr
      cases n with
      | zero => simp [planOk] at h
      | succ n =>
        simp only [planOk, Bool.false_or, Bool.and_eq_true] at h
        obtain ⟨⟨he, h0⟩, ⟨⟨h1, h2⟩, h3⟩, h4⟩ := h
        have hcov : ∀ j ∈ Region.ready .any ops listed, j = i ∨ j ∈ heads q := by
          intro j hj
          have := inL_iff.1 (List.all_eq_true.1 h0 j hj)
          simpa using this
        refine ⟨fun e => ?_, fun j hj o ho => ?_⟩
        · rw [e] at he; simp at he
        · rcases hcov j hj with rfl | hjq
          · obtain ⟨g1, g2⟩ := key n h1 h2 h3 hr hj o ho
            exact ⟨fun h => (by rw [g1] at h; cases h), fun _ => g2⟩
          · obtain ⟨m, hm, g⟩ := hq (n + 1) h4 hr j hjq hj
            cases hm
            obtain ⟨g1, g2⟩ := g o ho
            exact ⟨fun h => (by rw [g1] at h; cases h), fun _ => g2⟩
    · intro h hr j hj hrd
      cases n with
      | zero => simp [planOk] at h
      | succ n =>
        simp only [planOk, Bool.true_or, Bool.true_and, Bool.and_eq_true] at h
        obtain ⟨⟨⟨h1, h2⟩, h3⟩, h4⟩ := h
        unfold heads at hj
        cases hj with
        | head => exact ⟨n, rfl, key n h1 h2 h3 hr hrd⟩
        | tail _ hj => exact hq (n + 1) h4 hr j hj hrd
end
def plansOk (pl : Nat → List (List Nat) × Plan) : Code → Bool
  | .region id ops true => certOk ops (pl id).1 && planOk ops (pl id).1 (pl id).2 false ops.size (Array.replicate ops.size false)
  | .seq a b => plansOk pl a && plansOk pl b
  | .cond _ a b => plansOk pl a && plansOk pl b
  | .block _ a => plansOk pl a
  | .loop a => plansOk pl a
  | .scope a => plansOk pl a
  | _ => true
section
variable {P : Program} {Γ : Cx} {Q : Exit → Act → World → Prop} {X : Nat → Prop} {w0 : World} {B0 : Nat → Prop} [hGP : GPc X B0 w0]
variable (hT : TyOk P Γ.ty) (hΓ : ∀ f R, Γ.fns f = some R → Snd P f R)
include hT hΓ
theorem region_ok {ops : Array Oper} {cert : List (List Nat)} {p : Plan} {K : St → Prop} {id : Nat} {σ : St} {a : Act} {w : World} {ρ : Hs} (hm : P.follows .mixedOrders = true) (hc : certOk ops cert = true) (hp : planOk ops cert p false ops.size (Array.replicate ops.size false) = true)
    (I : Inv X w0 B0 σ a w ρ) (h : runPlan Γ ops p [] σ K) (hn : ∀ σ' a' w' ρ', K σ' → Inv X w0 B0 σ' a' w' ρ' → Q .normal a' w') : (Code.region id ops true).wp P Q a w := by
  refine wp_region_any hm (allA_ok hT hΓ _ _ [] (I.goes (Nat.le_refl _) ⟨rfl, rfl, rfl, by first | exact Nat.le_refl _ | exact Nat.le_succ _ | exact Nat.le_add_right _ _⟩ fun _ _ => rfl) ((plan_all hc p _ _ _ _ (by simp) ?_ (by intro e he; cases he)).1 hp h) hn)
  intro i j hi
  simp only [Array.getD_eq_getD_getElem?, Array.getElem?_replicate] at hi
  split at hi <;> simp at hi
end
end Go.Proofs.YtphmcgmblkbijaaVY
