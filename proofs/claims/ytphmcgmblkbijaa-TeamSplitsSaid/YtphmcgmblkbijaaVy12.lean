/-
  VY: what an operation looks at: nothing else changes what it comes to. By the session's own hand.
-/
import Derived.Test.YtphmcgmblkbijaaVy10
import Derived.Orders
set_option linter.unusedSectionVars false
set_option linter.unusedVariables false
set_option linter.unusedSimpArgs false
set_option linter.all false
set_option linter.unnecessarySimpa false
set_option linter.deprecated false
namespace Go.Proofs.YtphmcgmblkbijaaVY

/-- F comes to one thing, and so does F', and to the same. -/
def Dt {α : Type} (F F' : (α → Prop) → Prop) (Pr : α → Prop) : Prop := ∀ k, F k → ∃ s, Pr s ∧ k s ∧ ∀ k', k' s → F' k'
section dt
variable {α β : Type}
theorem Dt.bind {F F' : (α → Prop) → Prop} {Pr : α → Prop} {G G' : α → (β → Prop) → Prop} {Qr : β → Prop} (hF : Dt F F' Pr) (hG : ∀ s, Pr s → Dt (G s) (G' s) Qr) : Dt (fun k => F fun s => G s k) (fun k => F' fun s => G' s k) Qr := by
  intro k h
  replace h := hF _ h
  obtain ⟨s, hs, h, h'⟩ := h
  replace h := hG s hs k h
  obtain ⟨r, hr, hk, hh⟩ := h
  exact ⟨r, hr, hk, fun k' hk' => h' _ (hh k' hk')⟩
theorem Dt.pure {s : α} {Pr : α → Prop} (h : Pr s) : Dt (fun k => k s) (fun k => k s) Pr := fun k hk => ⟨s, h, hk, fun _ h => h⟩
theorem Dt.bindc {F F' : (α → Prop) → Prop} {Pr : α → Prop} {g : α → β} {Qr : β → Prop} (hF : Dt F F' Pr) (hG : ∀ s, Qr (g s)) : Dt (fun k => F fun s => k (g s)) (fun k => F' fun s => k (g s)) Qr :=
  Dt.bind hF fun s _ => Dt.pure (hG s)
theorem Dt.no {F' : (α → Prop) → Prop} {Pr : α → Prop} : Dt (fun _ => False) F' Pr := fun _ h => h.elim
theorem Dt.tt {F F' : (α → Prop) → Prop} {Pr : α → Prop} {b : Bool} (h : Dt F F' Pr) : Dt (fun k => tt b (F k)) (fun k => tt b (F' k)) Pr := by
  intro k hk
  obtain ⟨hb, hk⟩ := tt_ok hk
  subst hb
  exact h k hk
theorem Dt.ob {F F' : (α → Prop) → Prop} {Pr : α → Prop} {gd : Option (Bool × Bool)} {p : Prop} (h : Dt F F' Pr) : Dt (fun k => ob gd p (F k)) (fun k => ob gd p (F' k)) Pr := by
  intro k hk
  cases gd with
  | none => obtain ⟨hp, hk⟩ := hk; obtain ⟨s, h1, h2, h3⟩ := h k hk; exact ⟨s, h1, h2, fun k' h' => ⟨hp, h3 k' h'⟩⟩
  | some bw => obtain ⟨hp, hk⟩ := hk; obtain ⟨s, h1, h2, h3⟩ := h k hk; exact ⟨s, h1, h2, fun k' h' => ⟨hp, h3 k' h'⟩⟩
theorem Dt.and {F F' : (α → Prop) → Prop} {Pr : α → Prop} {p : Prop} (h : Dt F F' Pr) : Dt (fun k => p ∧ F k) (fun k => p ∧ F' k) Pr := by
  intro k hk
  obtain ⟨hp, hk⟩ := hk; obtain ⟨s, h1, h2, h3⟩ := h k hk; exact ⟨s, h1, h2, fun k' h' => ⟨hp, h3 k' h'⟩⟩
theorem Dt.ex {γ : Type} {F F' : γ → (α → Prop) → Prop} {Pr : α → Prop} (h : ∀ e, Dt (F e) (F' e) Pr) : Dt (fun k => ∃ e, F e k) (fun k => ∃ e, F' e k) Pr := by
  intro k hk
  obtain ⟨e, hk⟩ := hk; obtain ⟨s, h1, h2, h3⟩ := h e k hk; exact ⟨s, h1, h2, fun k' h' => ⟨e, h3 k' h'⟩⟩
theorem Dt.nth {l l' : List α} {n : Nat} (h : ∀ a, l[n]? = some a → l'[n]? = some a) : Dt (nthK l n) (nthK l' n) (fun a => l[n]? = some a) := by
  intro k hk
  obtain ⟨a, ha, hk⟩ := nthK_ok hk
  refine ⟨a, ha, hk, fun k' h' => ?_⟩
  have key : ∀ (l : List α) (n : Nat), l[n]? = some a → nthK l n k' := by
    intro l
    induction l with
    | nil => intro n h; simp at h
    | cons x l ih => intro n h; cases n with
      | zero => simp at h; subst h; exact h'
      | succ n => exact ih n (by simpa using h)
  exact key _ _ (h a ha)
theorem Dt.set {l : List α} {n : Nat} {x : α} : Dt (setK l n x) (setK l n x) (fun _ => True) := by
  induction l generalizing n with
  | nil => exact Dt.no
  | cons a l ih => cases n with
    | zero => exact Dt.pure trivial
    | succ n => exact Dt.bindc (g := (a :: ·)) ih fun _ => trivial
theorem Dt.take {l : List α} {n : Nat} : Dt (takeK l n) (takeK l n) (fun _ => True) := by
  induction l generalizing n with
  | nil => cases n with
    | zero => exact Dt.pure trivial
    | succ n => exact Dt.no
  | cons a l ih => cases n with
    | zero => exact Dt.pure trivial
    | succ n => exact Dt.bindc (g := (a :: ·)) ih fun _ => trivial
theorem Dt.drop {l : List α} {n : Nat} : Dt (dropK l n) (dropK l n) (fun _ => True) := by
  induction l generalizing n with
  | nil => cases n with
    | zero => exact Dt.pure trivial
    | succ n => exact Dt.no
  | cons a l ih => cases n with
    | zero => exact Dt.pure trivial
    | succ n => exact ih
theorem Dt.app {l m : List α} : Dt (appK l m) (appK l m) (fun _ => True) := by
  induction l with
  | nil => exact Dt.pure trivial
  | cons a l ih => exact Dt.bindc (g := (a :: ·)) ih fun _ => trivial
theorem Dt.puts {l : List α} {n : Nat} {xs : List α} : Dt (putsK l n xs) (putsK l n xs) (fun _ => True) := by
  induction l generalizing n xs with
  | nil => cases xs with
    | nil => exact Dt.pure trivial
    | cons x xs => exact Dt.no
  | cons a l ih => cases xs with
    | nil => exact Dt.pure trivial
    | cons x xs => cases n with
      | zero => exact Dt.bindc (g := (x :: ·)) ih fun _ => trivial
      | succ n => exact Dt.bindc (g := (a :: ·)) ih fun _ => trivial
theorem Dt.ds {l : List D} : Dt (dsK l) (dsK l) (fun _ => True) := by
  induction l with
  | nil => exact Dt.pure trivial
  | cons a l ih => exact Dt.bindc (Qr := fun _ => True) (g := (C.d a :: ·)) ih fun _ => trivial
end dt

section loc
variable {Γ : Cx} {gd : Option (Bool × Bool)} {t t1 : List S} {hp hp1 : List Reg} {H : List Nat}
/-- the same at each of these -/
def SameT (L : List Tmp) (t t1 : List S) : Prop := ∀ i ∈ L, t1[i]? = t[i]?
def SameH (H : List Nat) (hp hp1 : List Reg) : Prop := ∀ h ∈ H, ∀ r, hp[h]? = some r → hp1[h]? = some r
/-- its handles are among these -/
def In (H : List Nat) (s : S) : Prop := ∀ h ∈ s.hs, h ∈ H
theorem strip_dt {s : S} (hs : In H s) : Dt (strip gd s) (strip gd s) (In H) := by
  unfold strip
  split
  · split
    · exact Dt.and (Dt.pure hs)
    · exact Dt.pure hs
  · exact Dt.pure hs
theorem ofV_hs (T : TI) (v : Value) : (C.ofV T v).hs = [] := by
  unfold C.ofV
  split <;> first | rfl | (split <;> rfl)
theorem operand_dt {G : TypeId → TI} {T : TypeId} {x : Operand} (ht : SameT (seenT x) t t1) (hH : ∀ i ∈ seenT x, ∀ s, t[i]? = some s → In H s) : Dt (operand G T gd t x) (operand G T gd t1 x) (In H) := by
  cases x with
  | tmp i =>
    have e := ht i (by simp [seenT])
    have := Dt.bind (Dt.nth (l := t) (l' := t1) (n := i) fun a ha => by rw [e]; exact ha) fun s hs => strip_dt (gd := gd) (hH i (by simp [seenT]) s hs)
    exact this
  | const v => exact Dt.pure (by intro h hh; simp only [S.one, S.hs, V1.hs, ofV_hs] at hh; cases hh)
  | func f => exact Dt.pure (by intro h hh; simp only [S.one, S.hs, V1.hs, C.hs] at hh; cases hh)
  | global g =>
    show Dt (fun k => match findG globs g with
      | some l => k (.one (.pel l))
      | none => k .junk) (fun k => match findG globs g with
      | some l => k (.one (.pel l))
      | none => k .junk) (In H)
    generalize findG globs g = o
    cases o with
    | none => exact Dt.pure (by intro h hh; simp only [S.junk, S.hs, V1.hs, C.hs] at hh; cases hh)
    | some l => exact Dt.pure (by intro h hh; simp only [S.one, S.hs, V1.hs, C.hs] at hh; cases hh)
theorem operands_dt {G : TypeId → TI} {xs : List Operand} : ∀ {Ts : List TypeId}, (∀ x ∈ xs, SameT (seenT x) t t1) → (∀ x ∈ xs, ∀ i ∈ seenT x, ∀ s, t[i]? = some s → In H s) →
    Dt (operands G gd t xs Ts) (operands G gd t1 xs Ts) (fun ss => ∀ s ∈ ss, In H s) := by
  induction xs with
  | nil => intro Ts _ _; cases Ts <;> exact Dt.pure (by simp)
  | cons x xs ih =>
    intro Ts h1 h2
    have ih' := fun Ts => ih (Ts := Ts) (fun x hx => h1 x (List.mem_cons_of_mem _ hx)) (fun x hx => h2 x (List.mem_cons_of_mem _ hx))
    have hx := fun T => operand_dt (G := G) (gd := gd) (T := T) (h1 x (List.mem_cons_self ..)) (h2 x (List.mem_cons_self ..))
    have all : ∀ {s : S} {ss : List S}, In H s → (∀ s ∈ ss, In H s) → ∀ y ∈ s :: ss, In H y := by
      intro s ss hs hss y hy
      cases hy with
      | head => exact hs
      | tail _ hy => exact hss y hy
    intro k h
    cases Ts with
    | nil =>
      replace h := hx 0 _ h
      obtain ⟨s, hs, h, g1⟩ := h
      replace h := ih' [] _ h
      obtain ⟨ss, hss, h, g2⟩ := h
      exact ⟨_, all hs hss, h, fun k' hk' => g1 _ (g2 _ hk')⟩
    | cons T Ts =>
      replace h := hx T _ h
      obtain ⟨s, hs, h, g1⟩ := h
      replace h := ih' Ts _ h
      obtain ⟨ss, hss, h, g2⟩ := h
      exact ⟨_, all hs hss, h, fun k' hk' => g1 _ (g2 _ hk')⟩
theorem partsK_dt {G : TypeId → TI} {Tf : Nat → TypeId} : ∀ {ps : List (Nat × Operand)}, (∀ x ∈ ps.map (·.2), SameT (seenT x) t t1) → (∀ x ∈ ps.map (·.2), ∀ i ∈ seenT x, ∀ s, t[i]? = some s → In H s) →
    Dt (partsK G Tf gd t ps) (partsK G Tf gd t1 ps) (fun _ => True)
  | [], _, _ => Dt.pure trivial
  | (j, x) :: ps, h1, h2 => by
    intro k h
    replace h := operand_dt (h1 x (by simp)) (h2 x (by simp)) _ h
    obtain ⟨s, hs, h, g1⟩ := h
    replace h := partsK_dt (fun x hx => h1 x (List.mem_cons_of_mem _ hx)) (fun x hx => h2 x (List.mem_cons_of_mem _ hx)) _ h
    obtain ⟨ss, hss, h, g2⟩ := h
    exact ⟨_, trivial, h, fun k' hk' => g1 _ (g2 _ hk')⟩
theorem capK_dt {s : S} : Dt (capK s) (capK s) (fun _ => True) := by
  intro k h
  unfold capK at h
  split at h <;> first | exact h.elim | exact ⟨_, trivial, h, fun k' hk' => by unfold capK; exact hk'⟩
theorem capsK_dt {Γ : TypeId → TI} {H : List Nat} : ∀ {xs : List Operand}, (∀ x ∈ xs, SameT (seenT x) t t1) → (∀ x ∈ xs, ∀ i ∈ seenT x, ∀ s, t[i]? = some s → In H s) → Dt (capsK Γ gd t xs) (capsK Γ gd t1 xs) (fun _ => True)
  | [], _, _ => Dt.pure trivial
  | x :: xs, h1, h2 => by
    intro k h
    unfold capsK at h
    replace h := operand_dt (h1 x (by simp)) (h2 x (by simp)) _ h
    obtain ⟨s, hs, h, g1⟩ := h
    replace h := capK_dt _ h
    obtain ⟨c, _, h, g2⟩ := h
    replace h := capsK_dt (fun x hx => h1 x (List.mem_cons_of_mem _ hx)) (fun x hx => h2 x (List.mem_cons_of_mem _ hx)) _ h
    obtain ⟨ss, hss, h, g3⟩ := h
    exact ⟨_, trivial, h, fun k' hk' => by unfold capsK; exact g1 _ (g2 _ (g3 _ hk'))⟩
theorem partK_dt {ag : Bool} {n : Nat} {cs : List C} : Dt (partK ag n cs) (partK ag n cs) (fun _ => True) := by
  unfold partK
  cases ag with
  | true => exact Dt.bind Dt.take fun l _ => Dt.pure trivial
  | false => cases cs with
    | nil => exact Dt.no
    | cons c cs => exact Dt.pure trivial
theorem nth_dt (hH : SameH H hp hp1) {h : Nat} (hh : h ∈ H) : Dt (nthK hp h) (nthK hp1 h) (fun _ => True) := by
  intro k hk
  obtain ⟨s, _, h1, h2⟩ := Dt.nth (hH h hh) k hk
  exact ⟨s, trivial, h1, h2⟩
theorem dead_dt {k : S → Prop} {s : S} (h : dead gd (k s)) : k s ∧ ∀ k' : S → Prop, k' s → dead gd (k' s) := by
  unfold dead at h ⊢
  cases gd with
  | none => exact h.elim
  | some x => exact ⟨h.2, fun k' hk' => ⟨h.1, hk'⟩⟩
theorem loadK_dt {T : TI} {s : S} (hH : SameH H hp hp1) (hs : In H s) : Dt (loadK gd T hp s) (loadK gd T hp1 s) (fun _ => True) := by
  unfold loadK
  refine Dt.tt ?_
  intro k h
  split at h
  · rename_i x off
    refine Dt.bind (nth_dt hH (hs x (by simp [S.hs, V1.hs, C.hs]))) (G := fun r k => match r with
      | .box cs => dropK cs off fun cs => partK (isAg T.kd) T.size cs k
      | _ => False) (fun r _ => ?_) k h
    cases r with
    | box cs => exact Dt.bind Dt.drop fun cs _ => partK_dt
    | rowt _ _ _ => exact Dt.no
    | row _ _ => exact Dt.no
    | frz _ _ => exact Dt.no
    | mem _ _ => exact Dt.no
    | mapd _ => exact Dt.no
    | mapr _ _ => exact Dt.no
    | gone => exact Dt.no
  · exact Dt.bind Dt.ds (fun cs _ => partK_dt) k h
  · rename_i x sz i j
    refine Dt.bind (nth_dt hH (hs x (by simp [S.hs, V1.hs, C.hs]))) (G := fun r k => match r with
      | .row sz' L => tt (Nat.beq sz sz') <| ∃ e, ob gd (L[i]? = some e) (dropK e j fun l => dsK l fun cs => partK (isAg T.kd) T.size cs k)
      | .rowt sz' L cs => tt (Nat.beq sz sz') <| ob gd (i = L.length) (dropK cs j fun cs => partK (isAg T.kd) T.size cs k)
      | _ => False) (fun r _ => ?_) k h
    cases r with
    | box cs => exact Dt.no
    | rowt _ _ _ => exact Dt.tt (Dt.ob (Dt.bind Dt.drop fun _ _ => partK_dt))
    | row _ _ => exact Dt.tt (Dt.ex fun e => Dt.ob (Dt.bind Dt.drop fun _ _ => Dt.bind Dt.ds fun _ _ => partK_dt))
    | frz _ _ => exact Dt.no
    | mem _ _ => exact Dt.no
    | mapd _ => exact Dt.no
    | mapr _ _ => exact Dt.no
    | gone => exact Dt.no
  · exact ⟨_, trivial, (dead_dt h).1, fun k' hk' => (dead_dt h).2 k' hk'⟩
  · exact h.elim
theorem sumK_dt {nw : Bool} {k : IntKind} {n : Int} : Dt (sumK nw gd k n) (sumK nw gd k n) (fun _ => True) := by
  unfold sumK
  split
  · exact Dt.ob (Dt.pure trivial)
  · exact Dt.pure trivial
  · exact Dt.pure trivial
theorem nilB_dt {T : TI} {b : Bool} {op : BinOp} : Dt (nilB T b op) (nilB T b op) (fun _ => True) := by
  intro k h
  unfold nilB at h
  split at h
  · rename_i e; exact ⟨_, trivial, h, fun k' hk' => by unfold nilB; simp only [e]; exact hk'⟩
  · rename_i e; exact ⟨_, trivial, h, fun k' hk' => by unfold nilB; simp only [e]; exact hk'⟩
  · exact h.elim
theorem bin_dt {nw : Bool} {T : TI} {op : BinOp} {a b : S} : Dt (bin nw T gd op a b) (bin nw T gd op a b) (fun _ => True) := by
  intro k h
  unfold bin at h
  split at h
  · rename_i kk x kk' y
    split at h
    · exact h.elim
    · rename_i e
      have : Dt (binI nw gd op kk x y) (binI nw gd op kk x y) (fun _ => True) := by
        unfold binI
        cases op <;> first | exact sumK_dt | exact Dt.ob sumK_dt | exact Dt.ob (Dt.pure trivial) | exact Dt.pure trivial
      replace h := this k h
      obtain ⟨s, h1, h2, h3⟩ := h
      refine ⟨s, h1, h2, fun k' hk' => ?_⟩
      simp only [bin, e]
      exact h3 k' hk'
  · rename_i x y
    split at h
    · rename_i e; exact ⟨_, trivial, h, fun k' hk' => by unfold bin; simp only [e]; exact hk'⟩
    · rename_i e; exact ⟨_, trivial, h, fun k' hk' => by unfold bin; simp only [e]; exact hk'⟩
    · exact h.elim
  · split at h
    · exact ⟨_, trivial, h, fun k' hk' => hk'⟩
    · exact ⟨_, trivial, h, fun k' hk' => hk'⟩
    · exact h.elim
  · obtain ⟨s, h1, h2, h3⟩ := nilB_dt k h
    exact ⟨s, h1, h2, fun k' hk' => by unfold bin; exact h3 k' hk'⟩
  · obtain ⟨s, h1, h2, h3⟩ := nilB_dt k h
    exact ⟨s, h1, h2, fun k' hk' => by unfold bin; exact h3 k' hk'⟩
  · obtain ⟨s, h1, h2, h3⟩ := nilB_dt k h
    exact ⟨s, h1, h2, fun k' hk' => by unfold bin; exact h3 k' hk'⟩
  · have h' := dead_dt h
    exact ⟨_, trivial, h'.1, fun k' hk' => by unfold bin; exact h'.2 k' hk'⟩
  · have h' := dead_dt h
    refine ⟨_, trivial, h'.1, fun k' hk' => ?_⟩
    unfold bin
    split <;> first | exact h'.2 k' hk' | contradiction | (exfalso; simp_all; done)
  · exact h.elim
theorem un_dt {nw : Bool} {op : UnOp} {a : S} : Dt (un nw gd op a) (un nw gd op a) (fun _ => True) := by
  intro k h
  unfold un at h
  split at h
  · have h' := dead_dt h
    exact ⟨_, trivial, h'.1, fun k' hk' => by unfold un; exact h'.2 k' hk'⟩
  · exact sumK_dt k h
  · exact ⟨_, trivial, h, fun k' hk' => hk'⟩
  · exact h.elim
theorem rowK_dt {c : C} (hH : SameH H hp hp1) (hs : ∀ h ∈ c.hs, h ∈ H) {k : Nat → List (List D) → Prop} (h : rowK hp c k) : ∃ sz L, k sz L ∧ ∀ k' : Nat → List (List D) → Prop, k' sz L → rowK hp1 c k' := by
  unfold rowK at h
  split at h
  · exact ⟨_, _, h, fun k' hk' => hk'⟩
  · exact ⟨_, _, h, fun k' hk' => hk'⟩
  · rename_i x
    replace h := nth_dt hH (hs x (by simp [C.hs])) _ h
    obtain ⟨r, _, h, g1⟩ := h
    split at h
    · exact ⟨_, _, h, fun k' hk' => g1 _ hk'⟩
    · exact ⟨_, _, h, fun k' hk' => g1 _ hk'⟩
    · exact h.elim
  · rename_i x sz lo n
    replace h := nth_dt hH (hs x (by simp [C.hs])) _ h
    obtain ⟨r, _, h, g1⟩ := h
    split at h
    · obtain ⟨e, h⟩ := tt_ok h
      exact ⟨_, _, h, fun k' hk' => g1 _ (by dsimp only; rw [e]; exact hk')⟩
    · exact h.elim
  · exact h.elim
theorem longK_dt {c : C} (hH : SameH H hp hp1) (hs : ∀ h ∈ c.hs, h ∈ H) {k : Int → Prop} (h : longK hp c k) : ∃ n, k n ∧ ∀ k' : Int → Prop, k' n → longK hp1 c k' := by
  unfold longK at h
  split at h
  · rename_i x
    replace h := nth_dt hH (hs x (by simp [C.hs])) _ h
    obtain ⟨r, _, h, g1⟩ := h
    split at h
    · exact ⟨_, h, fun k' hk' => g1 _ hk'⟩
    · exact ⟨_, h, fun k' hk' => g1 _ hk'⟩
    · exact ⟨_, h, fun k' hk' => g1 _ hk'⟩
    · exact h.elim
  · rename_i x i
    replace h := nth_dt hH (hs x (by simp [C.hs])) _ h
    obtain ⟨r, _, h, g1⟩ := h
    split at h
    · obtain ⟨key, L, hM, h⟩ := h
      exact ⟨_, h, fun k' hk' => g1 _ ⟨key, L, hM, hk'⟩⟩
    · exact h.elim
  · rename_i hne hne2
    obtain ⟨sz, L, h, g⟩ := rowK_dt hH hs h
    refine ⟨_, h, fun k' hk' => ?_⟩
    unfold longK
    split
    · exact absurd rfl (hne _)
    · exact absurd rfl (hne2 _ _)
    · exact g (fun _ L => k' L.length) hk'
theorem cutK_dt {c : C} {l h : Int} (hH : SameH H hp hp1) (hs : ∀ h ∈ c.hs, h ∈ H) : Dt (cutK gd hp c l h) (cutK gd hp1 c l h) (fun _ => True) := by
  unfold cutK
  intro k hk
  split at hk
  · exact Dt.ob (Dt.pure trivial) k hk
  · rename_i x
    obtain ⟨r, _, hk, g1⟩ := nth_dt hH (hs x (by simp [C.hs])) _ hk
    split at hk
    · obtain ⟨s, _, hk, g2⟩ := Dt.ob (Dt.pure (Pr := fun _ => True) trivial) k hk
      exact ⟨s, trivial, hk, fun k' hk' => g1 _ (g2 _ hk')⟩
    · obtain ⟨s, _, hk, g2⟩ := Dt.ob (Dt.pure (Pr := fun _ => True) trivial) k hk
      exact ⟨s, trivial, hk, fun k' hk' => g1 _ (g2 _ hk')⟩
    · exact hk.elim
  · exact Dt.ob (Dt.pure trivial) k hk
  · exact Dt.ob (Dt.pure trivial) k hk
  · exact hk.elim
theorem optK_dt {G : TypeId → TI} {x : Option Operand} {n : Int} (h1 : ∀ y, x = some y → SameT (seenT y) t t1) (h2 : ∀ y, x = some y → ∀ i ∈ seenT y, ∀ s, t[i]? = some s → In H s) : Dt (optK G gd t x n) (optK G gd t1 x n) (fun _ => True) := by
  intro k h
  cases x with
  | none => exact ⟨_, trivial, h, fun k' hk' => hk'⟩
  | some x =>
    replace h := operand_dt (h1 x rfl) (h2 x rfl) _ h
    obtain ⟨s, hs, h, g1⟩ := h
    split at h
    · exact ⟨_, trivial, h, fun k' hk' => g1 _ hk'⟩
    · exact h.elim
theorem fillK_dt {fs : List (Nat × Nat × Bool)} : ∀ {ps : List (Nat × S)} {cs : List C}, Dt (fillK fs cs ps) (fillK fs cs ps) (fun _ => True)
  | [], cs => Dt.pure trivial
  | (j, x) :: ps, cs => by
    intro k h
    replace h := Dt.nth (fun a ha => ha) _ h
    obtain ⟨⟨o, n, ag⟩, _, h, g1⟩ := h
    dsimp only at h
    split at h
    · obtain ⟨e, h⟩ := tt_ok h
      replace h := Dt.puts _ h
      obtain ⟨l, _, h, g2⟩ := h
      replace h := fillK_dt _ h
      obtain ⟨l', _, h, g3⟩ := h
      exact ⟨l', trivial, h, fun k' hk' => g1 _ (by dsimp only; rw [e]; exact g2 _ (g3 _ hk'))⟩
    · rename_i c
      replace h := tt_ok h
      obtain ⟨e, h⟩ := h
      split at h
      · exact h.elim
      · rename_i hj
        replace h := Dt.puts _ h
        obtain ⟨l, _, h, g2⟩ := h
        replace h := fillK_dt _ h
        obtain ⟨l', _, h, g3⟩ := h
        refine ⟨l', trivial, h, fun k' hk' => g1 _ ?_⟩
        dsimp only
        rw [e]
        cases c <;> first | exact g2 _ (g3 _ hk') | exact absurd rfl hj
    · exact h.elim
theorem sees_mem {o : Oper} {x : Operand} {i : Tmp} (hx : x ∈ o.op.operands) (hi : i ∈ seenT x) : i ∈ Oper.sees o :=
  List.mem_flatMap.2 ⟨x, by simpa using hx, hi⟩
theorem evP_dt0 {o : Oper} (hn : noMem o.op = true) (hT : SameT (Oper.sees o) t t1) : Dt (evP Γ gd o t hp) (evP Γ gd o t1 hp1) (fun _ => True) := by
  have ho : ∀ {G : TypeId → TI} {T : TypeId} {gd : Option (Bool × Bool)} {x : Operand}, x ∈ o.op.operands → Dt (operand G T gd t x) (operand G T gd t1 x) (In (t.map S.hs).flatten) := fun hx =>
    operand_dt (fun i hi => hT i (sees_mem hx hi)) (fun i hi s hs h hh => List.mem_flatten.2 ⟨_, List.mem_map.2 ⟨s, List.mem_of_getElem? hs, rfl⟩, hh⟩)
  obtain ⟨dst, op, ty, pos, after, guard⟩ := o
  intro k h
  unfold evP at h
  cases op <;> first | (cases hn; done) | simp only [] at h
  case move x => obtain ⟨s, _, h, g1⟩ := ho (by simp [Op.operands]) k h; exact ⟨s, trivial, h, g1⟩
  case assign x => obtain ⟨s, _, h, g1⟩ := ho (by simp [Op.operands]) k h; exact ⟨s, trivial, h, g1⟩
  case nilCheck x =>
    replace h := ho (by simp [Op.operands]) _ h
    obtain ⟨s, hs, h, g1⟩ := h
    split at h
    · exact ⟨_, trivial, h, fun k' hk' => g1 _ hk'⟩
    · exact ⟨_, trivial, h, fun k' hk' => g1 _ hk'⟩
    · exact ⟨_, trivial, (dead_dt h).1, fun k' hk' => g1 _ ((dead_dt h).2 k' hk')⟩
    · exact ⟨_, trivial, (dead_dt h).1, fun k' hk' => g1 _ ((dead_dt h).2 k' hk')⟩
    · exact h.elim
  case fieldAddr =>
    replace h := ho (by simp [Op.operands]) _ h
    obtain ⟨s, hs, h, g1⟩ := h
    split at h
    · rename_i e
      replace h := Dt.nth (fun a ha => ha) _ h
      obtain ⟨⟨o, n, ag⟩, _, h, g2⟩ := h
      dsimp only at h
      split at h
      · exact ⟨_, trivial, h, fun k' hk' => g1 _ (by dsimp only; rw [e]; exact g2 _ hk')⟩
      · obtain ⟨l, _, h, g3⟩ := Dt.drop _ h
        exact ⟨_, trivial, h, fun k' hk' => g1 _ (by dsimp only; rw [e]; exact g2 _ (g3 _ hk'))⟩
      · exact ⟨_, trivial, h, fun k' hk' => g1 _ (by dsimp only; rw [e]; exact g2 _ hk')⟩
      · exact ⟨_, trivial, (dead_dt h).1, fun k' hk' => g1 _ (by dsimp only; rw [e]; exact g2 _ ((dead_dt h).2 k' hk'))⟩
      · exact h.elim
    · exact h.elim
theorem evP_dt {o : Oper} (hT : SameT (Oper.sees o) t t1) (hS' : noMem o.op = false → ∀ i ∈ Oper.sees o, ∀ s, t[i]? = some s → In H s) (hH : SameH H hp hp1) : Dt (evP Γ gd o t hp) (evP Γ gd o t1 hp1) (fun _ => True) := by
  cases hn : noMem o.op with
  | true => exact evP_dt0 hn hT
  | false =>
  have hS := hS' hn
  clear hS' hn
  have ho : ∀ {G : TypeId → TI} {T : TypeId} {gd : Option (Bool × Bool)} {x : Operand}, x ∈ o.op.operands → Dt (operand G T gd t x) (operand G T gd t1 x) (In H) := fun hx =>
    operand_dt (fun i hi => hT i (sees_mem hx hi)) (fun i hi => hS i (sees_mem hx hi))
  have hos : ∀ {G : TypeId → TI} {Ts : List TypeId} {xs : List Operand}, (∀ x ∈ xs, x ∈ o.op.operands) → Dt (operands G gd t xs Ts) (operands G gd t1 xs Ts) (fun ss => ∀ s ∈ ss, In H s) := fun hx =>
    operands_dt (fun x hx' i hi => hT i (sees_mem (hx x hx') hi)) (fun x hx' i hi => hS i (sees_mem (hx x hx') hi))
  have hop : ∀ {G : TypeId → TI} {x : Option Operand} {n : Int}, (∀ y, x = some y → y ∈ o.op.operands) → Dt (optK G gd t x n) (optK G gd t1 x n) (fun _ => True) := fun hx =>
    optK_dt (fun y hy i hi => hT i (sees_mem (hx y hy) hi)) (fun y hy i hi => hS i (sees_mem (hx y hy) hi))
  have hps : ∀ {G : TypeId → TI} {Tf : Nat → TypeId} {ps : List (Nat × Operand)}, (∀ x ∈ ps.map (·.2), x ∈ o.op.operands) → Dt (partsK G Tf gd t ps) (partsK G Tf gd t1 ps) (fun _ => True) := fun hx =>
    partsK_dt (fun x hx' i hi => hT i (sees_mem (hx x hx') hi)) (fun x hx' i hi => hS i (sees_mem (hx x hx') hi))
  have hcs : ∀ {G : TypeId → TI} {xs : List Operand}, (∀ x ∈ xs, x ∈ o.op.operands) → Dt (capsK G gd t xs) (capsK G gd t1 xs) (fun _ => True) := fun hx =>
    capsK_dt (fun x hx' i hi => hT i (sees_mem (hx x hx') hi)) (fun x hx' i hi => hS i (sees_mem (hx x hx') hi))
  obtain ⟨dst, op, ty, pos, after, guard⟩ := o
  intro k h
  unfold evP at h
  cases op <;> simp only [] at h
  case move x => obtain ⟨s, _, h, g1⟩ := ho (by simp [Op.operands]) k h; exact ⟨s, trivial, h, g1⟩
  case assign x => obtain ⟨s, _, h, g1⟩ := ho (by simp [Op.operands]) k h; exact ⟨s, trivial, h, g1⟩
  case pick c x y =>
    replace h := ho (by simp [Op.operands]) _ h
    obtain ⟨s1, _, h, g1⟩ := h
    replace h := ho (by simp [Op.operands]) _ h
    obtain ⟨s2, _, h, g2⟩ := h
    replace h := ho (by simp [Op.operands]) _ h
    obtain ⟨s3, _, h, g3⟩ := h
    split at h
    · exact ⟨_, trivial, h, fun k' hk' => g1 _ (g2 _ (g3 _ hk'))⟩
    · obtain ⟨s, _, h, g4⟩ := Dt.ob (Dt.pure (Pr := fun _ => True) trivial) _ h
      exact ⟨s, trivial, h, fun k' hk' => g1 _ (g2 _ (g3 _ (g4 _ hk')))⟩
    · obtain ⟨s, _, h, g4⟩ := Dt.ob (Dt.pure (Pr := fun _ => True) trivial) _ h
      exact ⟨s, trivial, h, fun k' hk' => g1 _ (g2 _ (g3 _ (g4 _ hk')))⟩
    · obtain ⟨s, _, h, g4⟩ := Dt.ob (Dt.pure (Pr := fun _ => True) trivial) _ h
      exact ⟨s, trivial, h, fun k' hk' => g1 _ (g2 _ (g3 _ (g4 _ hk')))⟩
    · obtain ⟨s, _, h, g4⟩ := Dt.ob (Dt.pure (Pr := fun _ => True) trivial) _ h
      exact ⟨s, trivial, h, fun k' hk' => g1 _ (g2 _ (g3 _ (g4 _ hk')))⟩
    · exact h.elim
  case load T x =>
    replace h := ho (by simp [Op.operands]) _ h
    obtain ⟨s, hs, h, g1⟩ := h
    replace h := loadK_dt hH hs _ h
    obtain ⟨r, _, h, g2⟩ := h
    exact ⟨r, trivial, h, fun k' hk' => g1 _ (g2 _ hk')⟩
  case nilCheck x =>
    replace h := ho (by simp [Op.operands]) _ h
    obtain ⟨s, hs, h, g1⟩ := h
    split at h
    · exact ⟨_, trivial, h, fun k' hk' => g1 _ hk'⟩
    · exact ⟨_, trivial, h, fun k' hk' => g1 _ hk'⟩
    · exact ⟨_, trivial, (dead_dt h).1, fun k' hk' => g1 _ ((dead_dt h).2 k' hk')⟩
    · exact ⟨_, trivial, (dead_dt h).1, fun k' hk' => g1 _ ((dead_dt h).2 k' hk')⟩
    · exact h.elim
  case binOp bop T x y T' =>
    split at h
    · rename_i e0
      replace h := ho (x := x) (by simp [Op.operands]) _ h
      obtain ⟨s, hs, h, g1⟩ := h
      split at h
      · rename_i c
        have hc : ∀ h ∈ C.hs c, h ∈ H := hs
        replace h := rowK_dt hH hc h
        obtain ⟨sz, L, h, g2⟩ := h
        exact ⟨_, trivial, h, fun k' hk' => by
          unfold evP
          simp only []
          rw [e0]
          exact g1 _ (g2 _ hk')⟩
      · exact h.elim
    · rename_i e0
      replace h := ho (x := x) (by simp [Op.operands]) _ h
      obtain ⟨s, hs, h, g1⟩ := h
      replace h := ho (x := y) (by simp [Op.operands]) _ h
      obtain ⟨s', hs', h, g2⟩ := h
      replace h := bin_dt _ h
      obtain ⟨r, _, h, g3⟩ := h
      exact ⟨r, trivial, h, fun k' hk' => by
        unfold evP
        simp only []
        rw [e0]
        exact g1 _ (g2 _ (g3 _ hk'))⟩
  case unOp =>
    replace h := ho (by simp [Op.operands]) _ h
    obtain ⟨s, hs, h, g1⟩ := h
    replace h := un_dt _ h
    obtain ⟨r, _, h, g3⟩ := h
    exact ⟨r, trivial, h, fun k' hk' => g1 _ (g3 _ hk')⟩
  case convert =>
    replace h := ho (by simp [Op.operands]) _ h
    obtain ⟨s, hs, h, g1⟩ := h
    split at h
    · rename_i e
      replace h := tt_ok h
      obtain ⟨e', h⟩ := h
      replace h := sumK_dt _ h
      obtain ⟨r, _, h, g3⟩ := h
      exact ⟨r, trivial, h, fun k' hk' => g1 _ (by rw [e, e']; exact g3 _ hk')⟩
    · rename_i e
      replace h := tt_ok h
      obtain ⟨e', h⟩ := h
      exact ⟨_, trivial, h, fun k' hk' => g1 _ (by rw [e, e']; exact hk')⟩
    · exact h.elim
  case fieldAddr =>
    replace h := ho (by simp [Op.operands]) _ h
    obtain ⟨s, hs, h, g1⟩ := h
    split at h
    · rename_i e
      replace h := Dt.nth (fun a ha => ha) _ h
      obtain ⟨⟨o, n, ag⟩, _, h, g2⟩ := h
      dsimp only at h
      split at h
      · exact ⟨_, trivial, h, fun k' hk' => g1 _ (by dsimp only; rw [e]; exact g2 _ hk')⟩
      · obtain ⟨l, _, h, g3⟩ := Dt.drop _ h
        exact ⟨_, trivial, h, fun k' hk' => g1 _ (by dsimp only; rw [e]; exact g2 _ (g3 _ hk'))⟩
      · exact ⟨_, trivial, h, fun k' hk' => g1 _ (by dsimp only; rw [e]; exact g2 _ hk')⟩
      · exact ⟨_, trivial, (dead_dt h).1, fun k' hk' => g1 _ (by dsimp only; rw [e]; exact g2 _ ((dead_dt h).2 k' hk'))⟩
      · exact h.elim
    · exact h.elim
  case field =>
    replace h := ho (by simp [Op.operands]) _ h
    obtain ⟨s, hs, h, g1⟩ := h
    split at h
    · rename_i e
      replace h := Dt.nth (fun a ha => ha) _ h
      obtain ⟨⟨o, n, ag⟩, _, h, g2⟩ := h
      dsimp only at h
      replace h := Dt.drop _ h
      obtain ⟨l, _, h, g3⟩ := h
      replace h := partK_dt _ h
      obtain ⟨r, _, h, g4⟩ := h
      exact ⟨r, trivial, h, fun k' hk' => g1 _ (by dsimp only; rw [e]; exact g2 _ (g3 _ (g4 _ hk')))⟩
    · exact h.elim
  case indexAddr =>
    replace h := ho (by simp [Op.operands]) _ h
    obtain ⟨s, hs, h, g1⟩ := h
    replace h := ho (by simp [Op.operands]) _ h
    obtain ⟨s', hs', h, g2⟩ := h
    split at h
    · split at h
      · rename_i e
        replace h := tt_ok h
        obtain ⟨e', h⟩ := h
        replace h := Dt.ex (fun e => Dt.ob (Dt.pure (Pr := fun _ => True) trivial)) _ h
        obtain ⟨r, _, h, g3⟩ := h
        exact ⟨r, trivial, h, fun k' hk' => g1 _ (g2 _ (by dsimp only; rw [e]; dsimp only; rw [e']; exact g3 _ hk'))⟩
      · rename_i x e
        replace h := nth_dt hH (hs x (by simp [S.hs, V1.hs, C.hs])) _ h
        obtain ⟨r, _, h, g3⟩ := h
        split at h
        · obtain ⟨e', h⟩ := tt_ok h
          replace h := Dt.ob (Dt.pure (Pr := fun _ => True) trivial) _ h
          obtain ⟨r, _, h, g4⟩ := h
          exact ⟨r, trivial, h, fun k' hk' => g1 _ (g2 _ (by dsimp only; rw [e]; exact g3 _ (by dsimp only; rw [e']; exact g4 _ hk')))⟩
        · obtain ⟨e', h⟩ := tt_ok h
          replace h := Dt.ob (Dt.pure (Pr := fun _ => True) trivial) _ h
          obtain ⟨r, _, h, g4⟩ := h
          exact ⟨r, trivial, h, fun k' hk' => g1 _ (g2 _ (by dsimp only; rw [e]; exact g3 _ (by dsimp only; rw [e']; exact g4 _ hk')))⟩
        · obtain ⟨e', h⟩ := tt_ok h
          replace h := Dt.ex (fun e => Dt.ob (Dt.pure (Pr := fun _ => True) trivial)) _ h
          obtain ⟨r, _, h, g4⟩ := h
          exact ⟨r, trivial, h, fun k' hk' => g1 _ (g2 _ (by dsimp only; rw [e]; exact g3 _ (by dsimp only; rw [e']; exact g4 _ hk')))⟩
        · exact h.elim
      · rename_i x _ _ _ e
        replace h := nth_dt hH (hs x (by simp [S.hs, V1.hs, C.hs])) _ h
        obtain ⟨r, _, h, g3⟩ := h
        split at h
        · obtain ⟨e', h⟩ := tt_ok h
          replace h := Dt.ob (Dt.pure (Pr := fun _ => True) trivial) _ h
          obtain ⟨r, _, h, g4⟩ := h
          exact ⟨r, trivial, h, fun k' hk' => g1 _ (g2 _ (by dsimp only; rw [e]; exact g3 _ (by dsimp only; rw [e']; exact g4 _ hk')))⟩
        · exact h.elim
      · rename_i e
        replace h := Dt.ob (Dt.pure (Pr := fun _ => True) trivial) _ h
        obtain ⟨r, _, h, g4⟩ := h
        exact ⟨r, trivial, h, fun k' hk' => g1 _ (g2 _ (by dsimp only; rw [e]; exact g4 _ hk'))⟩
      · rename_i e
        replace h := Dt.ob (Dt.bindc (Qr := fun _ => True) (g := fun l => S.one (.pel l)) Dt.drop fun _ => trivial) _ h
        obtain ⟨r, _, h, g4⟩ := h
        exact ⟨r, trivial, h, fun k' hk' => g1 _ (g2 _ (by dsimp only; rw [e]; exact g4 _ hk'))⟩
      · rename_i e
        replace h := Dt.ob (Dt.pure (Pr := fun _ => True) trivial) _ h
        obtain ⟨r, _, h, g4⟩ := h
        exact ⟨r, trivial, h, fun k' hk' => g1 _ (g2 _ (by dsimp only; rw [e]; exact g4 _ hk'))⟩
      · exact h.elim
    · exact h.elim
  case index =>
    replace h := ho (by simp [Op.operands]) _ h
    obtain ⟨s, hs, h, g1⟩ := h
    replace h := ho (by simp [Op.operands]) _ h
    obtain ⟨s', hs', h, g2⟩ := h
    split at h
    · obtain ⟨e', h⟩ := tt_ok h
      obtain ⟨b, h⟩ := h
      replace h := Dt.ob (Dt.pure (Pr := fun _ => True) trivial) _ h
      obtain ⟨r, _, h, g4⟩ := h
      exact ⟨r, trivial, h, fun k' hk' => g1 _ (g2 _ (by dsimp only; rw [e']; exact ⟨b, g4 _ hk'⟩))⟩
    · exact h.elim
  case slice T x lo hi mx =>
    cases mx <;> simp only [] at h
    case none =>
      replace h := ho (by simp [Op.operands]) _ h
      obtain ⟨s, hs, h, g1⟩ := h
      split at h
      · rename_i c e
        have hc : ∀ h ∈ C.hs c, h ∈ H := hs
        replace h := rowK_dt hH hc h
        obtain ⟨sz, L, h, g2⟩ := h
        replace h := tt_ok h
        obtain ⟨e', h⟩ := h
        replace h := hop (by intro y hy; subst hy; simp [Op.operands]) _ h
        obtain ⟨l, _, h, g3⟩ := h
        replace h := hop (by intro y hy; subst hy; simp [Op.operands]) _ h
        obtain ⟨l', _, h, g4⟩ := h
        replace h := cutK_dt hH hc _ h
        obtain ⟨r, _, h, g5⟩ := h
        exact ⟨r, trivial, h, fun k' hk' => g1 _ (by rw [e]; refine g2 _ ?_; rw [e']; exact g3 (fun l => optK Γ.ty gd t1 hi L.length fun h => cutK gd hp1 c l h k') (g4 (fun h => cutK gd hp1 c l h k') (g5 _ hk')))⟩
      · exact h.elim
    case some mx =>
      cases lo with
      | some _ => exact h.elim
      | none =>
        cases hi with
        | none => exact h.elim
        | some hi =>
          replace h := ho (by simp [Op.operands]) _ h
          obtain ⟨s, hs, h, g1⟩ := h
          split at h
          · rename_i c e
            have hc : ∀ h ∈ C.hs c, h ∈ H := hs
            replace h := rowK_dt hH hc h
            obtain ⟨sz, L, h, g2⟩ := h
            replace h := tt_ok h
            obtain ⟨e', h⟩ := h
            replace h := ho (x := hi) (by simp [Op.operands]) _ h
            obtain ⟨l, _, h, g3⟩ := h
            replace h := ho (x := mx) (by simp [Op.operands]) _ h
            obtain ⟨l', _, h, g4⟩ := h
            split at h
            · have hob : ∀ {p q r : Prop}, (q → r) → ob gd p q → ob gd p r := fun hqr hp => by cases gd <;> exact ⟨hp.1, hqr hp.2⟩
              refine ⟨_, trivial, ob_any h, fun k' hk' => g1 _ (by rw [e]; refine g2 _ ?_; rw [e']; exact g3 _ (g4 _ (hob (fun _ => hk') h)))⟩
            · exact h.elim
          · exact h.elim
  case extract =>
    replace h := ho (by simp [Op.operands]) _ h
    obtain ⟨s, hs, h, g1⟩ := h
    split at h
    · obtain ⟨v, _, h, g2⟩ := Dt.nth (fun a ha => ha) _ h
      exact ⟨_, trivial, h, fun k' hk' => g1 _ (g2 _ hk')⟩
    · exact h.elim
  case makeFunc fn first captured =>
    cases fn <;> simp only [] at h
    case func f =>
      split at h
      · rename_i e
        replace h := hcs (by intro x hx; simp [Op.operands]; exact .inr (by simpa using hx)) _ h
        obtain ⟨cs, _, h, g1⟩ := h
        exact ⟨_, trivial, h, fun k' hk' => by unfold evP; simp only [e]; exact g1 _ hk'⟩
      · exact h.elim
  case build T ps =>
    split at h
    · rename_i e
      replace h := hps (by intro x hx; simpa [Op.operands] using hx) _ h
      obtain ⟨ss, _, h, g1⟩ := h
      replace h := fillK_dt _ h
      obtain ⟨l, _, h, g2⟩ := h
      exact ⟨_, trivial, h, fun k' hk' => by unfold evP; simp only [e]; exact g1 _ (g2 _ hk')⟩
    · rename_i e
      obtain ⟨e', h⟩ := tt_ok h
      replace h := hps (by intro x hx; simpa [Op.operands] using hx) _ h
      obtain ⟨ss, _, h, g1⟩ := h
      replace h := fillK_dt _ h
      obtain ⟨l, _, h, g2⟩ := h
      exact ⟨_, trivial, h, fun k' hk' => by unfold evP; simp only [e, e']; exact g1 _ (g2 _ hk')⟩
    · exact h.elim
  case call c =>
    obtain ⟨callee, args, argTypes⟩ := c
    cases callee <;> simp only [] at h
    case builtin b =>
      cases b <;> simp only [] at h
      case len =>
        replace h := hos (by intro x hx; simpa [Op.operands, Call.operands] using hx) _ h
        obtain ⟨ss, hss, h, g1⟩ := h
        split at h
        · split at h
          · rename_i e0 _ _ _ e
            exact ⟨_, trivial, h, fun k' hk' => g1 _ (by dsimp only; simp only [e0, e]; exact hk')⟩
          · rename_i e0 _ _ _ _ _ _ e
            exact ⟨_, trivial, (dead_dt h).1, fun k' hk' => g1 _ (by dsimp only; simp only [e0, e]; exact (dead_dt h).2 k' hk')⟩
          · rename_i e0 c _ _ _ _ _ _ e hne
            replace h := longK_dt hH (hss _ (List.mem_cons_self ..)) h
            obtain ⟨n, h, g2⟩ := h
            exact ⟨_, trivial, h, fun k' hk' => g1 _ (by
              dsimp only; simp only [e0, e]
              cases c <;> first | exact g2 _ hk' | exact absurd rfl hne)⟩
          · rename_i e0 c _ _ _ e
            unfold mapH at h
            split at h
            · rename_i x
              obtain ⟨r, _, h, g2⟩ := nth_dt hH (hss _ (List.mem_cons_self ..) x (by simp [S.hs, V1.hs, C.hs])) _ h
              split at h
              · exact ⟨_, trivial, h, fun k' hk' => g1 _ (by dsimp only; simp only [e0, e, mapH]; exact g2 _ hk')⟩
              · exact h.elim
            · rename_i x
              obtain ⟨r, _, h, g2⟩ := nth_dt hH (hss _ (List.mem_cons_self ..) x (by simp [S.hs, V1.hs, C.hs])) _ h
              split at h
              · exact ⟨_, trivial, h, fun k' hk' => g1 _ (by dsimp only; simp only [e0, e, mapH]; exact g2 _ hk')⟩
              · exact h.elim
            · exact h.elim
          · exact h.elim
        · exact h.elim
      case min =>
        replace h := hos (by intro x hx; simpa [Op.operands, Call.operands] using hx) _ h
        obtain ⟨ss, hss, h, g1⟩ := h
        split at h
        · exact ⟨_, trivial, h, fun k' hk' => g1 _ hk'⟩
        · exact h.elim
      case max =>
        replace h := hos (by intro x hx; simpa [Op.operands, Call.operands] using hx) _ h
        obtain ⟨ss, hss, h, g1⟩ := h
        split at h
        · exact ⟨_, trivial, h, fun k' hk' => g1 _ hk'⟩
        · exact h.elim
end loc
end Go.Proofs.YtphmcgmblkbijaaVY
