/-
  VY: what is known, as a relation to values and worlds, and that it lasts. By the session's own hand.
-/
import Derived.Test.YtphmcgmblkbijaaVy1
import GoSem.Core.Sem
import Derived.MapKept
set_option linter.unusedSectionVars false
set_option linter.unusedSimpArgs false
set_option linter.unusedVariables false
set_option linter.all false
set_option linter.unnecessarySimpa false
set_option linter.deprecated false
namespace Go.Proofs.YtphmcgmblkbijaaVY

/-- Two rows, member by member. -/
inductive All2 {α β : Type} (R : α → β → Prop) : List α → List β → Prop
  | nil : All2 R [] []
  | cons {a b l m} : R a b → All2 R l m → All2 R (a :: l) (b :: m)
namespace All2
variable {α β γ : Type} {R : α → β → Prop} {l : List α} {m : List β}
theorem length (h : All2 R l m) : l.length = m.length := by induction h <;> simp [*]
theorem get {i : Nat} {a : α} {b : β} (h : All2 R l m) (ha : l[i]? = some a) (hb : m[i]? = some b) : R a b := by
  induction h generalizing i with
  | nil => simp at ha
  | cons r _ ih => cases i with
    | zero => simp at ha hb; subst ha; subst hb; exact r
    | succ i => simp at ha hb; exact ih ha hb
theorem get' {i : Nat} {b : β} (h : All2 R l m) (hb : m[i]? = some b) : ∃ a, l[i]? = some a ∧ R a b := by
  induction h generalizing i with
  | nil => simp at hb
  | cons r _ ih => cases i with
    | zero => simp at hb; subst hb; exact ⟨_, by simp, r⟩
    | succ i => simp at hb; simpa using ih hb
theorem imp {R' : α → β → Prop} (h : All2 R l m) (f : ∀ a b, R a b → R' a b) : All2 R' l m := by
  induction h with
  | nil => exact .nil
  | cons r _ ih => exact .cons (f _ _ r) ih
theorem mapR {R' : α → γ → Prop} {g : β → γ} (h : All2 R l m) (f : ∀ a b, R a b → R' a (g b)) : All2 R' l (m.map g) := by
  induction h with
  | nil => exact .nil
  | cons r _ ih => exact .cons (f _ _ r) ih
theorem append {l' : List α} {m' : List β} (h : All2 R l m) (h' : All2 R l' m') : All2 R (l ++ l') (m ++ m') := by
  induction h with
  | nil => exact h'
  | cons r _ ih => exact .cons r ih
theorem take (n : Nat) (h : All2 R l m) : All2 R (l.take n) (m.take n) := by
  induction h generalizing n with
  | nil => simpa using All2.nil
  | cons r _ ih => cases n with
    | zero => exact .nil
    | succ n => exact .cons r (ih n)
theorem drop (n : Nat) (h : All2 R l m) : All2 R (l.drop n) (m.drop n) := by
  induction h generalizing n with
  | nil => simpa using All2.nil
  | cons r h ih => cases n with
    | zero => exact .cons r h
    | succ n => simpa using ih n
theorem set {i : Nat} {a : α} {b : β} (h : All2 R l m) (r : R a b) : All2 R (l.set i a) (m.set i b) := by
  induction h generalizing i with
  | nil => exact .nil
  | cons r' h ih => cases i with
    | zero => exact .cons r h
    | succ i => exact .cons r' ih
theorem of_get (hl : l.length = m.length) (h : ∀ (i : Nat) (a : α) (b : β), l[i]? = some a → m[i]? = some b → R a b) : All2 R l m := by
  induction l generalizing m with
  | nil => cases m with
    | nil => exact .nil
    | cons _ _ => simp at hl
  | cons a l ih => cases m with
    | nil => simp at hl
    | cons b m =>
      refine .cons (h 0 a b (by simp) (by simp)) (ih (by simpa using hl) fun i a b ha hb => h (i + 1) a b (by simpa using ha) (by simpa using hb))
end All2

/-- a value of one cell -/
def Flat (v : Value) : Prop := (∀ cs, v ≠ .agg cs) ∧ ∀ vs, v ≠ .tuple vs
theorem Flat.cells {v : Value} (h : Flat v) : v.cells = #[v] := by
  cases v <;> first | rfl | exact absurd rfl (h.1 _)

/-- a block that is there, and none of A -/
def At (A : Nat → Prop) (w : World) (b : Nat) : Prop := b < w.heap.size ∧ ¬ A b
mutual
/-- a value reads as a datum; no cell of the blocks A is looked at -/
def Rd (A : Nat → Prop) (w : World) (v : Value) : D → Prop
  | .int k n => v = .int k n
  | .bool b => v = .bool b
  | .str s => v = .string s
  | .val u => v = u ∧ Flat u
  | .sl sz L => ∃ a cap, v = .slice a L.length cap ∧ L.length ≤ cap ∧ (L = [] ∨ ∃ b off, a = some ⟨b, off, none⟩ ∧ At A w b ∧ RdL A w b off sz L)
/-- cells from a place on -/
def RdC (A : Nat → Prop) (w : World) (b off : Nat) : List D → Prop
  | [] => True
  | x :: l => (∃ v, w.cell? ⟨b, off, none⟩ = some v ∧ Rd A w v x) ∧ RdC A w b (off + 1) l
/-- elements from a place on -/
def RdL (A : Nat → Prop) (w : World) (b off sz : Nat) : List (List D) → Prop
  | [] => True
  | e :: L => e.length = sz ∧ RdC A w b off e ∧ RdL A w b (off + sz) sz L
end

theorem Rd.flat {A : Nat → Prop} {w : World} {v : Value} {x : D} (h : Rd A w v x) : Flat v := by
  cases x <;> simp only [Rd] at h
  case val => obtain ⟨rfl, h⟩ := h; exact h
  case sl => obtain ⟨a, cap, rfl, _⟩ := h; exact ⟨by simp, by simp⟩
  all_goals (subst h; exact ⟨by simp, by simp⟩)

theorem cell_block {w : World} {b o : Nat} {v : Value} (h : w.cell? ⟨b, o, none⟩ = some v) : b < w.heap.size := by
  unfold World.cell? at h
  rcases Nat.lt_or_ge b w.heap.size with hb | hb
  · exact hb
  · simp [Array.getElem?_eq_none hb] at h
theorem cell_same {w w' : World} {b : Nat} (h : w'.heap[b]? = w.heap[b]?) (o : Nat) : w'.cell? ⟨b, o, none⟩ = w.cell? ⟨b, o, none⟩ := by
  unfold World.cell?; simp only [h]

/-- What lasts from one world to a later one: blocks outside A; A grows by new blocks alone. -/
structure Lasts (A A' : Nat → Prop) (w w' : World) : Prop where
  grow : w.heap.size ≤ w'.heap.size
  same : ∀ b, b < w.heap.size → ¬ A b → w'.heap[b]? = w.heap[b]?
  less : ∀ b, b < w.heap.size → A' b → A b
theorem Lasts.refl (A : Nat → Prop) (w : World) : Lasts A A w w := ⟨Nat.le_refl _, fun _ _ _ => rfl, fun _ _ h => h⟩
theorem Lasts.at {A A' : Nat → Prop} {w w' : World} (H : Lasts A A' w w') {b : Nat} (h : At A w b) : At A' w' b := ⟨Nat.lt_of_lt_of_le h.1 H.grow, fun h' => h.2 (H.less b h.1 h')⟩

mutual
theorem Rd.lasts {A A' : Nat → Prop} {w w' : World} (H : Lasts A A' w w') {v : Value} : ∀ {x : D}, Rd A w v x → Rd A' w' v x
  | .int _ _, h => by simpa only [Rd] using h
  | .bool _, h => by simpa only [Rd] using h
  | .str _, h => by simpa only [Rd] using h
  | .val _, h => by simpa only [Rd] using h
  | .sl sz L, h => by
    simp only [Rd] at h ⊢
    obtain ⟨a, cap, hv, hc, h⟩ := h
    exact ⟨a, cap, hv, hc, h.imp id fun ⟨b, off, ha, hb, h⟩ => ⟨b, off, ha, H.at hb, RdL.lasts H hb.2 h⟩⟩
theorem RdC.lasts {A A' : Nat → Prop} {w w' : World} (H : Lasts A A' w w') {b : Nat} (hA : ¬ A b) : ∀ {off : Nat} {l : List D}, RdC A w b off l → RdC A' w' b off l
  | _, [], _ => by simp only [RdC]
  | off, x :: l, h => by
    simp only [RdC] at h ⊢
    obtain ⟨⟨v, hv, hx⟩, h⟩ := h
    exact ⟨⟨v, (cell_same (H.same b (cell_block hv) hA) off).trans hv, Rd.lasts H hx⟩, RdC.lasts H hA h⟩
theorem RdL.lasts {A A' : Nat → Prop} {w w' : World} (H : Lasts A A' w w') {b : Nat} (hA : ¬ A b) : ∀ {off sz : Nat} {L : List (List D)}, RdL A w b off sz L → RdL A' w' b off sz L
  | _, _, [], _ => by simp only [RdL]
  | off, sz, e :: L, h => by
    simp only [RdL] at h ⊢
    exact ⟨h.1, RdC.lasts H hA h.2.1, RdL.lasts H hA h.2.2⟩
end

/-- handles' values -/
abbrev Hs := List Value
def CapRel (ρ : Hs) (A : Nat → Prop) (w : World) (v : Value) : Cap → Prop
  | .ptr h => ∃ b, ρ[h]? = some (.pointer (some ⟨b, 0, none⟩)) ∧ v = .pointer (some ⟨b, 0, none⟩)
  | .pel l => ∃ b off, v = .pointer (some ⟨b, off, none⟩) ∧ At A w b ∧ RdC A w b off l
  | .d x => Rd A w v x
  | .emp _ => ∃ a, v = .slice a 0 0
  | .own h => ρ[h]? = some v ∧ Flat v
  | .fn0 f => v = .func (.func f) #[] #[]
  | .junk => True
def CRel (ρ : Hs) (A : Nat → Prop) (w : World) (v : Value) : C → Prop
  | .d x => Rd A w v x
  | .emp _ => ∃ a, v = .slice a 0 0
  | .own h => ρ[h]? = some v ∧ Flat v
  | .win h sz lo n => ∃ a l c, ρ[h]? = some (.slice a l c) ∧ lo + n ≤ l ∧ l ≤ c ∧ ∃ a', v = .slice a' n (c - lo) ∧ (c = lo ∨ a' = a.map (·.add (lo * sz)))
  | .ptr h off => ∃ b, ρ[h]? = some (.pointer (some ⟨b, 0, none⟩)) ∧ v = .pointer (some ⟨b, off, none⟩)
  | .prow h sz i j => ∃ b off l c, ρ[h]? = some (.slice (some ⟨b, off, none⟩) l c) ∧ v = .pointer (some ⟨b, off + i * sz + j, none⟩)
  | .pel l => ∃ b off, v = .pointer (some ⟨b, off, none⟩) ∧ At A w b ∧ RdC A w b off l
  | .fn f cs => ∃ vs : Array Value, v = .func (.func f) #[] vs ∧ All2 (CapRel ρ A w) vs.toList cs
  | .nq n => ∃ b : Bool, v = .bool b ∧ (b = true → n = 0)
  | .town h => ∃ us, ρ[h]? = some (.tuple ⟨v :: us⟩) ∧ Flat v
  | .sub h i => ∃ u us, ρ[h]? = some (.tuple ⟨u :: us⟩) ∧ us[i]? = some v ∧ Flat v
  | .junk => True
def V1Rel (ρ : Hs) (A : Nat → Prop) (w : World) (v : Value) : V1 → Prop
  | .c x => CRel ρ A w v x
  | .ag l => ∃ cs : Array Value, v = .agg cs ∧ All2 (fun u c => Flat u ∧ CRel ρ A w u c) cs.toList l
  | .cnd b w' x => (b = w' → V1Rel ρ A w v x) ∧ (b ≠ w' → v = undef)
def SRel (ρ : Hs) (A : Nat → Prop) (w : World) (v : Value) : S → Prop
  | .v x => V1Rel ρ A w v x
  | .tup l => ∃ vs : Array Value, v = .tuple vs ∧ All2 (V1Rel ρ A w) vs.toList l
theorem CRel.flat {ρ : Hs} {A : Nat → Prop} {w : World} {v : Value} {c : C} (h : CRel ρ A w v c) (hj : c ≠ .junk) : Flat v := by
  cases c <;> simp only [CRel] at h
  case d => exact h.flat
  case emp => obtain ⟨a, rfl⟩ := h; exact ⟨by simp, by simp⟩
  case own => exact h.2
  case win => obtain ⟨a, l, c, _, _, _, a', rfl, _⟩ := h; exact ⟨by simp, by simp⟩
  case ptr => obtain ⟨b, _, rfl⟩ := h; exact ⟨by simp, by simp⟩
  case prow => obtain ⟨b, off, l, c, _, rfl⟩ := h; exact ⟨by simp, by simp⟩
  case pel => obtain ⟨b, off, rfl, _⟩ := h; exact ⟨by simp, by simp⟩
  case fn => obtain ⟨vs, rfl, _⟩ := h; exact ⟨by simp, by simp⟩
  case nq => obtain ⟨b, rfl, _⟩ := h; exact ⟨by simp, by simp⟩
  case town => obtain ⟨_, _, h⟩ := h; exact h
  case sub => obtain ⟨_, _, _, _, h⟩ := h; exact h
  case junk => exact absurd rfl hj

/-- a handle's value turns: no box's; what hangs on it may, its head does not -/
def Mov (v v' : Value) : Prop := (∀ p, v ≠ .pointer p) ∧ ∀ u us, v = .tuple ⟨u :: us⟩ → ∃ us', v' = .tuple ⟨u :: us'⟩
theorem Mov.slice {a : Option Addr} {l c : Nat} {v' : Value} : Mov (.slice a l c) v' := ⟨by simp, by simp⟩
/-- handles keep their values, but for a row that was moved -/
structure Keeps (inv : Option Nat) (ρ ρ' : Hs) : Prop where
  kept : ∀ (h : Nat) (v : Value), inv ≠ some h → ρ[h]? = some v → ρ'[h]? = some v
  row : ∀ (h : Nat) (v : Value), inv = some h → ρ[h]? = some v → ∃ v', ρ'[h]? = some v' ∧ Mov v v'
theorem Keeps.refl (ρ : Hs) : Keeps none ρ ρ := ⟨fun _ _ _ h => h, fun _ _ h => by cases h⟩
def Cap.loseO : Option Nat → Cap → Cap
  | none, c => c
  | some h, c => c.lose h
def C.loseO : Option Nat → C → C
  | none, c => c
  | some h, c => c.lose h
def S.loseO : Option Nat → S → S
  | none, s => s
  | some h, s => s.lose h
def Reg.loseO : Option Nat → Reg → Reg
  | none, r => r
  | some h, r => r.lose h

section lasts
variable {ρ ρ' : Hs} {A A' : Nat → Prop} {w w' : World} {inv : Option Nat} (H : Lasts A A' w w') (K : Keeps inv ρ ρ')
include H K
theorem Keeps.ptr' {h b : Nat} (hp : ρ[h]? = some (.pointer (some ⟨b, 0, none⟩))) : ρ'[h]? = some (.pointer (some ⟨b, 0, none⟩)) := by
  by_cases e : inv = some h
  · obtain ⟨v', _, hm⟩ := K.row h _ e hp; exact absurd rfl (hm.1 _)
  · exact K.kept h _ e hp
theorem CapRel.lasts {v : Value} {c : Cap} (h : CapRel ρ A w v c) : CapRel ρ' A' w' v (c.loseO inv) := by
  cases inv with
  | none =>
    cases c <;> simp only [CapRel, Cap.loseO] at h ⊢
    case ptr => obtain ⟨b, h, rfl⟩ := h; exact ⟨b, Keeps.ptr' H K h, rfl⟩
    case pel => obtain ⟨b, off, rfl, ha, h⟩ := h; exact ⟨b, off, rfl, H.at ha, RdC.lasts H ha.2 h⟩
    case d => exact h.lasts H
    case emp => exact h
    case own x => exact ⟨K.kept x v (by simp) h.1, h.2⟩
    case fn0 => exact h
  | some i =>
    cases c <;> simp only [Cap.loseO, Cap.lose] at h ⊢ <;> (try simp only [CapRel] at h ⊢)
    case ptr => obtain ⟨b, h, rfl⟩ := h; exact ⟨b, Keeps.ptr' H K h, rfl⟩
    case pel => obtain ⟨b, off, rfl, ha, h⟩ := h; exact ⟨b, off, rfl, H.at ha, RdC.lasts H ha.2 h⟩
    case d => exact h.lasts H
    case emp => exact h
    case fn0 => exact h
    case own x =>
      by_cases e : i = x
      · subst e; simp [CapRel]
      · have : (i == x) = false := by simpa using e
        rw [this]
        exact ⟨K.kept x v (by simpa using e) h.1, h.2⟩
theorem CRel.lasts {v : Value} {c : C} (h : CRel ρ A w v c) : CRel ρ' A' w' v (c.loseO inv) := by
  have key : ∀ r, (∀ h, inv = some h → r ≠ .own h) → CRel ρ A w v r → (∀ h sz i j, r = .prow h sz i j ∨ r = .win h sz i j → inv ≠ some h) → (∀ f cs, r ≠ .fn f cs) → (∀ h i, r = .sub h i → inv ≠ some h) → CRel ρ' A' w' v r := by
    intro r hr h hq hnf hsub
    cases r <;> simp only [CRel] at h ⊢
    case d => exact h.lasts H
    case emp => exact h
    case own x => exact ⟨K.kept x v (fun e => hr x e rfl) h.1, h.2⟩
    case win x sz lo n => obtain ⟨a, l, c, h, h'⟩ := h; exact ⟨a, l, c, K.kept x _ (hq x sz lo n (.inr rfl)) h, h'⟩
    case ptr => obtain ⟨b, h, h'⟩ := h; exact ⟨b, Keeps.ptr' H K h, h'⟩
    case prow x sz i j => obtain ⟨b, off, l, c, h, h'⟩ := h; exact ⟨b, off, l, c, K.kept x _ (hq x sz i j (.inl rfl)) h, h'⟩
    case pel => obtain ⟨b, off, rfl, ha, h⟩ := h; exact ⟨b, off, rfl, H.at ha, RdC.lasts H ha.2 h⟩
    case fn f cs => exact absurd rfl (hnf f cs)
    case nq => exact h
    case town x =>
      obtain ⟨us, h1, h2⟩ := h
      by_cases e : inv = some x
      · obtain ⟨v', hv', hm⟩ := K.row x _ e h1
        obtain ⟨us', rfl⟩ := hm.2 _ _ rfl
        exact ⟨us', hv', h2⟩
      · exact ⟨us, K.kept x _ e h1, h2⟩
    case sub x i => obtain ⟨u, us, h1, h2⟩ := h; exact ⟨u, us, K.kept x _ (hsub x i rfl) h1, h2⟩
  cases inv with
  | none =>
    cases c with
    | fn f cs =>
      obtain ⟨vs, hv, h⟩ := h
      exact ⟨vs, hv, h.imp fun _ _ h => CapRel.lasts (inv := none) H K h⟩
    | _ => exact key _ (fun _ e => by cases e) h (fun _ _ _ _ _ e => by cases e) (by simp [C.loseO]) (by simp)
  | some i =>
    cases c with
    | own x =>
      show CRel _ _ _ _ (bif i == x then .junk else .own x)
      by_cases e : i = x
      · subst e; simp [CRel]
      · have : (i == x) = false := by simpa using e
        rw [this]
        exact key _ (fun h' e' => by simp at e' ⊢; omega) h (by simp) (by simp) (by simp)
    | win x sz lo n =>
      show CRel _ _ _ _ (bif i == x then .junk else .win x sz lo n)
      by_cases e : i = x
      · subst e; simp [CRel]
      · have : (i == x) = false := by simpa using e
        rw [this]
        refine key _ (by simp) h ?_ (by simp) (by simp)
        rintro h' sz' a b (e' | e')
        · cases e'
        · cases e'; simpa using e
    | prow x sz lo n =>
      show CRel _ _ _ _ (bif i == x then .junk else .prow x sz lo n)
      by_cases e : i = x
      · subst e; simp [CRel]
      · have : (i == x) = false := by simpa using e
        rw [this]
        refine key _ (by simp) h ?_ (by simp) (by simp)
        rintro h' sz' a b (e' | e')
        · cases e'; simpa using e
        · cases e'
    | d x => exact key (.d x) (by simp) h (by simp) (by simp) (by simp)
    | emp x => exact key (.emp x) (by simp) h (by simp) (by simp) (by simp)
    | ptr x y => exact key (.ptr x y) (by simp) h (by simp) (by simp) (by simp)
    | pel x => exact key (.pel x) (by simp) h (by simp) (by simp) (by simp)
    | fn f cs => obtain ⟨vs, hv, h⟩ := h; exact ⟨vs, hv, h.mapR fun _ _ h => CapRel.lasts (inv := some i) H K h⟩
    | nq x => exact key (.nq x) (by simp) h (by simp) (by simp) (by simp)
    | town x => exact key (.town x) (by simp) h (by simp) (by simp) (by simp)
    | sub x j =>
      show CRel _ _ _ _ (bif i == x then .junk else .sub x j)
      by_cases e : i = x
      · subst e; simp [CRel]
      · have : (i == x) = false := by simpa using e
        rw [this]
        refine key _ (by simp) h (by simp) (by simp) ?_
        rintro h' i' e'
        cases e'; simpa using e
    | junk => simp only [C.loseO, C.lose, CRel]
theorem CRel.lasts' {v : Value} {c : C} (hi : inv = none) (h : CRel ρ A w v c) : CRel ρ' A' w' v c := by
  have := h.lasts H K; subst hi; exact this
theorem V1Rel.lasts' {v : Value} (hi : inv = none) : ∀ {x : V1}, V1Rel ρ A w v x → V1Rel ρ' A' w' v x
  | .c _, h => CRel.lasts' H K hi h
  | .ag _, ⟨cs, hv, h⟩ => ⟨cs, hv, h.imp fun _ _ h => ⟨h.1, h.2.lasts' H K hi⟩⟩
  | .cnd _ _ _, h => ⟨fun e => V1Rel.lasts' hi (h.1 e), h.2⟩
theorem SRel.lasts {v : Value} {s : S} (h : SRel ρ A w v s) : SRel ρ' A' w' v (s.loseO inv) := by
  cases inv with
  | none =>
    cases s with
    | v x => exact V1Rel.lasts' H K rfl h
    | tup l => obtain ⟨vs, hv, h⟩ := h; exact ⟨vs, hv, h.imp fun _ _ h => V1Rel.lasts' H K rfl h⟩
  | some i =>
    match s, h with
    | .v (.c x), h => exact CRel.lasts H K h
    | .v (.ag l), ⟨cs, hv, h⟩ => exact ⟨cs, hv, h.mapR fun _ _ h => ⟨h.1, CRel.lasts H K h.2⟩⟩
    | .v (.cnd _ _ _), _ => trivial
    | .tup _, _ => trivial
end lasts

/-- a handle's block -/
def blk : Value → Option Nat
  | .pointer (some a) => some a.block
  | .slice (some a) _ (_ + 1) => some a.block
  | .map (some b) => some b
  | _ => none
/-- a block of a handle's: its own, or one of those that hang on it -/
def Bk (v : Value) (b : Nat) : Prop := match v with
  | .tuple vs => ∃ u ∈ vs.toList, blk u = some b
  | v => blk v = some b
def Reg.live : Reg → Bool
  | .box _ | .row _ _ | .rowt _ _ _ | .mapd _ | .mapr _ _ => true
  | _ => false
/-- blocks that are one's own -/
def Live (ρ : Hs) (hp : List Reg) (b : Nat) : Prop := ∃ (h : Nat) (r : Reg) (v : Value), hp[h]? = some r ∧ r.live = true ∧ ρ[h]? = some v ∧ Bk v b
def Av (X : Nat → Prop) (ρ : Hs) (hp : List Reg) (b : Nat) : Prop := X b ∨ Live ρ hp b
/-- a row of one's own, where it lies -/
def RowAt (A : Nat → Prop) (w : World) (u : Value) (sz : Nat) (L : List (List D)) : Prop := ∃ a c, u = .slice a L.length c ∧ L.length ≤ c ∧ 0 < sz ∧
  (c = 0 ∨ ∃ b off T vs, a = some ⟨b, off, none⟩ ∧ w.heap[b]? = some (.cells vs T (0, 0)) ∧ off + c * sz ≤ vs.size ∧ RdL A w b off sz L)
/-- an entry of a map, with a row of one's own, or moved away -/
def EntR (A : Nat → Prop) (w : World) (sz : Nat) (e : MapEntry) (u : Value) : Option (List (List D)) → Prop
  | none => blk u = none
  | some L => e.val = u ∧ RowAt A w u sz L
/-- a map's entries, each of them with a row of one's own, or moved away -/
inductive MapRows (A : Nat → Prop) (w : World) (sz : Nat) : List MapEntry → List Value → List (Int × Option (List (List D))) → Prop
  | nil : MapRows A w sz [] [] []
  | cons {e es u us k r M} : e.key = .int .i64 k → Flat u → EntR A w sz e u r → MapRows A w sz es us M → MapRows A w sz (e :: es) (u :: us) ((k, r) :: M)
/-- cells from a place on, as they are known -/
def TailAt (ρ : Hs) (A : Nat → Prop) (w : World) (b off : Nat) : List C → Prop
  | [] => True
  | c :: cs => (∃ u, w.cell? ⟨b, off, none⟩ = some u ∧ Flat u ∧ CRel ρ A w u c) ∧ TailAt ρ A w b (off + 1) cs
/-- what is remembered of a handle -/
def MRel (ρ : Hs) (A : Nat → Prop) (w : World) (v : Value) (c : C) : Prop := CRel ρ A w v c ∨ (∃ h, c = .own h ∧ ρ[h]? = some v) ∨ ∃ h u us us', c = .town h ∧ v = .tuple ⟨u :: us⟩ ∧ ρ[h]? = some (.tuple ⟨u :: us'⟩)
theorem MRel.own {ρ : Hs} {A : Nat → Prop} {w : World} {v : Value} {h : Nat} (H : MRel ρ A w v (.own h)) : ρ[h]? = some v := by
  rcases H with H | ⟨_, e, H⟩ | ⟨_, _, _, _, e, _⟩
  · exact H.1
  · cases e; exact H
  · cases e
def RegRel (ρ : Hs) (A : Nat → Prop) (w : World) (v : Value) : Reg → Prop
  | .box cs => ∃ b T vs, v = .pointer (some ⟨b, 0, none⟩) ∧ w.heap[b]? = some (.cells vs T (0, 0)) ∧ All2 (fun u c => Flat u ∧ CRel ρ A w u c) vs.toList cs
  | .row sz L => ∃ a c, v = .slice a L.length c ∧ L.length ≤ c ∧ 0 < sz ∧
      (c = 0 ∨ ∃ b off T vs, a = some ⟨b, off, none⟩ ∧ w.heap[b]? = some (.cells vs T (0, 0)) ∧ off + c * sz ≤ vs.size ∧ RdL A w b off sz L)
  | .rowt sz L cs => ∃ a c, v = .slice a (L.length + 1) c ∧ L.length + 1 ≤ c ∧ 0 < sz ∧ cs.length = sz ∧
      ∃ b off T vs, a = some ⟨b, off, none⟩ ∧ w.heap[b]? = some (.cells vs T (0, 0)) ∧ off + c * sz ≤ vs.size ∧ RdL A w b off sz L ∧ TailAt ρ A w b (off + L.length * sz) cs
  | .frz sz L => Rd A w v (.sl sz L)
  | .mem u c => MRel ρ A w u c
  | .mapd M => ∃ b es clock, (v = .map (some b) ∨ ∃ us, v = .tuple ⟨.map (some b) :: us⟩ ∧ ∀ u ∈ us, blk u = none) ∧ w.heap[b]? = some (.map es clock) ∧ All2 (fun (e : MapEntry) (p : Int × D) => e.key = .int .i64 p.1 ∧ Rd A w e.val p.2) es.toList M ∧ MapKept.Stamped es clock
  | .mapr sz M => ∃ b es clock us, v = .tuple ⟨.map (some b) :: us⟩ ∧ w.heap[b]? = some (.map es clock) ∧ MapRows A w sz es.toList us M ∧ MapKept.Stamped es clock ∧ (b :: us.filterMap blk).Nodup
  | .gone => True
theorem RowAt.block {A : Nat → Prop} {w : World} {u : Value} {sz : Nat} {L : List (List D)} (h : RowAt A w u sz L) {b : Nat} (hb : blk u = some b) : b < w.heap.size := by
  obtain ⟨a, c, rfl, _, _, h⟩ := h
  rcases h with rfl | ⟨b', off, T, vs, rfl, h, _⟩
  · cases a <;> simp [blk] at hb
  · cases c with
    | zero => simp [blk] at hb
    | succ c => simp only [blk, Option.some.injEq] at hb; subst hb; exact (Array.getElem?_eq_some_iff.1 h).1
theorem MapRows.sl_at {A : Nat → Prop} {w : World} {sz : Nat} {es : List MapEntry} {us : List Value} {M : List (Int × Option (List (List D)))} (H : MapRows A w sz es us M) : ∀ {i : Nat} {k : Int} {L : List (List D)} {u : Value}, M[i]? = some (k, some L) → us[i]? = some u → ∃ a c, u = .slice a L.length c := by
  induction H with
  | nil => intro i k L u h; simp at h
  | @cons e es u' us k r M hk hf hr _ ih =>
    intro i k L u h1 h2
    cases i with
    | zero =>
      simp at h1 h2
      obtain ⟨rfl, rfl⟩ := h1
      subst h2
      obtain ⟨a, c, e, _⟩ := hr.2
      exact ⟨a, c, e⟩
    | succ i => exact ih (by simpa using h1) (by simpa using h2)
theorem MapRows.block {A : Nat → Prop} {w : World} {sz : Nat} {es : List MapEntry} {us : List Value} {M : List (Int × Option (List (List D)))} (H : MapRows A w sz es us M) {u : Value} (hu : u ∈ us) {b : Nat} (hb : blk u = some b) : b < w.heap.size := by
  induction H with
  | nil => cases hu
  | @cons e es u' us k r M hk hf hr _ ih =>
    cases hu with
    | head =>
      cases r with
      | none => rw [show blk u = none from hr] at hb; cases hb
      | some L => exact hr.2.block hb
    | tail _ hu => exact ih hu
theorem RegRel.block {ρ : Hs} {A : Nat → Prop} {w : World} {v : Value} {r : Reg} (h : RegRel ρ A w v r) (hl : r.live = true) {b : Nat} (hb : Bk v b) : b < w.heap.size := by
  cases r <;> simp only [RegRel, Reg.live] at h hl
  case box =>
    obtain ⟨b', T, vs, rfl, h, _⟩ := h
    simp only [Bk, blk, Option.some.injEq] at hb; subst hb
    exact (Array.getElem?_eq_some_iff.1 h).1
  case row =>
    obtain ⟨a, c, rfl, _, _, h⟩ := h
    rcases h with rfl | ⟨b', off, T, vs, rfl, h, _⟩
    · cases a <;> simp [Bk, blk] at hb
    · cases c with
      | zero => simp [Bk, blk] at hb
      | succ c => simp only [Bk, blk, Option.some.injEq] at hb; subst hb; exact (Array.getElem?_eq_some_iff.1 h).1
  case rowt =>
    obtain ⟨a, c, rfl, hc, _, _, b', off, T, vs, rfl, h, _⟩ := h
    cases c with
    | zero => omega
    | succ c => simp only [Bk, blk, Option.some.injEq] at hb; subst hb; exact (Array.getElem?_eq_some_iff.1 h).1
  case mapd =>
    obtain ⟨b', es, clock, hv, h, _⟩ := h
    have : b = b' := by
      rcases hv with rfl | ⟨us, rfl, hu⟩
      · simp only [Bk, blk, Option.some.injEq] at hb; exact hb.symm
      · obtain ⟨u, hu', hb⟩ := hb
        simp only [List.mem_cons] at hu'
        rcases hu' with rfl | hu'
        · simp only [blk, Option.some.injEq] at hb; exact hb.symm
        · rw [hu u hu'] at hb; cases hb
    subst this
    exact (Array.getElem?_eq_some_iff.1 h).1
  case mapr sz M =>
    obtain ⟨b', es, clock, us, rfl, h, hM, _⟩ := h
    obtain ⟨u, hu, hb⟩ := hb
    simp only [List.mem_cons] at hu
    rcases hu with rfl | hu
    · simp only [blk, Option.some.injEq] at hb; subst hb
      exact (Array.getElem?_eq_some_iff.1 h).1
    · exact hM.block hu hb
  all_goals simp at hl

structure HpRel (X : Nat → Prop) (ρ : Hs) (hp : List Reg) (w : World) : Prop where
  len : ρ.length = hp.length
  reg : ∀ (h : Nat) (r : Reg) (v : Value), hp[h]? = some r → ρ[h]? = some v → RegRel ρ (Av X ρ hp) w v r
  dis : ∀ (h h' : Nat) (r r' : Reg) (v v' : Value) (b : Nat), hp[h]? = some r → hp[h']? = some r' → r.live = true → r'.live = true → ρ[h]? = some v → ρ[h']? = some v' → Bk v b → Bk v' b → h = h'
  fre : ∀ b, Live ρ hp b → ¬ X b
theorem HpRel.val {X : Nat → Prop} {ρ : Hs} {hp : List Reg} {w : World} (H : HpRel X ρ hp w) {h : Nat} {r : Reg} (hr : hp[h]? = some r) : ∃ v, ρ[h]? = some v ∧ RegRel ρ (Av X ρ hp) w v r := by
  have : h < ρ.length := by rw [H.len]; exact (List.getElem?_eq_some_iff.1 hr).1
  exact ⟨ρ[h], by simp [this], H.reg h r _ hr (by simp [this])⟩
theorem HpRel.lt {X : Nat → Prop} {ρ : Hs} {hp : List Reg} {w : World} (H : HpRel X ρ hp w) {b : Nat} (hb : Live ρ hp b) : b < w.heap.size := by
  obtain ⟨h, r, v, hr, hl, hv, hb⟩ := hb
  exact (H.reg h r v hr hv).block hl hb

/-- the streams are as they were -/
structure Str (w w' : World) : Prop where
  os : w'.os = w.os
  tape : w'.tape = w.tape
  output : w'.output = w.output
  drawn : w.drawn ≤ w'.drawn
theorem Str.refl (w : World) : Str w w := ⟨rfl, rfl, rfl, Nat.le_refl _⟩
theorem Str.trans {a b c : World} (h : Str a b) (k : Str b c) : Str a c := ⟨k.os.trans h.os, k.tape.trans h.tape, k.output.trans h.output, Nat.le_trans h.drawn k.drawn⟩
/-- One handle is touched: made, or written, or moved. -/
structure Touch (X : Nat → Prop) (ρ ρ' : Hs) (hp hp' : List Reg) (w w' : World) (ht : Nat) (rt : Reg) (vt : Value) (inv : Option Nat) : Prop where
  len' : ρ'.length = hp'.length
  oth : ∀ h : Nat, h ≠ ht → hp'[h]? = (hp[h]?).map (Reg.loseO inv) ∧ ρ'[h]? = ρ[h]?
  hpt : hp'[ht]? = some rt
  ρt : ρ'[ht]? = some vt
  grow : w.heap.size ≤ w'.heap.size
  inv0 : inv = none ∨ inv = some ht
  keep : inv = none → ht < hp.length → ρ[ht]? = some vt
  row : inv = some ht → ∀ v, ρ[ht]? = some v → Mov v vt
  fresh : rt.live = true → ∀ b, Bk vt b → w.heap.size ≤ b ∨ ∃ (r : Reg) (v : Value), hp[ht]? = some r ∧ r.live = true ∧ ρ[ht]? = some v ∧ Bk v b
  same : ∀ b, b < w.heap.size → w'.heap[b]? = w.heap[b]? ∨ ∃ (r : Reg) (v : Value), hp[ht]? = some r ∧ r.live = true ∧ ρ[ht]? = some v ∧ Bk v b
  xlt : ∀ b, X b → b < w.heap.size
  str : Str w w'
section touch
variable {X : Nat → Prop} {ρ ρ' : Hs} {hp hp' : List Reg} {w w' : World} {ht : Nat} {rt : Reg} {vt : Value} {inv : Option Nat}
theorem live_loseO (inv : Option Nat) (r : Reg) : (r.loseO inv).live = r.live := by cases inv <;> cases r <;> rfl
theorem Touch.live (T : Touch X ρ ρ' hp hp' w w' ht rt vt inv) {b : Nat} (h : Live ρ' hp' b) : w.heap.size ≤ b ∨ Live ρ hp b := by
  obtain ⟨h, r, v, hr, hl, hv, hb⟩ := h
  by_cases e : h = ht
  · subst e
    rw [T.hpt] at hr; rw [T.ρt] at hv
    cases hr; cases hv
    rcases T.fresh hl b hb with h | ⟨r, v, h1, h2, h3, h4⟩
    · exact .inl h
    · exact .inr ⟨h, r, v, h1, h2, h3, h4⟩
  · rw [(T.oth h e).1] at hr; rw [(T.oth h e).2] at hv
    obtain ⟨r0, h0, rfl⟩ := Option.map_eq_some_iff.1 hr
    exact .inr ⟨h, r0, v, h0, (live_loseO inv r0).symm.trans hl, hv, hb⟩
theorem Touch.lasts (T : Touch X ρ ρ' hp hp' w w' ht rt vt inv) : Lasts (Av X ρ hp) (Av X ρ' hp') w w' where
  grow := T.grow
  same := fun b hb hA => (T.same b hb).resolve_right fun ⟨r, v, h1, h2, h3, h4⟩ => hA (.inr ⟨ht, r, v, h1, h2, h3, h4⟩)
  less := fun b hb h => h.imp id fun h => (T.live h).resolve_left (by omega)
theorem Touch.keeps (T : Touch X ρ ρ' hp hp' w w' ht rt vt inv) (L : ρ.length = hp.length) : Keeps inv ρ ρ' where
  kept := fun h v hi hv => by
    by_cases e : h = ht
    · subst e
      rcases T.inv0 with h0 | h0
      · have := T.keep h0 (by rw [← L]; exact (List.getElem?_eq_some_iff.1 hv).1)
        rw [this] at hv; cases hv; exact T.ρt
      · exact absurd h0 hi
    · rw [(T.oth h e).2]; exact hv
  row := fun h v hi hv => by
    rcases T.inv0 with h0 | h0
    · rw [h0] at hi; cases hi
    · rw [h0] at hi; cases hi; exact ⟨vt, T.ρt, T.row h0 v hv⟩
theorem RdL.rows {A A' : Nat → Prop} {w w' : World} (H : Lasts A A' w w') {b : Nat} (hb : w'.heap[b]? = w.heap[b]?) : ∀ {off sz : Nat} {L : List (List D)}, RdL A w b off sz L → RdL A' w' b off sz L
  | _, _, [], _ => by simp only [RdL]
  | off, sz, e :: L, h => by
    simp only [RdL] at h ⊢
    refine ⟨h.1, ?_, RdL.rows H hb h.2.2⟩
    have key : ∀ (l : List D) (o : Nat), RdC A w b o l → RdC A' w' b o l := by
      intro l
      induction l with
      | nil => intros; simp only [RdC]
      | cons x l ih =>
        intro o h
        simp only [RdC] at h ⊢
        obtain ⟨⟨v, hv, hx⟩, h⟩ := h
        exact ⟨⟨v, (cell_same hb o).trans hv, hx.lasts H⟩, ih _ h⟩
    exact key e off h.2.1
theorem RowAt.lasts {A A' : Nat → Prop} {w w' : World} (H : Lasts A A' w w') {u : Value} {sz : Nat} {L : List (List D)} (hs : ∀ b, blk u = some b → w'.heap[b]? = w.heap[b]?) (h : RowAt A w u sz L) : RowAt A' w' u sz L := by
  obtain ⟨a, c, rfl, hc, hz, h⟩ := h
  refine ⟨a, c, rfl, hc, hz, ?_⟩
  cases c with
  | zero => exact .inl rfl
  | succ c =>
    rcases h with h | ⟨b, off, T, vs, rfl, hb, ho, h⟩
    · cases h
    · have hb' := hs b rfl
      exact .inr ⟨b, off, T, vs, rfl, hb'.trans hb, ho, RdL.rows H hb' h⟩
theorem MapRows.lasts {A A' : Nat → Prop} {w w' : World} (H : Lasts A A' w w') {sz : Nat} {es : List MapEntry} {us : List Value} {M : List (Int × Option (List (List D)))} (hs : ∀ u ∈ us, ∀ b, blk u = some b → w'.heap[b]? = w.heap[b]?) (h : MapRows A w sz es us M) : MapRows A' w' sz es us M := by
  induction h with
  | nil => exact .nil
  | @cons e es u us k r M hk hf hr _ ih =>
    refine .cons hk hf ?_ (ih fun u hu => hs u (List.mem_cons_of_mem _ hu))
    cases r with
    | none => exact hr
    | some L => exact ⟨hr.1, hr.2.lasts H (hs _ (List.mem_cons_self ..))⟩
theorem TailAt.lasts (H : Lasts (Av X ρ hp) (Av X ρ' hp') w w') (K : Keeps inv ρ ρ') {b : Nat} (hb : w'.heap[b]? = w.heap[b]?) : ∀ {cs : List C} {off : Nat}, TailAt ρ (Av X ρ hp) w b off cs → TailAt ρ' (Av X ρ' hp') w' b off (cs.map (C.loseO inv))
  | [], _, _ => trivial
  | c :: cs, off, h => by
    obtain ⟨⟨u, hu, hf, hr⟩, h⟩ := h
    exact ⟨⟨u, (cell_same hb off).trans hu, hf, hr.lasts H K⟩, TailAt.lasts H K hb h⟩
theorem RegRel.lasts (H : Lasts (Av X ρ hp) (Av X ρ' hp') w w') (K : Keeps inv ρ ρ') {v : Value} {r : Reg} (h : RegRel ρ (Av X ρ hp) w v r)
    (hs : r.live = true → ∀ b, Bk v b → w'.heap[b]? = w.heap[b]?) : RegRel ρ' (Av X ρ' hp') w' v (r.loseO inv) := by
  cases r with
  | box cs =>
    obtain ⟨b, T, vs, hv, hb, h⟩ := h
    have hb' : w'.heap[b]? = some (.cells vs T (0, 0)) := by rw [hs rfl b (by rw [hv]; rfl)]; exact hb
    cases inv with
    | none => exact ⟨b, T, vs, hv, hb', h.imp fun _ _ h => ⟨h.1, h.2.lasts' H K rfl⟩⟩
    | some i => exact ⟨b, T, vs, hv, hb', h.mapR fun _ _ h => ⟨h.1, h.2.lasts H K⟩⟩
  | row sz L =>
    have : Reg.loseO inv (.row sz L) = .row sz L := by cases inv <;> rfl
    rw [this]
    obtain ⟨a, c, hv, hc, hz, h⟩ := h
    refine ⟨a, c, hv, hc, hz, ?_⟩
    cases c with
    | zero => exact .inl rfl
    | succ c =>
      rcases h with h | ⟨b, off, T, vs, ha, hb, ho, h⟩
      · cases h
      · have hb' := hs rfl b (by rw [hv, ha]; rfl)
        exact .inr ⟨b, off, T, vs, ha, hb'.trans hb, ho, RdL.rows H hb' h⟩
  | rowt sz L cs =>
    have : Reg.loseO inv (.rowt sz L cs) = .rowt sz L (cs.map (C.loseO inv)) := by
      cases inv with
      | none => show Reg.rowt sz L cs = _; congr 1; exact (List.map_id cs).symm
      | some i => rfl
    rw [this]
    obtain ⟨a, c, hv, hc, hz, hcl, b, off, T, vs, ha, hb, ho, hL, ht⟩ := h
    have hb' := hs rfl b (by rw [hv, ha]; cases c with
      | zero => omega
      | succ c => rfl)
    exact ⟨a, c, hv, hc, hz, by rw [List.length_map]; exact hcl, b, off, T, vs, ha, hb'.trans hb, ho, RdL.rows H hb' hL, ht.lasts H K hb'⟩
  | frz sz L =>
    have : Reg.loseO inv (.frz sz L) = .frz sz L := by cases inv <;> rfl
    rw [this]; exact Rd.lasts H h
  | mem u c =>
    rcases h with h | ⟨x, rfl, h⟩ | ⟨x, u0, us, us', rfl, rfl, h⟩
    · cases inv with
      | none => exact .inl (CRel.lasts' H K rfl h)
      | some i => exact .inl (CRel.lasts H K h)
    · cases inv with
      | none => exact .inr (.inl ⟨x, rfl, K.kept x _ (by simp) h⟩)
      | some i =>
        show MRel _ _ _ _ (bif i == x then .junk else .own x)
        by_cases e : i = x
        · subst e; rw [beq_self_eq_true]; exact .inl trivial
        · rw [beq_eq_false_iff_ne.2 e]; exact .inr (.inl ⟨x, rfl, K.kept x _ (by simp [e]) h⟩)
    · have hx : ∃ us'', ρ'[x]? = some (.tuple ⟨u0 :: us''⟩) := by
        by_cases e : inv = some x
        · obtain ⟨v', h1, h2⟩ := K.row x _ e h
          obtain ⟨us'', rfl⟩ := h2.2 _ _ rfl
          exact ⟨us'', h1⟩
        · exact ⟨us', K.kept x _ e h⟩
      obtain ⟨us'', hx⟩ := hx
      have e : Reg.loseO inv (.mem (.tuple ⟨u0 :: us⟩) (.town x)) = .mem (.tuple ⟨u0 :: us⟩) (.town x) := by cases inv <;> rfl
      rw [e]
      exact .inr (.inr ⟨x, u0, us, us'', rfl, rfl, hx⟩)
  | mapd M =>
    have : Reg.loseO inv (.mapd M) = .mapd M := by cases inv <;> rfl
    rw [this]
    obtain ⟨b, es, clock, hv, hb, hM, hn⟩ := h
    refine ⟨b, es, clock, hv, (hs rfl b ?_).trans hb, hM.imp fun _ _ h => ⟨h.1, h.2.lasts H⟩, hn⟩
    rcases hv with rfl | ⟨us, rfl, _⟩
    · rfl
    · exact ⟨_, List.mem_cons_self .., rfl⟩
  | mapr sz M =>
    have : Reg.loseO inv (.mapr sz M) = .mapr sz M := by cases inv <;> rfl
    rw [this]
    obtain ⟨b, es, clock, us, rfl, hb, hM, hn, hd⟩ := h
    exact ⟨b, es, clock, us, rfl, (hs rfl b ⟨_, List.mem_cons_self .., rfl⟩).trans hb, hM.lasts H fun u hu b hb => hs rfl b ⟨u, List.mem_cons_of_mem _ hu, hb⟩, hn, hd⟩
  | gone =>
    have : Reg.loseO inv .gone = .gone := by cases inv <;> rfl
    rw [this]; trivial
theorem HpRel.touch (R : HpRel X ρ hp w) (T : Touch X ρ ρ' hp hp' w w' ht rt vt inv) (ht' : RegRel ρ' (Av X ρ' hp') w' vt rt) : HpRel X ρ' hp' w' where
  len := T.len'
  reg := fun h r v hr hv => by
    by_cases e : h = ht
    · subst e; rw [T.hpt] at hr; rw [T.ρt] at hv; cases hr; cases hv; exact ht'
    · rw [(T.oth h e).1] at hr; rw [(T.oth h e).2] at hv
      obtain ⟨r0, h0, rfl⟩ := Option.map_eq_some_iff.1 hr
      refine (R.reg h r0 v h0 hv).lasts T.lasts (T.keeps R.len) fun hl b hb => ?_
      refine (T.same b ((R.reg h r0 v h0 hv).block hl hb)).resolve_right ?_
      rintro ⟨r1, v1, h1, h2, h3, h4⟩
      exact e (R.dis h ht r0 r1 v v1 b h0 h1 hl h2 hv h3 hb h4)
  dis := by
    have key : ∀ (h : Nat) (r : Reg) (v : Value) (b : Nat), h ≠ ht → hp'[h]? = some r → r.live = true → ρ'[h]? = some v → Bk v b → rt.live = true → Bk vt b → False := by
      intro h r v b e hr hl hv hb hl' hb'
      rw [(T.oth h e).1] at hr; rw [(T.oth h e).2] at hv
      obtain ⟨r0, h0, rfl⟩ := Option.map_eq_some_iff.1 hr
      have hl0 := (live_loseO inv r0).symm.trans hl
      have hlt := (R.reg h r0 v h0 hv).block hl0 hb
      rcases T.fresh hl' b hb' with h' | ⟨r1, v1, h1, h2, h3, h4⟩
      · omega
      · exact e (R.dis h ht r0 r1 v v1 b h0 h1 hl0 h2 hv h3 hb h4)
    intro h h' r r' v v' b hr hr' hl hl' hv hv' hb hb'
    by_cases e : h = ht
    · by_cases e' : h' = ht
      · rw [e, e']
      · exfalso
        rw [e, T.hpt] at hr; rw [e, T.ρt] at hv; cases hr; cases hv
        exact key h' r' v' b e' hr' hl' hv' hb' hl hb
    · by_cases e' : h' = ht
      · exfalso
        rw [e', T.hpt] at hr'; rw [e', T.ρt] at hv'; cases hr'; cases hv'
        exact key h r v b e hr hl hv hb hl' hb'
      · rw [(T.oth h e).1] at hr; rw [(T.oth h e).2] at hv; rw [(T.oth h' e').1] at hr'; rw [(T.oth h' e').2] at hv'
        obtain ⟨r0, h0, rfl⟩ := Option.map_eq_some_iff.1 hr
        obtain ⟨r1, h1, rfl⟩ := Option.map_eq_some_iff.1 hr'
        exact R.dis h h' r0 r1 v v' b h0 h1 ((live_loseO inv r0).symm.trans hl) ((live_loseO inv r1).symm.trans hl') hv hv' hb hb'
  fre := fun b hb hX => by
    rcases T.live hb with h | h
    · have := T.xlt b hX; omega
    · exact R.fre b h hX
end touch
theorem findG_mem : ∀ {G : List (Nat × List D)} {g : Nat} {l : List D}, findG G g = some l → (g, l) ∈ G
  | (n, m) :: G, g, l, h => by
    unfold findG at h
    split at h
    · rename_i e
      have := Nat.eq_of_beq_eq_true e
      cases h; subst this
      exact List.mem_cons_self ..
    · exact List.mem_cons_of_mem _ (findG_mem h)
/-- the tables, where nothing of one's own lies -/
def GlA (A : Nat → Prop) (w : World) : Prop := ∀ g l, (g, l) ∈ globs → At A w g ∧ RdC A w g 0 l
/-- the tables, where a function begins -/
class GPc (X B0 : Nat → Prop) (w0 : World) : Prop where
  gl : ∀ g l, (g, l) ∈ globs → g < w0.heap.size ∧ ¬ X g ∧ ¬ B0 g ∧ RdC (fun _ => True) w0 g 0 l
def GP (X : Nat → Prop) (w : World) : Prop := GPc X (fun _ => False) w
def nsl : D → Bool
  | .sl _ _ => false
  | _ => true
theorem globs_ok : (globs.all fun x => x.2.all nsl) = true := rfl
theorem globs_flat {g : Nat} {l : List D} (h : (g, l) ∈ globs) : ∀ x ∈ l, ∀ sz L, x ≠ .sl sz L := by
  intro x hx sz L e
  have := List.all_eq_true.1 (List.all_eq_true.1 globs_ok _ h) x hx
  rw [e] at this
  cases this
/-- cells that hold no memory read alike, whatever is one's own -/
theorem RdC.any {A' : Nat → Prop} {w w' : World} {b : Nat} (hb : w'.heap[b]? = w.heap[b]?) : ∀ {l : List D} {off : Nat}, RdC (fun _ => True) w b off l → (∀ x ∈ l, ∀ sz L, x ≠ .sl sz L) → RdC A' w' b off l
  | [], _, _, _ => by simp only [RdC]
  | x :: l, off, h, hn => by
    simp only [RdC] at h ⊢
    obtain ⟨⟨v, hv, hx⟩, h⟩ := h
    refine ⟨⟨v, (cell_same hb off).trans hv, ?_⟩, RdC.any hb h fun y hy => hn y (List.mem_cons_of_mem _ hy)⟩
    cases x with
    | sl sz L => exact absurd rfl (hn _ (List.mem_cons_self ..) sz L)
    | _ => simpa only [Rd] using hx
end Go.Proofs.YtphmcgmblkbijaaVY
