/-
  VY: operations that only look: what the machine makes of them. By the session's own hand.
-/
import Derived.Test.YtphmcgmblkbijaaVy2
import Derived.Calls
import Derived.Laws.AppendOwn
import Derived.Laws.Small
import Derived.Laws.BitsLemmas
import Derived.IntWalk
set_option linter.unusedSectionVars false
set_option linter.unusedSimpArgs false
set_option linter.unusedVariables false
set_option linter.all false
set_option linter.unnecessarySimpa false
set_option linter.deprecated false
namespace Go.Proofs.YtphmcgmblkbijaaVY

def aggD : TypeDesc → Bool
  | .struct _ | .array _ _ => true
  | _ => false
/-- a cell's value, whatever the world -/
def ZRel (v : Value) (c : C) : Prop := Flat v ∧ ∀ ρ A w, CRel ρ A w v c
/-- how many cells a type has, and whether they are several -/
def Sized (P : Program) (t : TypeId) (n : Nat) (ag : Bool) : Prop := ∃ i d, P.info? t = some i ∧ i.size = n ∧ P.underlying t = some d ∧ aggD d = ag
def FieldOk (P : Program) (f : Field) (x : Nat × Nat × Bool) : Prop := f.offset = x.1 ∧ 0 < x.2.1 ∧ Sized P f.type x.2.1 x.2.2
def KindOk (P : Program) (d : TypeDesc) : TK → Prop
  | .sca none => True
  | .sca (some k) => d = .int k
  | .bool => d = .bool
  | .str => d = .string
  | .agg fs => ∃ fields, d = .struct fields ∧ All2 (FieldOk P) fields.toList fs
  | .arr len esz ea => ∃ e, d = .array len e ∧ Sized P e esz ea
  | .sl e esz eb ez => d = .slice e ∧ ∃ i z, P.info? e = some i ∧ i.size = esz ∧ i.bytes = eb ∧ i.zero = some z ∧ z.cells.size = esz ∧ All2 (fun v x => ∀ A w, Rd A w v x) z.cells.toList ez
  | .map ez => ∃ kt et, d = .map kt et ∧ P.underlying kt = some (.int .i64) ∧ ∃ i z, P.info? et = some i ∧ i.zero = some z ∧ ZRel z ez
  | .ptr => ∃ e, d = .pointer e
  | .oth => True
def TIok (P : Program) (t : TypeId) (T : TI) : Prop :=
  told T.kd = true → ∃ i d, P.info? t = some i ∧ i.size = T.size ∧ P.underlying t = some d ∧ aggD d = isAg T.kd ∧ KindOk P d T.kd ∧ ∃ z, i.zero = some z ∧ All2 ZRel z.cells.toList T.zero ∧ (isAg T.kd = false → z.cells = #[z])
def TyOk (P : Program) (Γ : TypeId → TI) : Prop := ∀ t, TIok P t (Γ t)

def GdOk (gd : Option (Bool × Bool)) : Prop := ∀ b w, gd = some (b, w) → b = w
theorem ob_ok {gd : Option (Bool × Bool)} (hg : GdOk gd) {p q : Prop} (h : ob gd p q) : p ∧ q := by
  unfold ob at h
  cases gd with
  | none => exact h
  | some x => exact ⟨h.1 (hg x.1 x.2 rfl), h.2⟩
theorem dead_ok {gd : Option (Bool × Bool)} (hg : GdOk gd) {p : Prop} (h : dead gd p) : False := by
  unfold dead at h
  cases gd with
  | none => exact h
  | some x =>
    have h1 := hg x.1 x.2 rfl
    have h2 := h.1
    rw [h1] at h2
    cases hx : x.2 <;> rw [hx] at h2 <;> cases h2
theorem tt_ok {b : Bool} {p : Prop} (h : tt b p) : b = true ∧ p := by
  cases b with
  | true => exact ⟨rfl, h⟩
  | false => exact h.elim
section lists
variable {α : Type}
theorem nthK_ok {l : List α} {n : Nat} {k : α → Prop} (h : nthK l n k) : ∃ a, l[n]? = some a ∧ k a := by
  induction l generalizing n with
  | nil => exact h.elim
  | cons a l ih => cases n with
    | zero => exact ⟨a, by simp, h⟩
    | succ n => simpa using ih h
theorem nthK_of {l : List α} {n : Nat} {a : α} {k : α → Prop} (hl : l[n]? = some a) (h : k a) : nthK l n k := by
  induction l generalizing n with
  | nil => simp at hl
  | cons b l ih => cases n with
    | zero => simp at hl; subst hl; exact h
    | succ n => exact ih (by simpa using hl)
theorem setK_ok {l : List α} {n : Nat} {x : α} {k : List α → Prop} (h : setK l n x k) : n < l.length ∧ k (l.set n x) := by
  induction l generalizing n k with
  | nil => exact h.elim
  | cons a l ih => cases n with
    | zero => exact ⟨by simp, h⟩
    | succ n => have := ih h; exact ⟨by simpa using this.1, this.2⟩
theorem takeK_ok {l : List α} {n : Nat} {k : List α → Prop} (h : takeK l n k) : n ≤ l.length ∧ k (l.take n) := by
  induction l generalizing n k with
  | nil => cases n with
    | zero => exact ⟨by simp, h⟩
    | succ n => exact h.elim
  | cons a l ih => cases n with
    | zero => exact ⟨by simp, h⟩
    | succ n => have := ih h; exact ⟨by simpa using this.1, this.2⟩
theorem dropK_ok {l : List α} {n : Nat} {k : List α → Prop} (h : dropK l n k) : n ≤ l.length ∧ k (l.drop n) := by
  induction l generalizing n with
  | nil => cases n with
    | zero => exact ⟨by simp, h⟩
    | succ n => exact h.elim
  | cons a l ih => cases n with
    | zero => exact ⟨by simp, h⟩
    | succ n => have := ih h; exact ⟨by simpa using this.1, this.2⟩
theorem appK_ok {l m : List α} {k : List α → Prop} (h : appK l m k) : k (l ++ m) := by
  induction l generalizing k with
  | nil => exact h
  | cons a l ih => exact ih h
theorem lenK_ok {l : List α} {n : Nat} {k : Nat → Prop} (h : lenK l n k) : k (n + l.length) := by
  induction l generalizing n with
  | nil => exact h
  | cons a l ih => have := ih h; rw [List.length_cons]; rwa [Nat.add_right_comm, Nat.add_assoc] at this
theorem putsK_ok {l : List α} {n : Nat} {xs : List α} {k : List α → Prop} (h : putsK l n xs k) : (xs = [] ∨ n + xs.length ≤ l.length) ∧ k (l.take n ++ xs ++ l.drop (n + xs.length)) := by
  induction l generalizing n xs k with
  | nil => cases xs with
    | nil => exact ⟨.inl rfl, by simpa [putsK] using h⟩
    | cons x xs => cases n <;> exact h.elim
  | cons a l ih => cases xs with
    | nil => exact ⟨.inl rfl, by cases n <;> simpa [putsK] using h⟩
    | cons x xs => cases n with
      | zero =>
        have := ih h
        refine ⟨.inr ?_, by simpa using this.2⟩
        rcases this.1 with e | e
        · subst e; simp
        · simp at e ⊢; omega
      | succ n =>
        have := ih h
        refine ⟨.inr ?_, ?_⟩
        · rcases this.1 with e | e
          · cases e
          · simp at e ⊢; omega
        · have h2 := this.2
          have e : n + 1 + (xs.length + 1) = n + (xs.length + 1) + 1 := by omega
          simpa [e] using h2
end lists
theorem dsK_ok {l : List D} {k : List C → Prop} (h : dsK l k) : k (l.map .d) := by
  induction l generalizing k with
  | nil => exact h
  | cons a l ih => exact ih h

section ops
variable {P : Program} {Γ : TypeId → TI} {ρ : Hs} {A : Nat → Prop} {w : World} {a : Act} {t : List S} {hp : List Reg} {gd : Option (Bool × Bool)}
variable (hT : TyOk P Γ) (ht : ∀ (i : Nat) (s : S), t[i]? = some s → SRel ρ A w (a.tmps.getD i undef) s) (hgl : GlA A w)
variable (hh : ∀ (h : Nat) (r : Reg), hp[h]? = some r → ∃ v, ρ[h]? = some v ∧ RegRel ρ A w v r) (hg : GdOk gd)

theorem ofV_ok (T : TI) (v : Value) : CRel ρ A w v (C.ofV T v) := by
  unfold C.ofV
  split
  · split
    · exact ⟨none, rfl⟩
    · trivial
  all_goals first | rfl | exact ⟨rfl, by simp [Flat]⟩ | trivial
theorem strip_ok (hg : GdOk gd) {s : S} {k : S → Prop} {v : Value} (h : strip gd s k) (hs : SRel ρ A w v s) : ∃ s', k s' ∧ SRel ρ A w v s' := by
  unfold strip at h
  split at h
  · rename_i b w' x
    split at h
    · rename_i b' w''
      exact ⟨_, h.2, show V1Rel ρ A w v x from hs.1 (h.1 (hg b' w'' rfl))⟩
    · exact ⟨_, h, hs⟩
  · exact ⟨_, h, hs⟩
include hT ht hgl hg in
theorem operand_ok {T : TypeId} {x : Operand} {k : S → Prop} (h : operand Γ T gd t x k) : ∃ s, k s ∧ SRel ρ A w (a.eval x) s := by
  cases x with
  | tmp i => obtain ⟨s, hs, h⟩ := nthK_ok h; exact strip_ok hg h (ht i s hs)
  | const v => exact ⟨_, h, show CRel ρ A w v (C.ofV (Γ T) v) from ofV_ok (Γ T) v⟩
  | func f => exact ⟨_, h, show CRel ρ A w _ (.fn f []) from ⟨#[], rfl, .nil⟩⟩
  | global g =>
    change (match findG globs g with
      | some l => k (.one (.pel l))
      | none => k .junk) at h
    split at h
    · rename_i l hl
      obtain ⟨h1, h2⟩ := hgl g l (findG_mem hl)
      exact ⟨_, h, show CRel ρ A w (a.eval (.global g)) (.pel l) from ⟨g, 0, rfl, h1, h2⟩⟩
    · exact ⟨_, h, show CRel ρ A w (a.eval (.global g)) .junk from trivial⟩
include hT ht hgl hg in
theorem operands_ok {xs : List Operand} : ∀ {Ts : List TypeId} {k : List S → Prop}, operands Γ gd t xs Ts k → ∃ ss, k ss ∧ All2 (SRel ρ A w) (xs.map a.eval) ss := by
  induction xs with
  | nil => intro Ts k h; cases Ts <;> exact ⟨[], h, .nil⟩
  | cons x xs ih =>
    intro Ts k h
    cases Ts with
    | nil =>
      obtain ⟨s, h, hs⟩ := operand_ok hT ht hgl hg h
      obtain ⟨ss, h, hss⟩ := ih h
      exact ⟨_, h, .cons hs hss⟩
    | cons T Ts =>
      obtain ⟨s, h, hs⟩ := operand_ok hT ht hgl hg h
      obtain ⟨ss, h, hss⟩ := ih h
      exact ⟨_, h, .cons hs hss⟩

/-- cells from a place on, and what is known of them -/
def CellsAt (ρ : Hs) (A : Nat → Prop) (w : World) (b off : Nat) (cs : List C) : Prop :=
  ∀ (j : Nat) (c : C), cs[j]? = some c → ∃ u, w.cell? ⟨b, off + j, none⟩ = some u ∧ Flat u ∧ CRel ρ A w u c
theorem CellsAt.drop {b off : Nat} {cs : List C} (h : CellsAt ρ A w b off cs) (n : Nat) : CellsAt ρ A w b (off + n) (cs.drop n) := by
  intro j c hc
  rw [List.getElem?_drop] at hc
  have := h _ c hc
  rwa [Nat.add_assoc]
theorem cellsAt_box {b off : Nat} {T : TypeId} {fr : Nat × Nat} {vs : Array Value} {cs : List C} (hb : w.heap[b]? = some (.cells vs T fr)) (h : All2 (fun u c => Flat u ∧ CRel ρ A w u c) vs.toList cs) :
    CellsAt ρ A w b off (cs.drop off) := by
  intro j c hc
  rw [List.getElem?_drop] at hc
  obtain ⟨u, hu, hf, hr⟩ := h.get' hc
  refine ⟨u, ?_, hf, hr⟩
  rw [cell_of_row w b (off + j) vs T fr hb]; simpa using hu
theorem cellsAt_ds {b off : Nat} {l : List D} (h : RdC A w b off l) : CellsAt ρ A w b off (l.map .d) := by
  induction l generalizing off with
  | nil => intro j c hc; simp at hc
  | cons x l ih =>
    simp only [RdC] at h
    obtain ⟨⟨u, hu, hx⟩, h⟩ := h
    intro j c hc
    cases j with
    | zero => simp at hc; subst hc; exact ⟨u, hu, hx.flat, hx⟩
    | succ j => simp at hc; have := ih h j c (by simpa using hc); rwa [Nat.add_assoc, Nat.add_comm 1 j] at this
theorem cellsAt_tail {b : Nat} : ∀ {cs : List C} {off : Nat}, TailAt ρ A w b off cs → CellsAt ρ A w b off cs
  | [], _, _, j, c, hc => by simp at hc
  | x :: cs, off, h, j, c, hc => by
    cases j with
    | zero => simp at hc; subst hc; exact h.1
    | succ j => have := cellsAt_tail h.2 j c (by simpa using hc); rwa [Nat.add_assoc, Nat.add_comm 1 j] at this
theorem run_isAgg {T : TypeId} {d : TypeDesc} (h : P.underlying T = some d) : (isAgg T).run P w = .ok (aggD d) w := by
  unfold isAgg
  rw [Sem.run_bind, run_underlying h w]
  cases d <;> rfl
theorem run_sizeOf {T : TypeId} {i : TypeInfo} (h : P.info? T = some i) : (sizeOf T).run P w = .ok i.size w := by simp [sizeOf, typeInfo, h]
theorem load_part {T : TypeId} {n : Nat} {ag : Bool} {b off : Nat} {cs : List C} {k : S → Prop} (hs : Sized P T n ag) (hc : CellsAt ρ A w b off cs) (h : partK ag n cs k) :
    ∃ v s, k s ∧ (loadVar T ⟨b, off, none⟩).run P w = .ok v w ∧ SRel ρ A w v s := by
  obtain ⟨i, d, hi, hn, hd, ha⟩ := hs
  subst hn
  cases ag with
  | true =>
    replace h := takeK_ok h
    obtain ⟨hl, h⟩ := h
    have : ∃ us : List Value, us.length = i.size ∧ All2 (fun u c => Flat u ∧ CRel ρ A w u c) us (cs.take i.size) ∧ ∀ (j : Nat) (u : Value), us[j]? = some u → w.cell? ⟨b, off + j, none⟩ = some u := by
      refine ⟨(List.range i.size).map fun j => (w.cell? ⟨b, off + j, none⟩).getD undef, by simp, ?_, ?_⟩
      · refine All2.of_get (by simp; omega) fun j u c hu hcj => ?_
        obtain ⟨hj, hu⟩ : j < i.size ∧ (w.cell? ⟨b, off + j, none⟩).getD undef = u := by
          rw [List.getElem?_map, Option.map_eq_some_iff] at hu
          obtain ⟨x, hx, rfl⟩ := hu
          have := List.getElem?_range (n := i.size) (i := x)
          rw [List.getElem?_eq_some_iff] at hx
          obtain ⟨hx, rfl⟩ := hx
          simp at hx ⊢; exact hx
        rw [List.getElem?_take, if_pos hj] at hcj
        obtain ⟨u', hu', hf, hr⟩ := hc j c hcj
        rw [hu'] at hu; simp at hu; subst hu; exact ⟨hf, hr⟩
      · intro j u hu
        rw [List.getElem?_map, Option.map_eq_some_iff] at hu
        obtain ⟨x, hx, rfl⟩ := hu
        rw [List.getElem?_eq_some_iff] at hx
        obtain ⟨hx, rfl⟩ := hx
        simp at hx
        obtain ⟨c, hcj⟩ : ∃ c, cs[j]? = some c := ⟨cs[j]'(by omega), by simp [show j < cs.length by omega]⟩
        obtain ⟨u', hu', _⟩ := hc j c hcj
        simp [hu']
    obtain ⟨us, hlen, hall, hcell⟩ := this
    have hl' : (loadCells ⟨b, off, none⟩ us.length).run P w = .ok us.toArray w :=
      run_loadCells_list (P := P) w ⟨b, off, none⟩ us fun j v hv => by rw [Addr.add_lit]; exact hcell j v hv
    refine ⟨.agg us.toArray, _, h, ?_, show V1Rel ρ A w _ (.ag _) from ⟨us.toArray, rfl, by simpa using hall⟩⟩
    rw [hlen] at hl'
    simp [loadVar, run_isAgg hd, ha, run_sizeOf hi, hl']
  | false =>
    cases cs with
    | nil => exact h.elim
    | cons c cs =>
      obtain ⟨u, hu, _, hr⟩ := hc 0 c (by simp)
      refine ⟨u, _, h, ?_, show CRel ρ A w u c from hr⟩
      rw [Nat.add_zero] at hu
      simp [loadVar, run_isAgg hd, ha, hu]
theorem sized (hT : TyOk P Γ) {T : TypeId} (h : told (Γ T).kd = true) : Sized P T (Γ T).size (isAg (Γ T).kd) := by
  obtain ⟨i, d, h1, h2, h3, h4, _⟩ := hT T h
  exact ⟨i, d, h1, h2, h3, h4⟩
theorem RdL.get {b off sz : Nat} {L : List (List D)} (h : RdL A w b off sz L) {i : Nat} {e : List D} (he : L[i]? = some e) : e.length = sz ∧ RdC A w b (off + i * sz) e := by
  induction L generalizing i off with
  | nil => simp at he
  | cons x L ih =>
    simp only [RdL] at h
    cases i with
    | zero => simp at he; subst he; simpa using ⟨h.1, h.2.1⟩
    | succ i =>
      simp at he
      have := ih h.2.2 he
      rwa [Nat.add_assoc, show sz + i * sz = (i + 1) * sz by rw [Nat.add_mul]; omega] at this
theorem RdC.drop {b off : Nat} {l : List D} (h : RdC A w b off l) (n : Nat) : RdC A w b (off + n) (l.drop n) := by
  induction l generalizing off n with
  | nil => simp [RdC]
  | cons x l ih =>
    cases n with
    | zero => simpa using h
    | succ n =>
      simp only [RdC] at h
      have := ih h.2 n
      simpa [Nat.add_assoc, Nat.add_comm 1 n] using this
include hh in
theorem row_at {hd sz : Nat} {L : List (List D)} (hr : hp[hd]? = some (.row sz L)) {i : Nat} {e : List D} (he : L[i]? = some e) :
    ∃ b off c T vs, ρ[hd]? = some (.slice (some ⟨b, off, none⟩) L.length c) ∧ L.length ≤ c ∧ w.heap[b]? = some (.cells vs T (0, 0)) ∧ off + c * sz ≤ vs.size ∧ RdL A w b off sz L := by
  obtain ⟨v, hv, a', c, rfl, hc, hz, h⟩ := hh hd _ hr
  have : i < L.length := (List.getElem?_eq_some_iff.1 he).1
  rcases h with h | ⟨b, off, T, vs, rfl, hb, hs, h⟩
  · omega
  · exact ⟨b, off, c, T, vs, hv, hc, hb, hs, h⟩
include hT hh hg in
theorem loadK_ok {T : TypeId} {x : Value} {s : S} {k : S → Prop} (hs : SRel ρ A w x s) (h : loadK gd (Γ T) hp s k) :
    ∃ v s', k s' ∧ (Instr.loadAt T x).run P w = .ok v w ∧ SRel ρ A w v s' := by
  unfold loadK at h
  replace h := tt_ok h
  obtain ⟨hk, h⟩ := h
  have hz := sized hT hk
  split at h
  · rename_i hd off
    replace h := nthK_ok h
    obtain ⟨r, hr, h⟩ := h
    split at h
    · rename_i cs
      replace h := dropK_ok h
      obtain ⟨hl, h⟩ := h
      obtain ⟨v, hv, b, T', vs, rfl, hb, hall⟩ := hh _ _ hr
      obtain ⟨b', hb', rfl⟩ := hs
      rw [hv] at hb'; cases hb'
      obtain ⟨v, s', hk, hrun, hrel⟩ := load_part hz (cellsAt_box hb hall) h
      exact ⟨v, s', hk, by simpa [Instr.loadAt, Instr.sureAddr] using hrun, hrel⟩
    · exact h.elim
  · rename_i l
    obtain ⟨b, off, rfl, hA, hl⟩ := hs
    obtain ⟨v, s', hk, hrun, hrel⟩ := load_part (ρ := ρ) hz (cellsAt_ds hl) (dsK_ok h)
    exact ⟨v, s', hk, by simpa [Instr.loadAt, Instr.sureAddr] using hrun, hrel⟩
  · rename_i hd sz i j
    replace h := nthK_ok h
    obtain ⟨r, hr, h⟩ := h
    split at h
    · rename_i sz' L
      replace h := tt_ok h
      obtain ⟨hq, h⟩ := h
      obtain rfl := Nat.eq_of_beq_eq_true hq
      obtain ⟨e, h⟩ := h
      replace h := ob_ok hg h
      obtain ⟨he, h⟩ := h
      replace h := dropK_ok h
      obtain ⟨hl, h⟩ := h
      obtain ⟨b, off, c, T', vs, hv, _, hb, _, hL⟩ := row_at hh hr he
      obtain ⟨b', off', l', c', hb', rfl⟩ := hs
      rw [hv] at hb'; cases hb'
      obtain ⟨_, hC⟩ := hL.get he
      obtain ⟨v, s', hk, hrun, hrel⟩ := load_part (ρ := ρ) hz (cellsAt_ds (hC.drop j)) (dsK_ok h)
      exact ⟨v, s', hk, by simpa [Instr.loadAt, Instr.sureAddr] using hrun, hrel⟩
    · rename_i sz' L cs
      replace h := tt_ok h
      obtain ⟨hq, h⟩ := h
      obtain rfl := Nat.eq_of_beq_eq_true hq
      replace h := ob_ok hg h
      obtain ⟨rfl, h⟩ := h
      replace h := dropK_ok h
      obtain ⟨hl, h⟩ := h
      obtain ⟨v, hv, a', c, rfl, _, _, _, b, off, T', vs, rfl, hb, _, _, hC⟩ := hh _ _ hr
      obtain ⟨b', off', l', c', hb', rfl⟩ := hs
      rw [hv] at hb'; cases hb'
      obtain ⟨v, s', hk, hrun, hrel⟩ := load_part (ρ := ρ) hz ((cellsAt_tail hC).drop j) h
      exact ⟨v, s', hk, by simpa [Instr.loadAt, Instr.sureAddr] using hrun, hrel⟩
    · exact h.elim
  · exact (dead_ok hg h).elim
  · exact h.elim

theorem wrap_i64_in {n : Int} (h : -9223372036854775808 ≤ n ∧ n ≤ 9223372036854775807) : IntKind.i64.wrap n = n := by
  rw [IntKind.wrap_i64]; omega
include hg in
theorem sumK_ok {nw : Bool} {k : IntKind} {n : Int} {c : S → Prop} (h : sumK nw gd k n c) : ∃ s, c s ∧ SRel ρ A w (.int k (k.wrap n)) s := by
  unfold sumK at h
  split at h
  · replace h := ob_ok hg h
    refine ⟨_, h.2, ?_⟩
    show Rd A w _ (.int .i64 n)
    rw [wrap_i64_in h.1]; simp only [Rd]
  · exact ⟨_, h, by rw [IntWalk.i64_left]; show Rd A w _ (.int .i64 _); simp only [Rd]⟩
  · exact ⟨_, h, show Rd A w _ (.int k _) by simp only [Rd]⟩
theorem sdi (k : IntKind) (n : Int) : SRel ρ A w (.int k n) (.di k n) := show Rd A w _ (.int k n) by simp only [Rd]
theorem sdb (b : Bool) : SRel ρ A w (.bool b) (.db b) := show Rd A w _ (.bool b) by simp only [Rd]
theorem sdi_inv {v : Value} {k : IntKind} {n : Int} (h : SRel ρ A w v (.di k n)) : v = .int k n := by
  have : Rd A w v (.int k n) := h
  simpa only [Rd] using this
theorem sdb_inv {v : Value} {b : Bool} (h : SRel ρ A w v (.db b)) : v = .bool b := by
  have : Rd A w v (.bool b) := h
  simpa only [Rd] using this
theorem sstr_inv {v : Value} {b : ByteArray} (h : SRel ρ A w v (.one (.d (.str b)))) : v = .string b := by
  have : Rd A w v (.str b) := h
  simpa only [Rd] using this
theorem sameK_ok {k k' : IntKind} (h : sameK k k' = true) : k = k' := by cases k <;> cases k' <;> first | rfl | (simp [sameK] at h)
theorem sptr_inv {v : Value} (h : SRel ρ A w v (.one (.d (.val (.pointer none))))) : v = .pointer none := by
  have : Rd A w v (.val (.pointer none)) := h
  simp only [Rd] at this
  exact this.1
include hT in
theorem nilB_ok {T : TypeId} {op : BinOp} {x y : Operand} {va vb : Value} {b : Bool} {k : S → Prop} (ha : (b = true ∧ va = .pointer none) ∨ (b = false ∧ ∃ a, va = .pointer (some a))) (hb : vb = .pointer none) (h : nilB (Γ T) b op k) :
    ∃ v r, k r ∧ (do eqGuard op T x y va vb; binOp op T va vb : Sem Value).run P w = .ok v w ∧ SRel ρ A w v r := by
  subst hb
  have hpt : ∀ (e : TypeId) (a : Option Addr) (d : Nat), P.underlying T = some (.pointer e) → (Op.equalIn (d + 1) T (.pointer a) (.pointer none)).run P w = .ok a.isNone w := fun e a d hd => by
    cases a <;> simp [Op.equalIn, run_underlying hd]
  have hrun : (Γ T).kd = .ptr → (Op.equal T va (.pointer none)).run P w = .ok b w := by
    intro hk
    obtain ⟨i, d, _, _, hd, _, hkd, _⟩ := hT T (by rw [hk]; rfl)
    rw [hk] at hkd
    obtain ⟨e, rfl⟩ : ∃ e, d = .pointer e := hkd
    rcases ha with ⟨rfl, rfl⟩ | ⟨rfl, a, rfl⟩
    · exact hpt e none 9999 hd
    · exact hpt e (some a) 9999 hd
  have hg' : ∀ op, eqGuard op T x y va (.pointer none) = pure () := by
    intro op
    rcases ha with ⟨_, rfl⟩ | ⟨_, a, rfl⟩ <;> exact eqGuard_at_pointer _ _ _ _ _ _
  unfold nilB at h
  split at h
  · rename_i hk
    refine ⟨_, _, h, ?_, sdb _⟩
    rw [hg']
    rcases ha with ⟨rfl, rfl⟩ | ⟨rfl, a, rfl⟩ <;> simp [binOp, hrun hk]
  · rename_i hk
    refine ⟨_, _, h, ?_, sdb _⟩
    rw [hg']
    rcases ha with ⟨rfl, rfl⟩ | ⟨rfl, a, rfl⟩ <;> simp [binOp, hrun hk]
  · exact h.elim
include hT hg in
theorem bin_ok {T : TypeId} {op : BinOp} {x y : Operand} {va vb : Value} {nw : Bool} {s s' : S} {k : S → Prop} (ha : SRel ρ A w va s) (hb : SRel ρ A w vb s') (h : bin nw (Γ T) gd op s s' k) :
    ∃ v r, k r ∧ (do eqGuard op T x y va vb; binOp op T va vb : Sem Value).run P w = .ok v w ∧ SRel ρ A w v r := by
  unfold bin at h
  split at h
  · rename_i ka x ka' y
    obtain rfl := sdi_inv ha
    obtain rfl := sdi_inv hb
    split at h
    · exact h.elim
    · rename_i hq
      rw [eqGuard_at_int]
      by_cases hs : isShift op = true
      · unfold binI at h
        cases op <;> simp only [isShift] at hs <;> first | (simp at hs; done) | skip
        all_goals (replace h := ob_ok hg h; obtain ⟨hy, h⟩ := h)
        · refine ⟨_, _, h, ?_, sdi _ _⟩
          simp [binOp, Op.shift, show ¬ y < 0 by omega]
        · refine ⟨_, _, h, ?_, sdi _ _⟩
          have hp : (0 : Int) ≤ 2 ^ min y.toNat ka.bits := Int.pow_nonneg (by decide)
          simp [binOp, Op.shift, show ¬ y < 0 by omega, Int.fdiv_eq_ediv_of_nonneg _ hp]
      · have hs' : isShift op = false := by simpa using hs
        rw [hs', Bool.false_or] at hq
        obtain rfl := sameK_ok hq
        unfold binI at h
        cases op <;> first | (simp [isShift] at hs'; done) | skip
        case add => obtain ⟨r, h, hr⟩ := sumK_ok (w := w) (ρ := ρ) (A := A) hg h; exact ⟨_, r, h, by simp [binOp, Op.intArith], hr⟩
        case sub => obtain ⟨r, h, hr⟩ := sumK_ok (w := w) (ρ := ρ) (A := A) hg h; exact ⟨_, r, h, by simp [binOp, Op.intArith], hr⟩
        case mul => obtain ⟨r, h, hr⟩ := sumK_ok (w := w) (ρ := ρ) (A := A) hg h; exact ⟨_, r, h, by simp [binOp, Op.intArith], hr⟩
        case quo =>
          replace h := ob_ok hg h
          obtain ⟨hy, h⟩ := h
          obtain ⟨r, h, hr⟩ := sumK_ok (w := w) (ρ := ρ) (A := A) hg h; exact ⟨_, r, h, by simp [binOp, Op.intDiv, hy], hr⟩
        case rem =>
          replace h := ob_ok hg h
          obtain ⟨hy, h⟩ := h
          exact ⟨_, _, h, by simp [binOp, Op.intDiv, hy], sdi _ _⟩
        case and => exact ⟨_, _, h, by simp [binOp, intBits_and], sdi _ _⟩
        case or => exact ⟨_, _, h, by simp [binOp, intBits_or], sdi _ _⟩
        case xor => exact ⟨_, _, h, by simp [binOp, intBits_xor], sdi _ _⟩
        case andNot => exact ⟨_, _, h, by simp [binOp, intBits_andNot], sdi _ _⟩
        all_goals exact ⟨_, _, h, by simp [binOp, Op.intCmp], sdb _⟩
  · rename_i x y
    obtain rfl := sdb_inv ha
    obtain rfl := sdb_inv hb
    rw [eqGuard_at_bool]
    split at h
    · rename_i hk
      obtain ⟨i, d, _, _, hd, _, hkd, _⟩ := hT T (by rw [hk]; rfl)
      rw [hk] at hkd
      have hkd : d = .bool := hkd
      subst hkd
      exact ⟨_, _, h, by simp [binOp, run_equal_bool w T x y hd], sdb _⟩
    · rename_i hk
      obtain ⟨i, d, _, _, hd, _, hkd, _⟩ := hT T (by rw [hk]; rfl)
      rw [hk] at hkd
      have hkd : d = .bool := hkd
      subst hkd
      exact ⟨_, _, h, by simp [binOp, run_equal_bool w T x y hd], sdb _⟩
    · exact h.elim
  · rename_i x y
    obtain rfl := sstr_inv ha
    obtain rfl := sstr_inv hb
    rw [eqGuard_at_string]
    split at h
    · exact ⟨_, _, h, by simp [binOp, Op.stringOp], sdb _⟩
    · exact ⟨_, _, h, by simp [binOp, Op.stringOp], sdb _⟩
    · exact h.elim
  · obtain ⟨b, _, rfl⟩ := ha
    exact nilB_ok hT (.inr ⟨rfl, _, rfl⟩) (sptr_inv hb) h
  · obtain ⟨b, off, rfl, _⟩ := ha
    exact nilB_ok hT (.inr ⟨rfl, _, rfl⟩) (sptr_inv hb) h
  · exact nilB_ok hT (.inl ⟨rfl, sptr_inv ha⟩) (sptr_inv hb) h
  · exact (dead_ok hg h).elim
  · exact (dead_ok hg h).elim
  · exact h.elim
include hg in
theorem un_ok {op : UnOp} {va : Value} {nw : Bool} {s : S} {k : S → Prop} (ha : SRel ρ A w va s) (h : un nw gd op s k) :
    ∃ v r, k r ∧ (Op.unary op va).run P w = .ok v w ∧ SRel ρ A w v r := by
  unfold un at h
  split at h
  · exact (dead_ok hg h).elim
  · obtain rfl := sdi_inv ha
    obtain ⟨r, h, hr⟩ := sumK_ok (w := w) (ρ := ρ) (A := A) hg h
    exact ⟨_, r, h, by simp [Op.unary, Op.intArith], hr⟩
  · obtain rfl := sdb_inv ha
    exact ⟨_, _, h, by simp [Op.unary], sdb _⟩
  · exact h.elim
end ops
end Go.Proofs.YtphmcgmblkbijaaVY
