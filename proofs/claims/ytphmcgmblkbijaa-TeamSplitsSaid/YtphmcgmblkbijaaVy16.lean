/-
  VY: tables of types and of contracts, looked through once. By the session's own hand.
-/
import Derived.Test.YtphmcgmblkbijaaVy15
set_option linter.unusedSectionVars false
set_option linter.unusedVariables false
set_option linter.unusedSimpArgs false
set_option linter.all false
set_option linter.unnecessarySimpa false
set_option linter.deprecated false
namespace Go.Proofs.YtphmcgmblkbijaaVY

def flatB : Value → Bool
  | .agg _ => false
  | .tuple _ => false
  | _ => true
theorem flatB_ok {v : Value} (h : flatB v = true) : Flat v := by
  cases v <;> first | (exfalso; simp [flatB] at h; done) | exact ⟨by simp, by simp⟩
def eqB (s s' : ByteArray) : Bool := s.data.toList == s'.data.toList
theorem eqB_ok {s s' : ByteArray} (h : eqB s s' = true) : s = s' := by
  have : s.data.toList = s'.data.toList := by simpa [eqB] using h
  obtain ⟨⟨l⟩⟩ := s
  obtain ⟨⟨l'⟩⟩ := s'
  simp only at this
  rw [this]
/-- a zero of one cell, as it is known -/
def zOk : Value → C → Bool
  | .int k n, .d (.int k' n') => sameK k k' && (n == n')
  | .bool b, .d (.bool b') => b == b'
  | .string s, .d (.str s') => eqB s s'
  | .slice none 0 0, .emp _ => true
  | .slice none 0 0, .d (.sl _ []) => true
  | .pointer none, .d (.val (.pointer none)) => true
  | .nilFunc, .d (.val .nilFunc) => true
  | .nilIface, .d (.val .nilIface) => true
  | v, .junk => flatB v
  | _, _ => false
theorem zOk_ok {v : Value} {c : C} (h : zOk v c = true) : ZRel v c := by
  unfold zOk at h
  split at h
  · simp only [Bool.and_eq_true, beq_iff_eq] at h
    have e := sameK_ok h.1
    refine ⟨⟨by simp, by simp⟩, fun ρ A w => ?_⟩
    show Rd A w _ _
    simp only [Rd]; rw [e, h.2]
  · simp only [beq_iff_eq] at h
    refine ⟨⟨by simp, by simp⟩, fun ρ A w => ?_⟩
    show Rd A w _ _
    simp only [Rd]; rw [h]
  · have h := eqB_ok h
    refine ⟨⟨by simp, by simp⟩, fun ρ A w => ?_⟩
    show Rd A w _ _
    simp only [Rd]; rw [h]
  · exact ⟨⟨by simp, by simp⟩, fun ρ A w => ⟨_, rfl⟩⟩
  · refine ⟨⟨by simp, by simp⟩, fun ρ A w => ?_⟩
    show Rd A w _ _
    simp only [Rd]
    exact ⟨none, 0, rfl, Nat.le_refl _, .inl trivial⟩
  · refine ⟨⟨by simp, by simp⟩, fun ρ A w => ?_⟩
    show Rd A w _ _
    simp only [Rd]; exact ⟨trivial, by simp, by simp⟩
  · refine ⟨⟨by simp, by simp⟩, fun ρ A w => ?_⟩
    show Rd A w _ _
    simp only [Rd]; exact ⟨trivial, by simp, by simp⟩
  · refine ⟨⟨by simp, by simp⟩, fun ρ A w => ?_⟩
    show Rd A w _ _
    simp only [Rd]; exact ⟨trivial, by simp, by simp⟩
  · exact ⟨flatB_ok h, fun ρ A w => trivial⟩
  · cases h
def zsOk : List Value → List C → Bool
  | [], [] => true
  | v :: vs, c :: cs => zOk v c && zsOk vs cs
  | _, _ => false
theorem zsOk_ok : ∀ {vs : List Value} {cs : List C}, zsOk vs cs = true → All2 ZRel vs cs
  | [], [], _ => .nil
  | v :: vs, c :: cs, h => by
    simp only [zsOk, Bool.and_eq_true] at h
    exact .cons (zOk_ok h.1) (zsOk_ok h.2)
  | [], _ :: _, h => by cases h
  | _ :: _, [], h => by cases h
def sizedB (P : Program) (t : TypeId) (n : Nat) (ag : Bool) : Bool := match P.info? t, P.underlying t with
  | some i, some d => Nat.beq i.size n && (aggD d == ag)
  | _, _ => false
theorem sizedB_ok {P : Program} {t : TypeId} {n : Nat} {ag : Bool} (h : sizedB P t n ag = true) : Sized P t n ag := by
  unfold sizedB at h
  split at h
  · rename_i i d h1 h2
    simp only [Bool.and_eq_true, Nat.beq_eq, beq_iff_eq] at h
    exact ⟨i, d, h1, h.1, h2, h.2⟩
  · cases h
def fieldsB (P : Program) : List Field → List (Nat × Nat × Bool) → Bool
  | [], [] => true
  | f :: fs, x :: xs => Nat.beq f.offset x.1 && Nat.ble 1 x.2.1 && sizedB P f.type x.2.1 x.2.2 && fieldsB P fs xs
  | _, _ => false
theorem fieldsB_ok {P : Program} : ∀ {fs : List Field} {xs : List (Nat × Nat × Bool)}, fieldsB P fs xs = true → All2 (FieldOk P) fs xs
  | [], [], _ => .nil
  | f :: fs, x :: xs, h => by
    simp only [fieldsB, Bool.and_eq_true, Nat.beq_eq] at h
    exact .cons ⟨h.1.1.1, Nat.le_of_ble_eq_true h.1.1.2, sizedB_ok h.1.2⟩ (fieldsB_ok h.2)
  | [], _ :: _, h => by cases h
  | _ :: _, [], h => by cases h
def dsOk : List Value → List D → Bool
  | [], [] => true
  | v :: vs, x :: xs => zOk v (.d x) && dsOk vs xs
  | _, _ => false
theorem dsOk_ok : ∀ {vs : List Value} {xs : List D}, dsOk vs xs = true → All2 (fun v x => ∀ A w, Rd A w v x) vs xs
  | [], [], _ => .nil
  | v :: vs, c :: cs, h => by
    simp only [dsOk, Bool.and_eq_true] at h
    exact .cons (fun A w => (zOk_ok h.1).2 [] A w) (dsOk_ok h.2)
  | [], _ :: _, h => by cases h
  | _ :: _, [], h => by cases h
def kindB (P : Program) (d : TypeDesc) : TK → Bool
  | .sca none => true
  | .sca (some k) => match d with
    | .int k' => sameK k' k
    | _ => false
  | .bool => match d with
    | .bool => true
    | _ => false
  | .str => match d with
    | .string => true
    | _ => false
  | .agg fs => match d with
    | .struct fields => fieldsB P fields.toList fs
    | _ => false
  | .arr len esz ea => match d with
    | .array n e => Nat.beq n len && sizedB P e esz ea
    | _ => false
  | .sl e esz eb ez => match d with
    | .slice e' => Nat.beq e' e && match P.info? e with
      | some i => Nat.beq i.size esz && Nat.beq i.bytes eb && match i.zero with
        | some z => Nat.beq z.cells.size esz && dsOk z.cells.toList ez
        | none => false
      | none => false
    | _ => false
  | .map ez => match d with
    | .map kt et => match P.underlying kt, P.info? et with
      | some (.int .i64), some i => match i.zero with
        | some z => zOk z ez
        | none => false
      | _, _ => false
    | _ => false
  | .ptr => match d with
    | .pointer _ => true
    | _ => false
  | .oth => true
theorem kindB_ok {P : Program} {d : TypeDesc} {K : TK} (h : kindB P d K = true) : KindOk P d K := by
  cases K with
  | sca k => cases k with
    | none => trivial
    | some k =>
      simp only [kindB] at h
      split at h
      · rw [sameK_ok h]; rfl
      · cases h
  | bool => simp only [kindB] at h; split at h <;> first | rfl | cases h
  | str => simp only [kindB] at h; split at h <;> first | rfl | cases h
  | agg fs =>
    simp only [kindB] at h
    split at h
    · exact ⟨_, rfl, fieldsB_ok h⟩
    · cases h
  | arr len esz ea =>
    simp only [kindB] at h
    split at h
    · simp only [Bool.and_eq_true, Nat.beq_eq] at h
      obtain ⟨rfl, h⟩ := h
      exact ⟨_, rfl, sizedB_ok h⟩
    · cases h
  | sl e esz eb ez =>
    simp only [kindB] at h
    split at h
    · simp only [Bool.and_eq_true, Nat.beq_eq] at h
      obtain ⟨rfl, h⟩ := h
      split at h
      · rename_i i hi
        simp only [Bool.and_eq_true, Nat.beq_eq] at h
        obtain ⟨⟨h1, h2⟩, h⟩ := h
        split at h
        · rename_i z hz
          simp only [Bool.and_eq_true, Nat.beq_eq] at h
          exact ⟨rfl, i, z, hi, h1, h2, hz, h.1, dsOk_ok h.2⟩
        · cases h
      · cases h
    · cases h
  | map ez =>
    simp only [kindB] at h
    split at h
    · split at h
      · rename_i kt et _ _ i hk hi
        split at h
        · rename_i z hz
          exact ⟨kt, et, rfl, hk, i, z, hi, hz, zOk_ok h⟩
        · cases h
      · cases h
    · cases h
  | ptr =>
    simp only [kindB] at h
    split at h
    · exact ⟨_, rfl⟩
    · cases h
  | oth => trivial
def chkTI (P : Program) (t : TypeId) (T : TI) : Bool := !told T.kd || match P.info? t, P.underlying t with
  | some i, some d => Nat.beq i.size T.size && (aggD d == isAg T.kd) && kindB P d T.kd && match i.zero with
    | some z => zsOk z.cells.toList T.zero && (isAg T.kd || flatB z)
    | none => false
  | _, _ => false
theorem chkTI_ok {P : Program} {t : TypeId} {T : TI} (h : chkTI P t T = true) : TIok P t T := by
  intro ht
  unfold chkTI at h
  rw [ht] at h
  simp only [Bool.not_true, Bool.false_or] at h
  split at h
  · rename_i i d h1 h2
    simp only [Bool.and_eq_true, Nat.beq_eq, beq_iff_eq] at h
    obtain ⟨⟨⟨a, b⟩, c⟩, h⟩ := h
    split at h
    · rename_i z hz
      simp only [Bool.and_eq_true, Bool.or_eq_true] at h
      refine ⟨i, d, h1, a, h2, b, kindB_ok c, z, hz, zsOk_ok h.1, fun hn => ?_⟩
      rcases h.2 with h' | h'
      · rw [hn] at h'; cases h'
      · exact (flatB_ok h').cells
    · cases h
  · cases h
def findT : List (Nat × TI) → TypeId → TI
  | [], _ => ⟨.oth, 0, []⟩
  | (n, T) :: l, t => match Nat.beq n t with
    | true => T
    | false => findT l t
theorem findT_ok {P : Program} {l : List (Nat × TI)} (h : (l.all fun x => chkTI P x.1 x.2) = true) : TyOk P (findT l) := by
  intro t
  induction l with
  | nil => intro h; cases h
  | cons x l ih =>
    obtain ⟨n, T⟩ := x
    simp only [List.all_cons, Bool.and_eq_true] at h
    unfold findT
    split
    · rename_i e
      have := Nat.eq_of_beq_eq_true e
      subst this
      exact chkTI_ok h.1
    · exact ih h.2

/-- contracts -/
abbrev Ct := List S → List Reg → S → List Reg → Prop
def findF : List (Nat × Ct) → FuncId → Option Ct
  | [], _ => none
  | (n, R) :: l, f => match Nat.beq n f with
    | true => some R
    | false => findF l f
def VSound (P : Program) (x : Nat × Ct) : Prop := Snd P x.1 x.2
inductive VSounds (P : Program) : List (Nat × Ct) → Prop
  | nil : VSounds P []
  | cons {x l} : VSound P x → VSounds P l → VSounds P (x :: l)
theorem findF_ok {P : Program} {l : List (Nat × Ct)} (h : VSounds P l) : ∀ f R, findF l f = some R → Snd P f R := by
  intro f R hf
  induction h with
  | nil => cases hf
  | cons hx _ ih =>
    unfold findF at hf
    split at hf
    · rename_i e
      have := Nat.eq_of_beq_eq_true e
      subst this
      cases hf
      exact hx
    · exact ih hf
def findP : List (Nat × List (List Nat) × Plan) → Nat → List (List Nat) × Plan
  | [], _ => ([], .done)
  | (n, p) :: l, i => match Nat.beq n i with
    | true => p
    | false => findP l i
/-- what a function's reading rests on -/
def cx (T : List (Nat × TI)) (F : List (Nat × Ct)) (pl : List (Nat × List (List Nat) × Plan)) (nw : Bool := true) (cuts : List Nat := []) : Cx := ⟨findT T, nw, findF F, findP pl, inL cuts⟩
def enterB (P : Program) (f : FuncId) : Bool := match P.funcs[f]? with
  | some fn => !fn.body.isNone && !(fn.name == "runtime.NumGoroutine")
  | none => false
theorem enterB_ok {P : Program} {f : FuncId} (h : enterB P f = true) : Enters P f := by
  unfold enterB at h
  split at h
  · rename_i fn hf
    simp only [Bool.and_eq_true, Bool.not_eq_true'] at h
    exact ⟨fn, hf, h.1, h.2⟩
  · cases h
def bodyPlans (pl : List (Nat × List (List Nat) × Plan)) (fn : Func) : Bool := match fn.body with
  | some c => plansOk (findP pl) c
  | none => true
theorem vsound' {P : Program} {T : List (Nat × TI)} {F : List (Nat × Ct)} {pl : List (Nat × List (List Nat) × Plan)} {nw : Bool} {cuts : List Nat} (hm : P.follows .mixedOrders = true) (hT : (T.all fun x => chkTI P x.1 x.2) = true) (hF : VSounds P F) {f : FuncId} {fn : Func} {R : Ct}
    (hf : P.funcs[f]? = some fn) (he : enterB P f = true) (hp : bodyPlans pl fn = true) (h : ∀ ss hp r out, R ss hp r out → vcFn (cx T F pl nw cuts) fn ss hp (Ret r out)) : Ok P f R ∧ Enters P f :=
  ⟨fn_ok (Γ := cx T F pl nw cuts) (findT_ok hT) (findF_ok hF) hm hf hp h, enterB_ok he⟩
theorem vsound {P : Program} {T : List (Nat × TI)} {F : List (Nat × Ct)} {pl : List (Nat × List (List Nat) × Plan)} {nw : Bool} {cuts : List Nat} (hm : P.follows .mixedOrders = true) (hT : (T.all fun x => chkTI P x.1 x.2) = true) (hF : VSounds P F) {f : FuncId} {fn : Func} {R : Ct}
    (hf : P.funcs[f]? = some fn) (he : enterB P f = true) (hp : bodyPlans pl fn = true) (h : ∀ ss hp r out, R ss hp r out → vcFn (cx T F pl nw cuts) fn ss hp (Ret r out)) : VSound P (f, R) := .inl (vsound' hm hT hF hf he hp h)
end Go.Proofs.YtphmcgmblkbijaaVY
