/-
  VY: what is told otherwise of handles, in one step; maps. By the session's own hand.
-/
import Derived.Test.YtphmcgmblkbijaaVy9
set_option linter.unusedSectionVars false
set_option linter.unusedVariables false
set_option linter.unusedSimpArgs false
set_option linter.all false
set_option linter.unnecessarySimpa false
set_option linter.deprecated false
namespace Go.Proofs.YtphmcgmblkbijaaVY
section
variable {P : Program} {Γ : Cx} {w w' : World} {X : Nat → Prop} {w0 : World} {B0 : Nat → Prop} [hGP : GPc X B0 w0] {σ : St} {a : Act} {ρ ρ' : Hs} {gd : Option (Bool × Bool)} {Q : Exit → Act → World → Prop}
/-- memory that names no handles -/
def Closed : Reg → Prop
  | .row _ _ | .frz _ _ | .mapd _ | .mapr _ _ | .gone => True
  | _ => False
theorem Closed.any {ρ ρ2 : Hs} {A A' : Nat → Prop} (hA : ∀ b, A' b → A b) {v : Value} {g : Reg} (hc : Closed g) (h : RegRel ρ A w v g) : RegRel ρ2 A' w v g := by
  cases g with
  | row sz L => exact RegRel.back (ρ := ρ) (f := fun _ => none) hA (fun _ _ _ e => by cases e) h
  | frz sz L => exact RegRel.back (ρ := ρ) (f := fun _ => none) (r := .frz sz L) hA (fun _ _ _ e => by cases e) h
  | mapd M => exact RegRel.back (ρ := ρ) (f := fun _ => none) (r := .mapd M) hA (fun _ _ _ e => by cases e) h
  | mapr sz M => exact RegRel.back (ρ := ρ) (f := fun _ => none) (r := .mapr sz M) hA (fun _ _ _ e => by cases e) h
  | gone => trivial
  | box cs => exact hc.elim
  | rowt _ _ cs => exact hc.elim
  | mem u c => exact hc.elim
theorem Closed.back {g : Reg} {f : Nat → Option Nat} (hc : Closed g) : g.back f = g := by cases g <;> first | rfl | exact hc.elim
/-- blocks of these handles -/
def Gv (ρ : Hs) (hp : List Reg) (hs : List Nat) (b : Nat) : Prop := ∃ h ∈ hs, ∃ (r : Reg) (v : Value), hp[h]? = some r ∧ r.live = true ∧ ρ[h]? = some v ∧ Bk v b
/-- Some handles' memory is told otherwise, or has turned, and nothing else. -/
theorem Inv.virt (I : Inv X w0 B0 σ a w ρ) {hs : List Nat} (nd : hs.Nodup) {outs new : List Reg} {oρ nρ : Hs} {inv : Option Nat}
    (hl : ∀ h ∈ hs, ∃ r, σ.hp[h]? = some r ∧ r.live = true ∧ Closed r) (lo : outs.length = hs.length) (lρ : oρ.length = hs.length) (ln : nρ.length = new.length) (cl : ∀ g ∈ outs ++ new, Closed g)
    (reg : ∀ (i : Nat) (g : Reg) (v : Value), (outs ++ new)[i]? = some g → (oρ ++ nρ)[i]? = some v → RegRel [] (fun b => (Av X ρ σ.hp b ∧ ¬ Gv ρ σ.hp hs b) ∨ Live (oρ ++ nρ) (outs ++ new) b) w' v g)
    (dis : ∀ (i j : Nat) (g g' : Reg) (v v' : Value) (b : Nat), (outs ++ new)[i]? = some g → (outs ++ new)[j]? = some g' → g.live = true → g'.live = true → (oρ ++ nρ)[i]? = some v → (oρ ++ nρ)[j]? = some v' → Bk v b → Bk v' b → i = j)
    (hnl : ∀ b, Live (oρ ++ nρ) (outs ++ new) b → Gv ρ σ.hp hs b ∨ w.heap.size ≤ b)
    (hgr : w.heap.size ≤ w'.heap.size) (hst : Str w w') (hsame : ∀ b, b < w.heap.size → ¬ Gv ρ σ.hp hs b → w'.heap[b]? = w.heap[b]?)
    (hkept : ∀ (i h : Nat) (v : Value), hs[i]? = some h → ρ[h]? = some v → inv ≠ some h → oρ[i]? = some v)
    (hmov : ∀ h, inv = some h → h ∈ hs ∧ ∀ (i : Nat) (v v' : Value), hs[i]? = some h → ρ[h]? = some v → oρ[i]? = some v' → Mov v v') :
    ∃ ρ4, Inv X w0 B0 ⟨σ.t.map (S.loseO inv), (zipU hs outs).foldl (fun hp u => hp.set u.1 u.2) (σ.hp.map (Reg.loseO inv)) ++ new⟩ a w' ρ4 ∧
      (∀ (i h : Nat), hs[i]? = some h → ρ4[h]? = oρ[i]?) ∧ (∀ j : Nat, ρ4[σ.hp.length + j]? = nρ[j]?) ∧ (∀ h : Nat, h ∉ hs → h < ρ.length → ρ4[h]? = ρ[h]?) ∧
      Lasts (Av X ρ σ.hp) (Av X ρ4 ((zipU hs outs).foldl (fun hp u => hp.set u.1 u.2) (σ.hp.map (Reg.loseO inv)) ++ new)) w w' := by
  let regs : List Reg := hs.map fun h => σ.hp.getD h .gone
  let cs : List C := hs.map fun _ => .junk
  have hreg : ∀ (i h : Nat), hs[i]? = some h → ∃ r, regs[i]? = some r ∧ σ.hp[h]? = some r ∧ r.live = true ∧ Closed r := by
    intro i h hi
    obtain ⟨r, h1, h2, h3⟩ := hl h (List.mem_of_getElem? hi)
    refine ⟨r, ?_, h1, h2, h3⟩
    show (hs.map _)[i]? = _
    rw [List.getElem?_map, hi]
    simp [List.getD_eq_getElem?_getD, h1]
  have hgv : GivenRs ρ (given ρ hs ++ given ρ hs) σ w (Av X ρ σ.hp) [] hs 0 regs cs := by
    have gen : ∀ (l : List Nat) (n : Nat), (∀ h ∈ l, ∃ r, σ.hp[h]? = some r ∧ r.live = true ∧ Closed r) → GivenRs ρ (given ρ hs ++ given ρ hs) σ w (Av X ρ σ.hp) [] l n (l.map fun h => σ.hp.getD h .gone) (l.map fun _ => C.junk) := by
      intro l
      induction l with
      | nil => intro n _; exact .nil
      | cons h l ih =>
        intro n hl
        obtain ⟨r, h1, h2, h3⟩ := hl h (List.mem_cons_self ..)
        have e : σ.hp.getD h .gone = r := by simp [List.getD_eq_getElem?_getD, h1]
        refine .cons ?_ (ih (n + 1) fun x hx => hl x (List.mem_cons_of_mem _ hx))
        dsimp only
        rw [e]
        refine ⟨⟨r, h1, h2, h2⟩, .inr (.inr (.inr (.inr (.inr rfl)))), fun v hv Ac hA => ⟨?_, fun _ => .inl trivial⟩⟩
        exact Closed.any (fun b hb => (hA b hb).1) h3 (I.hp.reg h r v h1 hv)
    exact gen hs 0 hl
  let mems : List Reg := List.zipWith Reg.mem (given ρ hs) cs
  let Xc : Nat → Prop := fun b => Av X ρ σ.hp b ∧ ¬ Lent ρ [] b ∧ ¬ Live (given ρ hs ++ given ρ hs) (regs ++ mems) b
  have H : Parted X ρ σ w hs [] regs mems cs Xc := ⟨nd, .nil, hgv, rfl, fun b => Iff.rfl⟩
  have hGv : ∀ b, Live (given ρ hs ++ given ρ hs) (regs ++ mems) b ↔ Gv ρ σ.hp hs b := by
    intro b
    rw [H.live I]
    constructor
    · rintro ⟨i, h, r, v, h1, h2⟩; exact ⟨h, List.mem_of_getElem? h1, r, v, h2⟩
    · rintro ⟨h, hm, r, v, h2⟩; obtain ⟨i, hi⟩ := List.getElem?_of_mem hm; exact ⟨i, h, r, v, hi, h2⟩
  have hXc : ∀ b, Xc b ↔ Av X ρ σ.hp b ∧ ¬ Gv ρ σ.hp hs b := by
    intro b
    show _ ∧ _ ∧ _ ↔ _
    rw [hGv]
    refine ⟨fun h => ⟨h.1, h.2.2⟩, fun h => ⟨h.1, ?_, h.2⟩⟩
    rintro ⟨x, hx, _⟩
    cases hx
  let ms : List Reg := hs.map fun _ => Reg.mem undef .junk
  let ρ5 : Hs := oρ ++ ((hs.map fun _ => undef) ++ nρ)
  have lm : ms.length = hs.length := by simp [ms]
  -- where a handle of these comes from
  have from_ : ∀ (i : Nat) (g : Reg) (v : Value), (outs ++ (ms ++ new))[i]? = some g → ρ5[i]? = some v → (∃ j, (outs ++ new)[j]? = some g ∧ (oρ ++ nρ)[j]? = some v ∧ (i = j ∧ j < hs.length ∨ i = j + hs.length ∧ hs.length ≤ j)) ∨ g = .mem undef .junk := by
    intro i g v hg hv
    rcases Nat.lt_or_ge i hs.length with hi | hi
    · left
      rw [List.getElem?_append_left (by omega)] at hg
      have hv : (oρ ++ ((hs.map fun _ => undef) ++ nρ))[i]? = some v := hv
      rw [List.getElem?_append_left (by omega)] at hv
      exact ⟨i, by rw [List.getElem?_append_left (by omega)]; exact hg, by rw [List.getElem?_append_left (by omega)]; exact hv, .inl ⟨rfl, hi⟩⟩
    · rw [List.getElem?_append_right (by omega)] at hg
      have hv : (oρ ++ ((hs.map fun _ => undef) ++ nρ))[i]? = some v := hv
      rw [List.getElem?_append_right (by omega)] at hv
      rcases Nat.lt_or_ge (i - hs.length) hs.length with hj | hj
      · right
        rw [List.getElem?_append_left (by omega), List.getElem?_map] at hg
        rw [lo] at hg
        obtain ⟨_, _, rfl⟩ := Option.map_eq_some_iff.1 hg
        rfl
      · left
        rw [List.getElem?_append_right (by omega), lm, lo] at hg
        rw [List.getElem?_append_right (by simp; omega), List.length_map, lρ] at hv
        refine ⟨i - hs.length, ?_, ?_, .inr ⟨by omega, hj⟩⟩
        · rw [List.getElem?_append_right (by omega), lo]; exact hg
        · rw [List.getElem?_append_right (by omega), lρ]; exact hv
  have hlive5 : ∀ b, Live ρ5 (outs ++ (ms ++ new)) b → Live (oρ ++ nρ) (outs ++ new) b := by
    rintro b ⟨i, g, v, h1, h2, h3, h4⟩
    rcases from_ i g v h1 h3 with ⟨j, e1, e2, _⟩ | rfl
    · exact ⟨j, g, v, e1, h2, e2, h4⟩
    · cases h2
  have hh : HpRel Xc ρ5 (outs ++ (ms ++ new)) w' := by
    refine ⟨by simp [ρ5, ms, lo, lρ, ln], ?_, ?_, ?_⟩
    · intro i g v h1 h3
      rcases from_ i g v h1 h3 with ⟨j, e1, e2, _⟩ | rfl
      · refine Closed.any (fun b hb => ?_) (cl g (List.mem_of_getElem? e1)) (reg j g v e1 e2)
        rcases hb with hb | hb
        · exact .inl ((hXc b).1 hb)
        · exact .inr (hlive5 b hb)
      · exact .inl trivial
    · intro i j g g' v v' b h1 h1' h2 h2' h3 h3' h4 h4'
      rcases from_ i g v h1 h3 with ⟨i', e1, e2, e3⟩ | rfl
      · rcases from_ j g' v' h1' h3' with ⟨j', e1', e2', e3'⟩ | rfl
        · have := dis i' j' g g' v v' b e1 e1' h2 h2' e2 e2' h4 h4'
          omega
        · cases h2'
      · cases h2
    · intro b hb hx
      obtain ⟨hx1, hx2⟩ := (hXc b).1 hx
      rcases hnl b (hlive5 b hb) with h | h
      · exact hx2 h
      · rcases hx1 with hx1 | hx1
        · have := I.xs b hx1; have := I.gr; omega
        · have := I.hp.lt hx1; omega
  have ρo : ∀ i : Nat, i < hs.length → ρ5[i]? = oρ[i]? := fun i hi => by
    show (oρ ++ _)[i]? = _
    rw [List.getElem?_append_left (by omega)]
  have ρn : ∀ j : Nat, ρ5[hs.length + hs.length + j]? = nρ[j]? := fun j => by
    show (oρ ++ ((hs.map fun _ => undef) ++ nρ))[_]? = _
    rw [List.getElem?_append_right (by omega), List.getElem?_append_right (by simp; omega), List.length_map, lρ, show hs.length + hs.length + j - hs.length - hs.length = j by omega]
  obtain ⟨ρ4, I4, hρ1, hρ2, hρ3, hL4, _⟩ := H.merge' I (ρ' := ρ5) (outs := outs) (ms := ms) (new := new) (r := .junk) (v := undef) (inv := inv) (fr := []) lo lm trivial hh hgr hst (fun b hb hn => hsame b hb fun h => hn ((hGv b).2 h)) (fun b hb => (hnl b (hlive5 b hb)).imp (hGv b).2 id)
    (fun i h v hi hv hne => by rw [ρo i (List.getElem?_eq_some_iff.1 hi).1]; exact hkept i h v hi hv hne)
    (fun m hm => by obtain ⟨_, _, rfl⟩ := List.mem_map.1 hm; exact ⟨_, _, rfl⟩)
    (fun h e => ⟨(hmov h e).1, fun i v v' hi hv hv' => (hmov h e).2 i v v' hi hv (by rw [← ρo i (List.getElem?_eq_some_iff.1 hi).1]; exact hv')⟩)
    (.inr ⟨rfl, .inl rfl⟩)
  have hid : ∀ l : List Reg, (∀ g ∈ l, Closed g) → l.map (Reg.back (bkH hs (hs.length + hs.length) σ.hp.length)) = l := by
    intro l hc
    induction l with
    | nil => rfl
    | cons g l ih => rw [List.map_cons, (hc g (List.mem_cons_self ..)).back, ih fun x hx => hc x (List.mem_cons_of_mem _ hx)]
  have e1 := hid outs fun g hg => cl g (List.mem_append_left _ hg)
  have e2 := hid new fun g hg => cl g (List.mem_append_right _ hg)
  rw [e1, e2, List.nil_append] at I4 hL4
  exact ⟨ρ4, I4, fun i h hi => by rw [hρ1 i h hi, ρo i (List.getElem?_eq_some_iff.1 hi).1], fun j => by rw [hρ2, ρn], hρ3, hL4⟩

/-! maps -/
theorem run_lookup {T kt et : TypeId} {z : Value} (ht : P.underlying T = some (.map kt et)) (hk : P.underlying kt = some (.int .i64)) (hz : (zeroValue et).run P w = .ok z w) {b : Nat} {es : Array MapEntry} {clock : Nat} (hb : w.heap[b]? = some (.map es clock))
    (hks : ∀ e ∈ es.toList, ∃ n, e.key = .int .i64 n) (n : Int) :
    (∃ (j : Nat) (e : MapEntry), es.toList[j]? = some e ∧ e.key = .int .i64 n ∧ (Instr.lookup T (.map (some b)) (.int .i64 n) false).run P w = .ok e.val w) ∨
      ((∀ e ∈ es.toList, e.key ≠ .int .i64 n) ∧ (Instr.lookup T (.map (some b)) (.int .i64 n) false).run P w = .ok z w) := by
  have hkk : MapKept.IsKey (.int .i64) (.int .i64 n) := rfl
  rcases MapKept.findNow_spec hkk es.toList 0 (fun x hx => by obtain ⟨m, e⟩ := hks x hx; rw [e]; rfl) with ⟨h1, h2⟩ | ⟨j, e, h1, h2, h3⟩
  · exact .inr ⟨h2, by simp [Instr.lookup, run_underlying ht, MapKept.run_getObj_map hb, MapKept.run_checkKey hk hkk, MapKept.run_findKey hk h1, hz, Result.andThen]⟩
  · exact .inl ⟨j, e, h2, h3, by simp [Instr.lookup, run_underlying ht, MapKept.run_getObj_map hb, MapKept.run_checkKey hk hkk, MapKept.run_findKey hk h1, Result.andThen]⟩
theorem modify_toList (es : Array MapEntry) (j : Nat) (f : MapEntry → MapEntry) {e : MapEntry} (h : es.toList[j]? = some e) : (es.modify j f).toList = es.toList.set j (f e) := by
  apply List.ext_getElem?
  intro i
  rw [Array.getElem?_toList, Array.getElem?_modify, List.getElem?_set]
  have hj := (List.getElem?_eq_some_iff.1 h).1
  by_cases e' : j = i
  · subst e'
    rw [if_pos rfl, if_pos rfl, if_pos hj]
    rw [Array.getElem?_toList] at h
    rw [h]; rfl
  · rw [if_neg e', if_neg e', Array.getElem?_toList]
theorem run_update {T kt et : TypeId} (ht : P.underlying T = some (.map kt et)) (hk : P.underlying kt = some (.int .i64)) {b : Nat} {es : Array MapEntry} {clock : Nat} (hb : w.heap[b]? = some (.map es clock))
    (hks : ∀ e ∈ es.toList, ∃ n, e.key = .int .i64 n) (hst : MapKept.Stamped es clock) (n : Int) (v : Value) :
    ∃ es' clock', (Instr.mapUpdate T (.map (some b)) (.int .i64 n) v).run P w = .ok () { w with heap := w.heap.setIfInBounds b (.map es' clock') } ∧ MapKept.Stamped es' clock' ∧
      ((∃ (j : Nat) (e : MapEntry), es.toList[j]? = some e ∧ e.key = .int .i64 n ∧ es'.toList = es.toList.set j { e with val := v }) ∨
        ((∀ e ∈ es.toList, e.key ≠ .int .i64 n) ∧ ∃ born, es'.toList = es.toList ++ [⟨.int .i64 n, v, born⟩])) := by
  have hkk : MapKept.IsKey (.int .i64) (.int .i64 n) := rfl
  rcases MapKept.findNow_spec hkk es.toList 0 (fun x hx => by obtain ⟨m, e⟩ := hks x hx; rw [e]; rfl) with ⟨h1, h2⟩ | ⟨j, e, h1, h2, h3⟩
  · refine ⟨es.push ⟨.int .i64 n, v, clock⟩, clock + 1, ?_, MapKept.stamped_push hst h2, .inr ⟨h2, clock, by simp⟩⟩
    simp [Instr.mapUpdate, run_underlying ht, MapKept.run_getObj_map hb, MapKept.run_checkKey hk hkk, MapKept.run_findKey hk h1, MapKept.run_setObj_map _ hb, Result.andThen]
  · have hej : es[j]? = some e := by rw [← Array.getElem?_toList]; exact h2
    have hstays : (Instr.keyThatStays (.int .i64 n) (.int .i64 n)).run P w = .ok (.int .i64 n) w := by simp [Instr.keyThatStays, Instr.sameBits]
    refine ⟨es.modify j fun e => { e with key := .int .i64 n, val := v }, clock, ?_, MapKept.stamped_modify hst j _ (fun _ _ => rfl) (fun x _ hx => by rw [hej] at hx; cases hx; exact h3.symm), .inl ⟨j, e, h2, h3, ?_⟩⟩
    · simp [Instr.mapUpdate, run_underlying ht, MapKept.run_getObj_map hb, MapKept.run_checkKey hk hkk, MapKept.run_findKey hk h1, hej, h3, hstays, MapKept.run_setObj_map _ hb, Result.andThen]
    · rw [modify_toList es j _ h2, ← h3]
theorem putM_set {α : Type} {M : List (Int × α)} {k : Int} {x y : α} : ∀ {j : Nat}, M[j]? = some (k, y) → (M.map (·.1)).Nodup → putM M k x = M.set j (k, x) := by
  induction M with
  | nil => intro j h; simp at h
  | cons p M ih =>
    intro j h hn
    obtain ⟨k', x'⟩ := p
    cases j with
    | zero => simp at h; obtain ⟨rfl, rfl⟩ := h; simp [putM]
    | succ j =>
      have h' : M[j]? = some (k, y) := by simpa using h
      have hn' := (List.nodup_cons.1 (by simpa using hn : (k' :: M.map (·.1)).Nodup))
      have hne : k' ≠ k := fun e => hn'.1 (by rw [e]; exact List.mem_map.2 ⟨_, List.mem_of_getElem? h', rfl⟩)
      simp [putM, hne, ih h' hn'.2]
theorem putM_app {α : Type} {M : List (Int × α)} {k : Int} {x : α} (h : ∀ p ∈ M, p.1 ≠ k) : putM M k x = M ++ [(k, x)] := by
  induction M with
  | nil => rfl
  | cons p M ih =>
    obtain ⟨k', x'⟩ := p
    have hne : k' ≠ k := h (k', x') (List.mem_cons_self ..)
    simp [putM, hne, ih fun q hq => h q (List.mem_cons_of_mem _ hq)]
theorem MapRows.len {A : Nat → Prop} {sz : Nat} {es : List MapEntry} {us : List Value} {M : List (Int × Option (List (List D)))} (H : MapRows A w sz es us M) : es.length = M.length ∧ us.length = M.length := by
  induction H with
  | nil => exact ⟨rfl, rfl⟩
  | cons _ _ _ _ ih => simp [ih.1, ih.2]
theorem MapRows.get {A : Nat → Prop} {sz : Nat} {es : List MapEntry} {us : List Value} {M : List (Int × Option (List (List D)))} (H : MapRows A w sz es us M) : ∀ {i : Nat} {e : MapEntry}, es[i]? = some e → ∃ u k r, us[i]? = some u ∧ M[i]? = some (k, r) ∧ e.key = .int .i64 k ∧ Flat u ∧ EntR A w sz e u r := by
  induction H with
  | nil => intro i e h; simp at h
  | @cons e0 es u us k r M h1 h2 h3 _ ih =>
    intro i e h
    cases i with
    | zero => simp at h; subst h; exact ⟨u, k, r, by simp, by simp, h1, h2, h3⟩
    | succ i => simpa using ih (by simpa using h)
theorem MapRows.getM {A : Nat → Prop} {sz : Nat} {es : List MapEntry} {us : List Value} {M : List (Int × Option (List (List D)))} (H : MapRows A w sz es us M) {i : Nat} {k : Int} {r : Option (List (List D))} (h : M[i]? = some (k, r)) : ∃ e u, es[i]? = some e ∧ us[i]? = some u ∧ e.key = .int .i64 k ∧ Flat u ∧ EntR A w sz e u r := by
  have hi : i < es.length := by rw [H.len.1]; exact (List.getElem?_eq_some_iff.1 h).1
  obtain ⟨u, k', r', h1, h2, h3⟩ := H.get (List.getElem?_eq_getElem hi)
  rw [h] at h2; cases h2
  exact ⟨_, u, List.getElem?_eq_getElem hi, h1, h3⟩
theorem MapRows.set {A : Nat → Prop} {sz : Nat} {es : List MapEntry} {us : List Value} {M : List (Int × Option (List (List D)))} (H : MapRows A w sz es us M) {e : MapEntry} {u : Value} {k : Int} {r : Option (List (List D))} (h1 : e.key = .int .i64 k) (h2 : Flat u) (h3 : EntR A w sz e u r) : ∀ (i : Nat), MapRows A w sz (es.set i e) (us.set i u) (M.set i (k, r)) := by
  induction H with
  | nil => intro i; exact .nil
  | cons g1 g2 g3 g4 ih =>
    intro i
    cases i with
    | zero => exact .cons h1 h2 h3 g4
    | succ i => exact .cons g1 g2 g3 (ih i)
theorem MapRows.snoc {A : Nat → Prop} {sz : Nat} {es : List MapEntry} {us : List Value} {M : List (Int × Option (List (List D)))} (H : MapRows A w sz es us M) {e : MapEntry} {u : Value} {k : Int} {r : Option (List (List D))} (h1 : e.key = .int .i64 k) (h2 : Flat u) (h3 : EntR A w sz e u r) : MapRows A w sz (es ++ [e]) (us ++ [u]) (M ++ [(k, r)]) := by
  induction H with
  | nil => exact .cons h1 h2 h3 .nil
  | cons g1 g2 g3 g4 ih => exact .cons g1 g2 g3 ih
theorem MapRows.keys {A : Nat → Prop} {sz : Nat} {es : List MapEntry} {us : List Value} {M : List (Int × Option (List (List D)))} (H : MapRows A w sz es us M) : es.map (·.key) = M.map fun p => Value.int .i64 p.1 := by
  induction H with
  | nil => rfl
  | cons h _ _ _ ih => rw [List.map_cons, List.map_cons, ih, h]
theorem nodup_keys {es : List MapEntry} {l : List Int} (h : es.map (·.key) = l.map fun n => Value.int .i64 n) (hn : (es.map (·.key)).Nodup) : l.Nodup := by
  rw [h] at hn
  exact (List.pairwise_map.1 hn).imp fun hne e => hne (by rw [e])
theorem mapd_keys {A : Nat → Prop} {es : List MapEntry} {M : List (Int × D)} (H : All2 (fun (e : MapEntry) (p : Int × D) => e.key = .int .i64 p.1 ∧ Rd A w e.val p.2) es M) : es.map (·.key) = (M.map (·.1)).map fun n => Value.int .i64 n := by
  induction H with
  | nil => rfl
  | cons h _ ih => simp only [List.map_cons]; rw [ih, h.1]
/-- a map's handle, and its block -/
theorem mapH_ok {A : Nat → Prop} {c : C} {v : Value} {k : Nat → Prop} (hc : CRel ρ A w v c) (h : mapH c k) : ∃ x, k x ∧ ((ρ[x]? = some v ∧ Flat v ∧ c = .own x) ∨ (∃ us, ρ[x]? = some (.tuple ⟨v :: us⟩) ∧ Flat v ∧ c = .town x)) := by
  unfold mapH at h
  split at h
  · exact ⟨_, h, .inl ⟨hc.1, hc.2, rfl⟩⟩
  · obtain ⟨us, h1, h2⟩ := hc; exact ⟨_, h, .inr ⟨us, h1, h2, rfl⟩⟩
  · exact h.elim
theorem mapd_at (I : Inv X w0 B0 σ a w ρ) {x : Nat} {M : List (Int × D)} (hr : σ.hp[x]? = some (.mapd M)) {v : Value} (hv : (ρ[x]? = some v ∧ Flat v) ∨ ∃ us, ρ[x]? = some (.tuple ⟨v :: us⟩) ∧ Flat v) :
    ∃ b es clock, v = .map (some b) ∧ w.heap[b]? = some (.map es clock) ∧ All2 (fun (e : MapEntry) (p : Int × D) => e.key = .int .i64 p.1 ∧ Rd (Av X ρ σ.hp) w e.val p.2) es.toList M ∧ MapKept.Stamped es clock ∧ ∃ g, ρ[x]? = some g ∧ (∀ b', Bk g b' ↔ b' = b) ∧ (g = .map (some b) ∨ ∃ us, g = .tuple ⟨.map (some b) :: us⟩ ∧ ∀ u ∈ us, blk u = none) := by
  obtain ⟨g, hg, b, es, clock, hgv, hb, hM, hst⟩ := I.hp.val hr
  have hbk : ∀ b', Bk g b' ↔ b' = b := by
    intro b'
    rcases hgv with rfl | ⟨us, rfl, hu⟩
    · show blk _ = some b' ↔ _
      simp [blk, eq_comm]
    · show (∃ u ∈ _, blk u = some b') ↔ _
      constructor
      · rintro ⟨u, hu', hb⟩
        simp only [List.mem_cons] at hu'
        rcases hu' with rfl | hu'
        · simp only [blk, Option.some.injEq] at hb; exact hb.symm
        · rw [hu u hu'] at hb; cases hb
      · rintro rfl; exact ⟨_, List.mem_cons_self .., rfl⟩
  refine ⟨b, es, clock, ?_, hb, hM, hst, g, hg, hbk, hgv⟩
  rcases hv with ⟨hv, hf⟩ | ⟨us, hv, hf⟩
  · rw [hg] at hv; cases hv
    rcases hgv with rfl | ⟨us, rfl, _⟩
    · rfl
    · exact absurd rfl (hf.2 _)
  · rw [hg] at hv; cases hv
    rcases hgv with h | ⟨us', h, _⟩
    · cases h
    · cases h; rfl
theorem mapr_at (I : Inv X w0 B0 σ a w ρ) {x sz : Nat} {M : List (Int × Option (List (List D)))} (hr : σ.hp[x]? = some (.mapr sz M)) {v : Value} (hv : (ρ[x]? = some v ∧ Flat v) ∨ ∃ us, ρ[x]? = some (.tuple ⟨v :: us⟩) ∧ Flat v) :
    ∃ b es clock us, v = .map (some b) ∧ ρ[x]? = some (.tuple ⟨.map (some b) :: us⟩) ∧ w.heap[b]? = some (.map es clock) ∧ MapRows (Av X ρ σ.hp) w sz es.toList us M ∧ MapKept.Stamped es clock ∧ (b :: us.filterMap blk).Nodup := by
  obtain ⟨g, hg, b, es, clock, us, rfl, hb, hM, hst, hd⟩ := I.hp.val hr
  refine ⟨b, es, clock, us, ?_, hg, hb, hM, hst, hd⟩
  rcases hv with ⟨hv, hf⟩ | ⟨us', hv, hf⟩
  · rw [hg] at hv; cases hv; exact absurd rfl (hf.2 _)
  · rw [hg] at hv; cases hv; rfl
/-- an entry of a map of data is written -/
theorem putData (I : Inv X w0 B0 σ a w ρ) {T kt et : TypeId} (ht : P.underlying T = some (.map kt et)) (hk : P.underlying kt = some (.int .i64)) {x : Nat} {M : List (Int × D)} (hr : σ.hp[x]? = some (.mapd M)) {v : Value} (hv : (ρ[x]? = some v ∧ Flat v) ∨ ∃ us, ρ[x]? = some (.tuple ⟨v :: us⟩) ∧ Flat v)
    {n : Int} {u : Value} {d : D} (hd : Rd (Av X ρ σ.hp) w u d) {dst : Option Tmp} :
    ∃ w', (Instr.mapUpdate T v (.int .i64 n) u).run P w = .ok () w' ∧ Inv X w0 B0 (σ.after dst .junk [(x, .mapd (putM M n d))] [] none) (a.put dst undef) w' ρ := by
  obtain ⟨b, es, clock, rfl, hb, hM, hst, g, hg, hbk, hgv⟩ := mapd_at I hr hv
  have hks : ∀ e ∈ es.toList, ∃ n, e.key = .int .i64 n := by
    intro e he
    obtain ⟨j, hj⟩ := List.getElem?_of_mem he
    have hlt : j < M.length := by rw [← hM.length]; exact (List.getElem?_eq_some_iff.1 hj).1
    exact ⟨_, (hM.get hj (List.getElem?_eq_getElem hlt)).1⟩
  obtain ⟨es', clock', hrun, hst', hes⟩ := run_update ht hk hb hks hst n u
  refine ⟨_, hrun, ?_⟩
  have hset := MapKept.heap_set (o' := .map es' clock') hb
  have T' := touchSet I (w' := { w with heap := w.heap.setIfInBounds b (.map es' clock') }) (r' := .mapd (putM M n d)) hr rfl hg (by simp) ⟨rfl, rfl, rfl, Nat.le_refl _⟩ (fun b' _ => by
    by_cases e : b' = b
    · exact .inr ((hbk b').2 e)
    · exact .inl (hset.2 b' e))
  rw [after_upd]
  have := I.touchPut T' (dst := dst) (v := undef) (s := .junk) ?_ trivial
  · rwa [map_sloseO_none] at this
  · refine ⟨b, es', clock', hgv, hset.1, ?_, hst'⟩
    have hM' : All2 (fun (e : MapEntry) (p : Int × D) => e.key = .int .i64 p.1 ∧ Rd (Av X ρ (σ.hp.set x (.mapd (putM M n d)))) { w with heap := w.heap.setIfInBounds b (.map es' clock') } e.val p.2) es.toList M := hM.imp fun _ _ h => ⟨h.1, h.2.lasts T'.lasts⟩
    have hd' : Rd (Av X ρ (σ.hp.set x (.mapd (putM M n d)))) { w with heap := w.heap.setIfInBounds b (.map es' clock') } u d := hd.lasts T'.lasts
    generalize Av X ρ (σ.hp.set x (.mapd (putM M n d))) = A' at hM' hd' ⊢
    rcases hes with ⟨j, e, h1, h2, h3⟩ | ⟨h1, born, h3⟩
    · have hlt : j < M.length := by rw [← hM.length]; exact (List.getElem?_eq_some_iff.1 h1).1
      have hm := List.getElem?_eq_getElem hlt
      have hkj := (hM.get h1 hm).1
      rw [h2] at hkj
      have hkn : M[j].1 = n := by cases hkj; rfl
      rw [h3, putM_set (j := j) (y := M[j].2) (by rw [hm, ← hkn]) (nodup_keys (mapd_keys hM) hst.2.2)]
      exact All2.set hM' (a := { e with val := u }) (b := (n, d)) ⟨h2, hd'⟩
    · rw [h3, putM_app fun p hp => ?_]
      · exact hM'.append (.cons (a := (⟨.int .i64 n, u, born⟩ : MapEntry)) (b := (n, d)) ⟨rfl, hd'⟩ .nil)
      · obtain ⟨j, hj⟩ := List.getElem?_of_mem hp
        have hlt : j < es.toList.length := by rw [hM.length]; exact (List.getElem?_eq_some_iff.1 hj).1
        have hke := (hM.get (List.getElem?_eq_getElem hlt) hj).1
        intro e
        refine h1 _ (List.mem_of_getElem? (List.getElem?_eq_getElem hlt)) ?_
        rw [hke, e]
theorem filterMap_set {us : List Value} {v : Value} (hv : blk v = none) : ∀ i : Nat, ((us.set i v).filterMap blk).Sublist (us.filterMap blk) := by
  induction us with
  | nil => intro i; simp
  | cons u us ih =>
    intro i
    cases i with
    | zero =>
      rw [List.set_cons_zero, List.filterMap_cons, hv, List.filterMap_cons]
      cases blk u with
      | none => exact List.Sublist.refl _
      | some b => exact List.sublist_cons_self _ _
    | succ i =>
      rw [List.set_cons_succ, List.filterMap_cons, List.filterMap_cons]
      cases blk u with
      | none => exact ih i
      | some b => exact (ih i).cons_cons b
theorem filterMap_inj {us : List Value} (hn : (us.filterMap blk).Nodup) : ∀ {i j : Nat} {u u' : Value} {b : Nat}, us[i]? = some u → us[j]? = some u' → blk u = some b → blk u' = some b → i = j := by
  induction us with
  | nil => intro i j u u' b h; simp at h
  | cons x us ih =>
    intro i j u u' b h1 h2 h3 h4
    rw [List.filterMap_cons] at hn
    have hn' : (us.filterMap blk).Nodup := by
      cases hx : blk x <;> rw [hx] at hn
      · exact hn
      · exact (List.nodup_cons.1 hn).2
    have key : ∀ (i : Nat) (u : Value), us[i]? = some u → blk u = some b → blk x = some b → False := by
      intro i u h1 h3 hx
      rw [hx] at hn
      exact (List.nodup_cons.1 hn).1 (List.mem_filterMap.2 ⟨u, List.mem_of_getElem? h1, h3⟩)
    cases i with
    | zero => cases j with
      | zero => rfl
      | succ j => simp at h1; subst h1; exact (key j u' (by simpa using h2) h4 h3).elim
    | succ i => cases j with
      | zero => simp at h2; subst h2; exact (key i u (by simpa using h1) h3 h4).elim
      | succ j => exact congrArg (· + 1) (ih hn' (by simpa using h1) (by simpa using h2) h3 h4)
theorem bk_tuple {u : Value} {us : List Value} {b : Nat} : Bk (.tuple ⟨u :: us⟩) b ↔ blk u = some b ∨ ∃ x ∈ us, blk x = some b := by
  show (∃ x ∈ u :: us, blk x = some b) ↔ _
  simp
theorem gv_one {x : Nat} {r : Reg} {g : Value} (hr : σ.hp[x]? = some r) (hl : r.live = true) (hg : ρ[x]? = some g) {b : Nat} : Gv ρ σ.hp [x] b ↔ Bk g b := by
  constructor
  · rintro ⟨h, hm, r', v, h1, h2, h3, h4⟩
    simp at hm; subst hm
    rw [hg] at h3; cases h3; exact h4
  · intro h; exact ⟨x, by simp, r, g, hr, hl, hg, h⟩
theorem live_one {g : Reg} {v : Value} {b : Nat} : Live [v] [g] b ↔ g.live = true ∧ Bk v b := by
  constructor
  · rintro ⟨i, g', v', h1, h2, h3, h4⟩
    cases i with
    | zero => simp at h1 h3; subst h1; subst h3; exact ⟨h2, h4⟩
    | succ i => simp at h1
  · rintro ⟨h1, h2⟩; exact ⟨0, g, v, rfl, h1, rfl, h2⟩
theorem live_two {g g2 : Reg} {v v2 : Value} {b : Nat} : Live [v, v2] [g, g2] b ↔ (g.live = true ∧ Bk v b) ∨ (g2.live = true ∧ Bk v2 b) := by
  constructor
  · rintro ⟨i, g', v', h1, h2, h3, h4⟩
    cases i with
    | zero => simp at h1 h3; subst h1; subst h3; exact .inl ⟨h2, h4⟩
    | succ i => cases i with
      | zero => simp at h1 h3; subst h1; subst h3; exact .inr ⟨h2, h4⟩
      | succ i => simp at h1
  · rintro (⟨h1, h2⟩ | ⟨h1, h2⟩)
    · exact ⟨0, g, v, rfl, h1, rfl, h2⟩
    · exact ⟨1, g2, v2, rfl, h1, rfl, h2⟩
/-- a map without entries, as one of rows of one's own -/
theorem rows_ok (I : Inv X w0 B0 σ a w ρ) {x sz : Nat} (hr : σ.hp[x]? = some (.mapd [])) {v : Value} (hv : ρ[x]? = some v) (hf : Flat v) (hz : 0 < sz) :
    ∃ ρ4, Inv X w0 B0 ⟨σ.t.map (S.lose x), (σ.hp.map (Reg.lose x)).set x (.mapr sz [])⟩ a w ρ4 ∧ ρ4[x]? = some (.tuple ⟨[v]⟩) := by
  obtain ⟨b, es, clock, rfl, hb, hM, hst, g, hg, hbk, _⟩ := mapd_at I hr (.inl ⟨hv, hf⟩)
  rw [hv] at hg; cases hg
  have hlt : x < σ.hp.length := (List.getElem?_eq_some_iff.1 hr).1
  have hes : es.toList = [] := by
    have := hM.length
    exact List.length_eq_zero_iff.1 this
  obtain ⟨ρ4, I4, h1, _⟩ := I.virt (hs := [x]) (by simp) (outs := [.mapr sz []]) (new := []) (oρ := [.tuple ⟨[.map (some b)]⟩]) (nρ := []) (inv := some x) (w' := w)
    (by intro h hh; simp at hh; subst hh; exact ⟨_, hr, rfl, trivial⟩) rfl rfl rfl (by intro g hg; simp at hg; subst hg; trivial)
    (by
      intro i g v h1 h2
      cases i with
      | succ i => simp at h1
      | zero =>
        simp at h1 h2; subst h1; subst h2
        exact ⟨b, es, clock, [], rfl, hb, by rw [hes]; exact .nil, hst, by simp⟩)
    (by
      intro i j g g' v v' b h1 h2
      cases i with
      | succ i => simp at h1
      | zero => cases j with
        | succ j => simp at h2
        | zero => intros; rfl)
    (by
      intro b' hb'
      left
      obtain ⟨_, h⟩ := live_one.1 hb'
      rw [gv_one hr rfl hv]
      rw [bk_tuple] at h
      rcases h with h | ⟨_, h, _⟩
      · exact h
      · cases h)
    (Nat.le_refl _) (Str.refl w) (fun _ _ _ => rfl)
    (by intro i h v hi hv hne; cases i with
        | zero => simp at hi; subst hi; exact absurd rfl hne
        | succ i => simp at hi)
    (by
      intro h e; cases e
      refine ⟨by simp, fun i v v' hi hv1 hv2 => ?_⟩
      rw [hv] at hv1; cases hv1
      exact ⟨by simp, by simp⟩)
  rw [List.append_nil] at I4
  exact ⟨ρ4, I4, h1 0 x rfl⟩
/-- a map of rows, as one of data: they are no longer written -/
theorem unrows_ok (I : Inv X w0 B0 σ a w ρ) {x sz : Nat} {M : List (Int × Option (List (List D)))} (hr : σ.hp[x]? = some (.mapr sz M)) (hM0 : ∀ p ∈ M, p.2 ≠ none) :
    ∃ ρ4, Inv X w0 B0 ⟨σ.t.map (S.lose x), (σ.hp.map (Reg.lose x)).set x (.mapd (M.map fun p => (p.1, .sl sz (p.2.getD []))))⟩ a w ρ4 := by
  obtain ⟨g, hg, b, es, clock, us, rfl, hb, hM, hst, hd⟩ := I.hp.val hr
  obtain ⟨ρ4, I4, h1, _⟩ := I.virt (hs := [x]) (by simp) (outs := [.mapd (M.map fun p => (p.1, .sl sz (p.2.getD [])))]) (new := []) (oρ := [.tuple ⟨[.map (some b)]⟩]) (nρ := []) (inv := some x) (w' := w)
    (by intro h hh; simp at hh; subst hh; exact ⟨_, hr, rfl, trivial⟩) rfl rfl rfl (by intro g hg; simp at hg; subst hg; trivial)
    (by
      intro i g v h1 h2
      cases i with
      | succ i => simp at h1
      | zero =>
        simp at h1 h2; subst h1; subst h2
        refine ⟨b, es, clock, .inr ⟨[], rfl, by simp⟩, hb, ?_, hst⟩
        have hA : ∀ b', ((Av X ρ σ.hp b' ∧ ¬ Gv ρ σ.hp [x] b') ∨ Live [Value.tuple ⟨[.map (some b)]⟩] [.mapd (M.map fun p => (p.1, .sl sz (p.2.getD [])))] b') → Av X ρ σ.hp b' ∧ ∀ u ∈ us, blk u ≠ some b' := by
          intro b' hb'
          rcases hb' with ⟨h1, h2⟩ | h
          · refine ⟨h1, fun u hu e => h2 ?_⟩
            rw [gv_one hr rfl hg, bk_tuple]; exact .inr ⟨u, hu, e⟩
          · obtain ⟨_, h⟩ := live_one.1 h
            rw [bk_tuple] at h
            rcases h with h | ⟨_, h, _⟩
            · simp only [blk, Option.some.injEq] at h; subst h
              refine ⟨.inr ⟨x, _, _, hr, rfl, hg, by rw [bk_tuple]; exact .inl rfl⟩, fun u hu e => ?_⟩
              exact (List.nodup_cons.1 hd).1 (List.mem_filterMap.2 ⟨u, hu, e⟩)
            · cases h
        suffices key : ∀ A' : Nat → Prop, (∀ b', A' b' → Av X ρ σ.hp b' ∧ ∀ u ∈ us, blk u ≠ some b') → All2 (fun (e : MapEntry) (p : Int × D) => e.key = .int .i64 p.1 ∧ Rd A' w e.val p.2) es.toList (M.map fun p => (p.1, .sl sz (p.2.getD []))) from key _ hA
        clear hA
        intro A' hA
        generalize es.toList = el at hM
        clear hd hst hr hg I hb
        induction hM with
        | nil => exact .nil
        | @cons e es u us k r M hk hf hrr _ ih =>
          refine .cons ⟨hk, ?_⟩ (ih (fun p hp => hM0 p (List.mem_cons_of_mem _ hp)) fun b' hb' => ⟨(hA b' hb').1, fun u hu => (hA b' hb').2 u (List.mem_cons_of_mem _ hu)⟩)
          cases r with
          | none => exact absurd rfl (hM0 _ (List.mem_cons_self ..))
          | some L =>
            obtain ⟨rfl, a0, c, hv, hc, hz, hR⟩ := hrr
            show Rd A' w e.val (.sl sz L)
            simp only [Rd]
            refine ⟨a0, c, hv, hc, ?_⟩
            cases c with
            | zero => exact .inl (List.length_eq_zero_iff.1 (by omega))
            | succ c =>
              rcases hR with hR | ⟨b2, off, T, vs, rfl, hb2, _, hL⟩
              · cases hR
              · exact .inr ⟨b2, off, rfl, ⟨(Array.getElem?_eq_some_iff.1 hb2).1, fun h => (hA b2 h).2 _ (List.mem_cons_self ..) (by rw [hv]; rfl)⟩, RdL.mono (fun b h => (hA b h).1) hL⟩)
    (by
      intro i j g g' v v' b h1 h2
      cases i with
      | succ i => simp at h1
      | zero => cases j with
        | succ j => simp at h2
        | zero => intros; rfl)
    (by
      intro b' hb'
      left
      obtain ⟨_, h⟩ := live_one.1 hb'
      rw [gv_one hr rfl hg]
      rw [bk_tuple] at h ⊢
      rcases h with h | ⟨_, h, _⟩
      · exact .inl h
      · cases h)
    (Nat.le_refl _) (Str.refl w) (fun _ _ _ => rfl)
    (by intro i h v hi hv hne; cases i with
        | zero => simp at hi; subst hi; exact absurd rfl hne
        | succ i => simp at hi)
    (by
      intro h e; cases e
      refine ⟨by simp, fun i v v' hi hv1 hv2 => ?_⟩
      cases i with
      | succ i => simp at hi
      | zero =>
        rw [hg] at hv1; cases hv1
        simp at hv2; subst hv2
        exact ⟨by simp, fun u us h => by cases h; exact ⟨[], rfl⟩⟩)
  rw [List.append_nil] at I4
  exact ⟨ρ4, I4⟩
/-- a row is taken out of a map -/
theorem takeRow (I : Inv X w0 B0 σ a w ρ) {x sz i : Nat} {M : List (Int × Option (List (List D)))} (hr : σ.hp[x]? = some (.mapr sz M)) {key : Int} {L : List (List D)} (hM0 : M[i]? = some (key, some L)) {u : Value} (hu : CRel ρ (Av X ρ σ.hp) w u (.sub x i)) :
    ∃ ρ4, Inv X w0 B0 ⟨σ.t.map (S.lose x), (σ.hp.map (Reg.lose x)).set x (.mapr sz (M.set i (key, none))) ++ [.row sz L]⟩ a w ρ4 ∧ ρ4[σ.hp.length]? = some u ∧ RowAt (Av X ρ σ.hp) w u sz L ∧
      ∀ b, b < w.heap.size → Av X ρ4 ((σ.hp.map (Reg.lose x)).set x (.mapr sz (M.set i (key, none))) ++ [.row sz L]) b → Av X ρ σ.hp b := by
  obtain ⟨g, hg, b, es, clock, us, rfl, hb, hM, hst, hd⟩ := I.hp.val hr
  obtain ⟨u0, us0, hu1, hu2, hf⟩ := hu
  rw [hg] at hu1; cases hu1
  obtain ⟨e, u', he, hu', hke, _, hE⟩ := hM.getM hM0
  rw [hu2] at hu'; cases hu'
  obtain ⟨hev, hrow⟩ := (hE : e.val = u ∧ RowAt _ w u sz L)
  have hd1 := List.nodup_cons.1 hd
  have hsub := filterMap_set (us := us) (v := .bool false) rfl i
  obtain ⟨ρ4, I4, h1, h2, _, hL4⟩ := I.virt (hs := [x]) (by simp) (outs := [.mapr sz (M.set i (key, none))]) (new := [.row sz L]) (oρ := [.tuple ⟨.map (some b) :: us.set i (.bool false)⟩]) (nρ := [u]) (inv := some x) (w' := w)
    (by intro h hh; simp at hh; subst hh; exact ⟨_, hr, rfl, trivial⟩) rfl rfl rfl (by intro g hg; simp at hg; rcases hg with rfl | rfl <;> trivial)
    (by
      have hA : ∀ b', ((Av X ρ σ.hp b' ∧ ¬ Gv ρ σ.hp [x] b') ∨ Live [Value.tuple ⟨.map (some b) :: us.set i (.bool false)⟩, u] [.mapr sz (M.set i (key, none)), .row sz L] b') → Av X ρ σ.hp b' := by
        intro b' hb'
        rcases hb' with ⟨h1, _⟩ | h
        · exact h1
        · refine .inr ⟨x, _, _, hr, rfl, hg, ?_⟩
          rw [bk_tuple]
          rcases live_two.1 h with ⟨_, h⟩ | ⟨_, h⟩
          · rw [bk_tuple] at h
            rcases h with h | ⟨y, hy, h⟩
            · exact .inl h
            · right
              rcases List.mem_or_eq_of_mem_set hy with hy | rfl
              · exact ⟨y, hy, h⟩
              · cases h
          · right
            refine ⟨u, List.mem_of_getElem? hu2, ?_⟩
            obtain ⟨a0, c, rfl, _⟩ := hrow
            exact h
      intro j g v h1 h2
      cases j with
      | zero =>
        simp at h1 h2; subst h1; subst h2
        refine ⟨b, es, clock, _, rfl, hb, ?_, hst, List.nodup_cons.2 ⟨fun hm => hd1.1 (hsub.subset hm), hsub.nodup hd1.2⟩⟩
        have := (hM.lasts (Lasts.mono hA) (fun _ _ _ _ => rfl)).set (k := key) (r := none) (u := .bool false) hke ⟨by simp, by simp⟩ rfl i
        have e' : es.toList.set i e = es.toList := by
          apply List.ext_getElem?
          intro j
          rw [List.getElem?_set]
          by_cases ej : i = j
          · subst ej; rw [if_pos rfl, if_pos (List.getElem?_eq_some_iff.1 he).1, he]
          · rw [if_neg ej]
        rw [e'] at this
        exact this
      | succ j => cases j with
        | succ j => simp at h1
        | zero =>
          simp at h1 h2; subst h1; subst h2
          obtain ⟨a0, c, h3, h4, h5, h6⟩ := hrow
          exact ⟨a0, c, h3, h4, h5, h6.imp id fun ⟨b, off, T, vs, h7, h8, h9, h10⟩ => ⟨b, off, T, vs, h7, h8, h9, RdL.mono hA h10⟩⟩)
    (by
      have key : ∀ b', Bk (.tuple ⟨.map (some b) :: us.set i (.bool false)⟩) b' → blk u = some b' → False := by
        intro b' h h'
        rw [bk_tuple] at h
        rcases h with h | ⟨y, hy, h⟩
        · simp only [blk, Option.some.injEq] at h; subst h
          exact hd1.1 (List.mem_filterMap.2 ⟨u, List.mem_of_getElem? hu2, h'⟩)
        · obtain ⟨j, hj⟩ := List.getElem?_of_mem hy
          rw [List.getElem?_set] at hj
          split at hj
          · split at hj
            · cases hj; cases h
            · cases hj
          · rename_i hne
            exact hne (filterMap_inj hd1.2 hu2 hj h' h)
      have hbu : ∀ b', Bk u b' → blk u = some b' := by
        intro b' h; obtain ⟨a0, c, rfl, _⟩ := hrow; exact h
      intro p q g g' v v' b' h1 h2 h3 h4 h5 h6 h7 h8
      cases p with
      | zero => cases q with
        | zero => rfl
        | succ q => cases q with
          | zero => simp at h5 h6; subst h5; subst h6; exact (key b' h7 (hbu b' h8)).elim
          | succ q => simp at h2
      | succ p => cases p with
        | zero => cases q with
          | zero => simp at h5 h6; subst h5; subst h6; exact (key b' h8 (hbu b' h7)).elim
          | succ q => cases q with
            | zero => rfl
            | succ q => simp at h2
        | succ p => simp at h1)
    (by
      intro b' h
      left
      rw [gv_one hr rfl hg, bk_tuple]
      rcases live_two.1 h with ⟨_, h⟩ | ⟨_, h⟩
      · rw [bk_tuple] at h
        rcases h with h | ⟨y, hy, h⟩
        · exact .inl h
        · right
          rcases List.mem_or_eq_of_mem_set hy with hy | rfl
          · exact ⟨y, hy, h⟩
          · cases h
      · right
        refine ⟨u, List.mem_of_getElem? hu2, ?_⟩
        obtain ⟨a0, c, rfl, _⟩ := hrow
        exact h)
    (Nat.le_refl _) (Str.refl w) (fun _ _ _ => rfl)
    (by intro i h v hi hv hne; cases i with
        | zero => simp at hi; subst hi; exact absurd rfl hne
        | succ i => simp at hi)
    (by
      intro h e; cases e
      refine ⟨by simp, fun i v v' hi hv1 hv2 => ?_⟩
      cases i with
      | succ i => simp at hi
      | zero =>
        rw [hg] at hv1; cases hv1
        simp at hv2; subst hv2
        exact ⟨by simp, fun u us h => by cases h; exact ⟨_, rfl⟩⟩)
  have e1 : (zipU [x] [.mapr sz (M.set i (key, none))]).foldl (fun hp u => hp.set u.1 u.2) (σ.hp.map (Reg.loseO (some x))) ++ [Reg.row sz L] = (σ.hp.map (Reg.lose x)).set x (.mapr sz (M.set i (key, none))) ++ [.row sz L] := rfl
  rw [e1] at I4 hL4
  exact ⟨ρ4, I4, h2 0, hrow, hL4.less⟩
/-- a row is put into a map -/
theorem putRow (I : Inv X w0 B0 σ a w ρ) {T kt et : TypeId} (ht : P.underlying T = some (.map kt et)) (hk : P.underlying kt = some (.int .i64)) {x n sz : Nat} {M : List (Int × Option (List (List D)))} {L : List (List D)} (hr : σ.hp[x]? = some (.mapr sz M)) (hn : σ.hp[n]? = some (.row sz L))
    {v : Value} (hv : (ρ[x]? = some v ∧ Flat v) ∨ ∃ us, ρ[x]? = some (.tuple ⟨v :: us⟩) ∧ Flat v) {key : Int} {u : Value} (hu : ρ[n]? = some u ∧ Flat u) {dst : Option Tmp} :
    ∃ w' ρ4, (Instr.mapUpdate T v (.int .i64 key) u).run P w = .ok () w' ∧ Inv X w0 B0 (σ.after dst .junk [(n, .gone), (x, .mapr sz (putM M key (some L)))] [] (some x)) (a.put dst undef) w' ρ4 := by
  obtain ⟨b, es, clock, us, rfl, hg, hb, hM, hst, hd⟩ := mapr_at I hr hv
  obtain ⟨hu, hfu⟩ := hu
  obtain ⟨u', hu', hrow⟩ := I.hp.val hn
  rw [hu] at hu'; cases hu'
  have hrow : RowAt (Av X ρ σ.hp) w u sz L := hrow
  have hne : n ≠ x := by intro e; subst e; rw [hr] at hn; cases hn
  have hks : ∀ e ∈ es.toList, ∃ n, e.key = .int .i64 n := by
    intro e he
    obtain ⟨j, hj⟩ := List.getElem?_of_mem he
    obtain ⟨_, k, _, _, _, h, _⟩ := hM.get hj
    exact ⟨k, h⟩
  obtain ⟨es', clock', hrun, hst', hes⟩ := run_update ht hk hb hks hst key u
  have hset := MapKept.heap_set (o' := .map es' clock') hb
  have hd1 := List.nodup_cons.1 hd
  have hBu : ∀ b', Bk u b' ↔ blk u = some b' := by intro b'; obtain ⟨a0, c, rfl, _⟩ := hrow; exact Iff.rfl
  have hnew : ∀ b', blk u = some b' → ¬ Bk (.tuple ⟨.map (some b) :: us⟩) b' := by
    intro b' h1 h2
    exact hne (I.hp.dis n x _ _ _ _ b' hn hr rfl rfl hu hg ((hBu b').2 h1) h2)
  -- what hangs on the map then
  obtain ⟨us', hus, hM2, hnd, hsub⟩ : ∃ us', True ∧ (∀ A', (∀ b', A' b' → Av X ρ σ.hp b') → MapRows A' w sz es'.toList us' (putM M key (some L))) ∧ (b :: us'.filterMap blk).Nodup ∧ ∀ y ∈ us', y ∈ us ∨ y = u := by
    have hrowA : ∀ A', (∀ b', A' b' → Av X ρ σ.hp b') → RowAt A' w u sz L := fun A' hA => hrow.lasts (Lasts.mono hA) (fun _ _ => rfl)
    have hkeys := nodup_keys (by rw [hM.keys, List.map_map]; rfl : es.toList.map (·.key) = (M.map (·.1)).map fun n => Value.int .i64 n) hst.2.2
    rcases hes with ⟨j, e, h1, h2, h3⟩ | ⟨h1, born, h3⟩
    · obtain ⟨uj, k, r, g1, g2, g3, _⟩ := hM.get h1
      rw [h2] at g3
      have hkk : key = k := by cases g3; rfl
      subst hkk
      refine ⟨us.set j u, trivial, fun A' hA => ?_, ?_, fun y hy => ?_⟩
      · rw [h3, putM_set g2 hkeys]
        exact (hM.lasts (Lasts.mono hA) (fun _ _ _ _ => rfl)).set (e := { e with val := u }) (r := some L) h2 hfu ⟨rfl, hrowA A' hA⟩ j
      · have hne1 : ∀ y ∈ us, ∀ b', blk y = some b' → blk u ≠ some b' := fun y hy b' h h' => hnew b' h' (bk_tuple.2 (.inr ⟨y, hy, h⟩))
        refine List.nodup_cons.2 ⟨fun hm => ?_, ?_⟩
        · obtain ⟨y, hy, h⟩ := List.mem_filterMap.1 hm
          rcases List.mem_or_eq_of_mem_set hy with hy | rfl
          · exact hd1.1 (List.mem_filterMap.2 ⟨y, hy, h⟩)
          · exact hnew b h (bk_tuple.2 (.inl rfl))
        · have gen : ∀ (l : List Value) (j : Nat), (l.filterMap blk).Nodup → (∀ y ∈ l, ∀ b', blk y = some b' → blk u ≠ some b') → ((l.set j u).filterMap blk).Nodup := by
            intro l
            induction l with
            | nil => intro j h _; simpa using h
            | cons y l ih =>
              intro j h hx
              have h' : (l.filterMap blk).Nodup := by
                rw [List.filterMap_cons] at h
                cases hy : blk y <;> rw [hy] at h
                · exact h
                · exact (List.nodup_cons.1 h).2
              cases j with
              | zero =>
                rw [List.set_cons_zero, List.filterMap_cons]
                cases hb : blk u with
                | none => exact h'
                | some b' =>
                  refine List.nodup_cons.2 ⟨fun hm => ?_, h'⟩
                  obtain ⟨z, hz, h⟩ := List.mem_filterMap.1 hm
                  exact hx z (List.mem_cons_of_mem _ hz) b' h hb
              | succ j =>
                rw [List.set_cons_succ, List.filterMap_cons]
                have ih' := ih j h' fun z hz => hx z (List.mem_cons_of_mem _ hz)
                cases hb : blk y with
                | none => exact ih'
                | some b' =>
                  refine List.nodup_cons.2 ⟨fun hm => ?_, ih'⟩
                  obtain ⟨z, hz, hzb⟩ := List.mem_filterMap.1 hm
                  rcases List.mem_or_eq_of_mem_set hz with hz | rfl
                  · rw [List.filterMap_cons, hb] at h
                    exact (List.nodup_cons.1 h).1 (List.mem_filterMap.2 ⟨z, hz, hzb⟩)
                  · exact hx y (List.mem_cons_self ..) b' hb hzb
          exact gen us j hd1.2 hne1
      · exact List.mem_or_eq_of_mem_set hy
    · refine ⟨us ++ [u], trivial, fun A' hA => ?_, ?_, fun y hy => by simpa using hy⟩
      · rw [h3, putM_app fun p hp => ?_]
        · exact (hM.lasts (Lasts.mono hA) (fun _ _ _ _ => rfl)).snoc (e := ⟨.int .i64 key, u, born⟩) (r := some L) rfl hfu ⟨rfl, hrowA A' hA⟩
        · obtain ⟨j, hj⟩ := List.getElem?_of_mem hp
          obtain ⟨k, r⟩ := p
          obtain ⟨e, _, he, _, hke, _⟩ := hM.getM hj
          intro e'
          have : k = key := e'
          subst this
          exact h1 e (List.mem_of_getElem? he) hke
      · rw [List.filterMap_append]
        refine List.nodup_cons.2 ⟨fun hm => ?_, ?_⟩
        · rcases List.mem_append.1 hm with hm | hm
          · exact hd1.1 hm
          · obtain ⟨y, hy, h⟩ := List.mem_filterMap.1 hm
            simp at hy; subst hy
            exact hnew b h (bk_tuple.2 (.inl rfl))
        · refine List.nodup_append.2 ⟨hd1.2, ?_, ?_⟩
          · rw [List.filterMap_cons]; cases blk u <;> simp
          · intro b1 h1 b2 h2 e
            subst e
            obtain ⟨y, hy, h⟩ := List.mem_filterMap.1 h1
            obtain ⟨y', hy', h'⟩ := List.mem_filterMap.1 h2
            simp at hy'; subst hy'
            exact hnew b1 h' (bk_tuple.2 (.inr ⟨y, hy, h⟩))
  have hGv : ∀ b', Gv ρ σ.hp [n, x] b' ↔ blk u = some b' ∨ Bk (.tuple ⟨.map (some b) :: us⟩) b' := by
    intro b'
    constructor
    · rintro ⟨h, hm, r, v, h1, h2, h3, h4⟩
      simp at hm
      rcases hm with rfl | rfl
      · rw [hu] at h3; cases h3; exact .inl ((hBu b').1 h4)
      · rw [hg] at h3; cases h3; exact .inr h4
    · rintro (h | h)
      · exact ⟨n, by simp, _, u, hn, rfl, hu, (hBu b').2 h⟩
      · exact ⟨x, by simp, _, _, hr, rfl, hg, h⟩
  have hbks : ∀ b', Bk (.tuple ⟨.map (some b) :: us'⟩) b' → blk u = some b' ∨ Bk (.tuple ⟨.map (some b) :: us⟩) b' := by
    intro b' h
    rw [bk_tuple] at h
    rcases h with h | ⟨y, hy, h⟩
    · exact .inr (bk_tuple.2 (.inl h))
    · rcases hsub y hy with hy | rfl
      · exact .inr (bk_tuple.2 (.inr ⟨y, hy, h⟩))
      · exact .inl h
  obtain ⟨ρ4, I4, h1, _⟩ := I.virt (hs := [n, x]) (by simp [hne]) (outs := [.gone, .mapr sz (putM M key (some L))]) (new := []) (oρ := [u, .tuple ⟨.map (some b) :: us'⟩]) (nρ := []) (inv := some x) (w' := { w with heap := w.heap.setIfInBounds b (.map es' clock') })
    (by intro h hh; simp at hh; rcases hh with rfl | rfl; exact ⟨_, hn, rfl, trivial⟩; exact ⟨_, hr, rfl, trivial⟩) rfl rfl rfl (by intro g hg; simp at hg; rcases hg with rfl | rfl <;> trivial)
    (by
      have hA : ∀ b', ((Av X ρ σ.hp b' ∧ ¬ Gv ρ σ.hp [n, x] b') ∨ Live [u, Value.tuple ⟨.map (some b) :: us'⟩] [.gone, .mapr sz (putM M key (some L))] b') → Av X ρ σ.hp b' := by
        intro b' hb'
        rcases hb' with ⟨h1, _⟩ | h
        · exact h1
        · rcases live_two.1 h with ⟨h, _⟩ | ⟨_, h⟩
          · cases h
          · rcases hbks b' h with h | h
            · exact .inr ⟨n, _, u, hn, rfl, hu, (hBu b').2 h⟩
            · exact .inr ⟨x, _, _, hr, rfl, hg, h⟩
      intro j g v h1 h2
      cases j with
      | zero => simp at h1; subst h1; trivial
      | succ j => cases j with
        | succ j => simp at h1
        | zero =>
          simp at h1 h2; subst h1; subst h2
          refine ⟨b, es', clock', us', rfl, hset.1, ?_, hst', hnd⟩
          refine MapRows.lasts (A := Av X ρ σ.hp) ⟨by simp, fun b' hb' hnA => hset.2 b' (fun e => hnA (.inr ⟨x, _, _, hr, rfl, hg, by rw [bk_tuple, e]; exact .inl rfl⟩)), fun b' _ h => hA b' h⟩ (fun y hy b' h => ?_) (hM2 _ fun _ h => h)
          refine hset.2 b' fun e => ?_
          subst e
          exact (List.nodup_cons.1 hnd).1 (List.mem_filterMap.2 ⟨y, hy, h⟩))
    (by
      intro p q g g' v v' b' h1 h2 h3 h4 h5 h6 h7 h8
      cases p with
      | zero => simp at h1; subst h1; cases h3
      | succ p => cases p with
        | succ p => simp at h1
        | zero => cases q with
          | zero => simp at h2; subst h2; cases h4
          | succ q => cases q with
            | zero => rfl
            | succ q => simp at h2)
    (by
      intro b' h
      left
      rw [hGv]
      rcases live_two.1 h with ⟨h, _⟩ | ⟨_, h⟩
      · cases h
      · exact hbks b' h)
    (by simp) ⟨rfl, rfl, rfl, Nat.le_refl _⟩ (by
      intro b' hb' hnG
      refine hset.2 b' fun e => hnG ((hGv b').2 (.inr ?_))
      rw [bk_tuple, e]; exact .inl rfl)
    (by intro i h v hi hv hne'; cases i with
        | zero => simp at hi; subst hi; rw [hu] at hv; cases hv; rfl
        | succ i => cases i with
          | zero => simp at hi; subst hi; exact absurd rfl hne'
          | succ i => simp at hi)
    (by
      intro h e; cases e
      refine ⟨by simp, fun i v v' hi hv1 hv2 => ?_⟩
      cases i with
      | zero => simp at hi; exact absurd hi hne
      | succ i => cases i with
        | succ i => simp at hi
        | zero =>
          rw [hg] at hv1; cases hv1
          simp at hv2; subst hv2
          exact ⟨by simp, fun u us h => by cases h; exact ⟨_, rfl⟩⟩)
  refine ⟨_, ρ4, hrun, ?_⟩
  have := Inv.put (σ := ⟨_, _⟩) I4 (dst := dst) (v := undef) (s := .junk) trivial
  rw [List.append_nil] at this
  have e2 : σ.after dst .junk [(n, .gone), (x, .mapr sz (putM M key (some L)))] [] (some x) = afterD (σ.t.map (S.loseO (some x))) ((zipU [n, x] [.gone, .mapr sz (putM M key (some L))]).foldl (fun hp u => hp.set u.1 u.2) (σ.hp.map (Reg.loseO (some x)))) dst .junk := by
    simp only [St.after, List.append_nil]; rfl
  rw [e2]; exact this

/-! handles that are not there yet are nowhere known -/
theorem lt_of_get {x : Nat} {v : Value} (h : ρ[x]? = some v) : Nat.blt x ρ.length = true := by
  rw [Nat.blt_eq]; exact (List.getElem?_eq_some_iff.1 h).1
theorem Cap.under_of {A : Nat → Prop} {v : Value} {c : Cap} (h : CapRel ρ A w v c) : c.under ρ.length = true := by
  cases c <;> simp only [CapRel] at h <;> simp only [Cap.under]
  case ptr => obtain ⟨b, h, _⟩ := h; exact lt_of_get h
  case own => exact lt_of_get h.1
theorem C.under_of {A : Nat → Prop} {v : Value} {c : C} (h : CRel ρ A w v c) : c.under ρ.length = true := by
  cases c <;> simp only [CRel] at h <;> simp only [C.under]
  case own => exact lt_of_get h.1
  case win => obtain ⟨_, _, _, h, _⟩ := h; exact lt_of_get h
  case ptr => obtain ⟨_, h, _⟩ := h; exact lt_of_get h
  case prow => obtain ⟨_, _, _, _, h, _⟩ := h; exact lt_of_get h
  case town => obtain ⟨_, h, _⟩ := h; exact lt_of_get h
  case sub => obtain ⟨_, _, h, _⟩ := h; exact lt_of_get h
  case fn f cs =>
    obtain ⟨vs, _, h⟩ := h
    rw [List.all_eq_true]
    intro c hc
    obtain ⟨i, hi⟩ := List.getElem?_of_mem hc
    obtain ⟨u, _, hr⟩ := h.get' hi
    exact Cap.under_of hr
theorem Cap.lose_under {c : Cap} {n : Nat} (h : c.under n = true) : c.lose n = c := by
  cases c <;> simp only [Cap.lose]
  case own x =>
    have hx : x < n := by simpa [Cap.under, Nat.blt_eq] using h
    have : (n == x) = false := by simp; omega
    rw [this]; rfl
theorem C.lose_under {c : C} {n : Nat} (h : c.under n = true) : c.lose n = c := by
  have key : ∀ x, Nat.blt x n = true → (n == x) = false := fun x hx => by rw [Nat.blt_eq] at hx; simp; omega
  cases c <;> simp only [C.lose] <;> simp only [C.under] at h
  case fn f cs =>
    congr 1
    rw [List.all_eq_true] at h
    induction cs with
    | nil => rfl
    | cons c cs ih => rw [List.map_cons, Cap.lose_under (h c (List.mem_cons_self ..)), ih fun x hx => h x (List.mem_cons_of_mem _ hx)]
  all_goals (rw [key _ h]; rfl)
theorem C.lose_under' {c : C} {n x : Nat} (h : c.under n = true) : (c.lose x).lose n = c.lose x := by
  apply C.lose_under
  cases c <;> simp only [C.lose] <;> simp only [C.under] at h ⊢
  case own y => cases hx : (x == y) <;> simp_all [C.under]
  case win y _ _ _ => cases hx : (x == y) <;> simp_all [C.under]
  case prow y _ _ _ => cases hx : (x == y) <;> simp_all [C.under]
  case sub y _ => cases hx : (x == y) <;> simp_all [C.under]
  case fn f cs =>
    rw [List.all_eq_true] at h ⊢
    intro c hc
    obtain ⟨c0, hc0, rfl⟩ := List.mem_map.1 hc
    have := h c0 hc0
    cases c0 <;> simp only [Cap.lose] <;> try exact this
    rename_i y
    cases hx : (x == y)
    · exact this
    · rfl
  all_goals first | exact h | rfl
theorem cs_lose {A : Nat → Prop} {us : List Value} {cs : List C} {x : Nat} (h : All2 (fun u c => Flat u ∧ CRel ρ A w u c) us cs) : (cs.map (C.lose x)).map (C.lose ρ.length) = cs.map (C.lose x) := by
  induction h with
  | nil => rfl
  | cons r _ ih => rw [List.map_cons, List.map_cons, ih, C.lose_under' (C.under_of r.2)]
theorem S.lose_again {A : Nat → Prop} {v : Value} {s : S} {x : Nat} (h : SRel ρ A w v s) : (s.lose x).lose ρ.length = s.lose x := by
  cases s with
  | tup l => rfl
  | v y => cases y with
    | c c => show S.v (.c ((c.lose x).lose ρ.length)) = _; rw [C.lose_under' (C.under_of (show CRel ρ A w v c from h))]; rfl
    | ag l =>
      obtain ⟨cs, _, h⟩ := h
      show S.v (.ag ((l.map (C.lose x)).map (C.lose ρ.length))) = _
      rw [cs_lose h]; rfl
    | cnd _ _ _ => rfl
theorem Reg.lose_again {A : Nat → Prop} {v : Value} {r : Reg} {x : Nat} (h : RegRel ρ A w v r) : (r.lose x).lose ρ.length = r.lose x := by
  cases r with
  | box cs =>
    obtain ⟨b, T, vs, _, _, h⟩ := h
    show Reg.box ((cs.map (C.lose x)).map (C.lose ρ.length)) = _
    rw [cs_lose h]; rfl
  | rowt sz L cs =>
    obtain ⟨a, c, _, _, _, _, b, off, T, vs, _, _, _, _, h⟩ := h
    obtain ⟨us, h, _⟩ := h.vals
    show Reg.rowt sz L ((cs.map (C.lose x)).map (C.lose ρ.length)) = _
    rw [cs_lose h]; rfl
  | mem u c =>
    rcases h with h | ⟨y, rfl, h⟩ | ⟨y, _, _, _, rfl, rfl, h⟩
    · show Reg.mem u ((c.lose x).lose ρ.length) = _; rw [C.lose_under' (C.under_of (show CRel ρ A w _ c from h))]; rfl
    · show Reg.mem u (((C.own y).lose x).lose ρ.length) = _
      have hy := (List.getElem?_eq_some_iff.1 h).1
      have e1 : (C.own y).lose x = bif x == y then .junk else .own y := rfl
      show Reg.mem u (((C.own y).lose x).lose ρ.length) = Reg.mem u ((C.own y).lose x)
      congr 1
      rw [e1]
      by_cases e : x = y
      · rw [beq_iff_eq.2 e]; rfl
      · rw [beq_eq_false_iff_ne.2 e]
        show (bif ρ.length == y then C.junk else .own y) = .own y
        rw [beq_eq_false_iff_ne.2 (by omega)]; rfl
    · rfl
  | _ => rfl
/-- something is appended to a row that lies in a map -/
theorem append_sub (I : Inv X w0 B0 σ a w ρ) {T T2 ty e e2 : TypeId} {i : TypeInfo} {z : Value} (hd : P.underlying T = some (.slice e)) (hd2 : P.underlying T2 = some (.slice e2)) (hi : P.info? e = some i) (hz : i.zero = some z) (hzs : z.cells.size = i.size) (hb1 : 1 ≤ i.bytes) (hs1 : 1 ≤ i.size)
    {x j : Nat} {M : List (Int × Option (List (List D)))} (hr : σ.hp[x]? = some (.mapr i.size M)) {key : Int} {L : List (List D)} (hM0 : M[j]? = some (key, some L)) {u : Value} (hu : CRel ρ (Av X ρ σ.hp) w u (.sub x j))
    {vb : Value} {N : List (List D)} {a1 : Option Addr} {cap1 : Nat} (hvb : vb = .slice a1 N.length cap1) (hN : N = [] ∨ ∃ b off, a1 = some ⟨b, off, none⟩ ∧ b < w.heap.size ∧ RdL (Av X ρ σ.hp) w b off i.size N)
    (hbig : (L.length + N.length) * i.bytes ≤ 140737488355328) {dst : Option Tmp} :
    ∃ v' w' ρ', (Builtin.append_ #[T, T2] ty #[u, vb]).run P w = .ok v' w' ∧ Inv X w0 B0 (σ.after dst (.one (.own σ.hp.length)) [(x, .mapr i.size (M.set j (key, none)))] [.row i.size (L ++ N)] (some x)) (a.put dst v') w' ρ' := by
  obtain ⟨ρ4, I4, hρu, hrow, hA4⟩ := takeRow I hr hM0 hu
  obtain ⟨a0, cap, hua, hLc, hz0, hR⟩ := hrow
  have hlt : x < σ.hp.length := (List.getElem?_eq_some_iff.1 hr).1
  have hlen : ((σ.hp.map (Reg.lose x)).set x (.mapr i.size (M.set j (key, none)))).length = σ.hp.length := by simp
  have hget : ((σ.hp.map (Reg.lose x)).set x (.mapr i.size (M.set j (key, none))) ++ [Reg.row i.size L])[σ.hp.length]? = some (.row i.size L) := by
    rw [List.getElem?_append_right (by omega), hlen, Nat.sub_self]; rfl
  have hmono : ∀ {b off : Nat} {K : List (List D)}, RdL (Av X ρ σ.hp) w b off i.size K → RdL (Av X ρ4 ((σ.hp.map (Reg.lose x)).set x (.mapr i.size (M.set j (key, none))) ++ [Reg.row i.size L])) w b off i.size K := by
    intro b off K h
    exact RdL.rows ⟨Nat.le_refl _, fun _ _ _ => rfl, hA4⟩ rfl h
  obtain ⟨v', w', ρ', hrun, I5⟩ := append_wp I4 (ty := ty) (h? := some σ.hp.length) hd hd2 hi hz hzs hb1 hs1 hua hLc
    (.inr ⟨σ.hp.length, L, u, rfl, hget, hρu, ⟨_, _, _, hua⟩, by
      subst hua
      cases cap with
      | zero => exact .inl rfl
      | succ c =>
        rcases hR with h | ⟨b, off, Tb, cur, h1, h2, h3, h4⟩
        · cases h
        · subst h1; exact .inr ⟨b, off, Tb, cur, rfl, rfl, h2, h3, hmono h4⟩⟩) hvb (hN.imp id fun ⟨b, off, h1, h2, h3⟩ => ⟨b, off, h1, h2, hmono h3⟩) hbig (dst := dst)
  refine ⟨v', w', ρ', hrun, ?_⟩
  have et : (σ.t.map (S.lose x)).map (S.lose σ.hp.length) = σ.t.map (S.lose x) := by
    rw [List.map_map]
    refine List.map_congr_left fun s hs => ?_
    obtain ⟨q, hq⟩ := List.getElem?_of_mem hs
    have := S.lose_again (x := x) (I.t q s hq)
    rw [I.hp.len] at this
    exact this
  have eh : ((σ.hp.map (Reg.lose x)).set x (.mapr i.size (M.set j (key, none))) ++ [Reg.row i.size L]).map (Reg.lose σ.hp.length) = (σ.hp.map (Reg.lose x)).set x (.mapr i.size (M.set j (key, none))) ++ [Reg.row i.size L] := by
    have e1 : (σ.hp.map (Reg.lose x)).map (Reg.lose σ.hp.length) = σ.hp.map (Reg.lose x) := by
      rw [List.map_map]
      refine List.map_congr_left fun r hr => ?_
      obtain ⟨q, hq⟩ := List.getElem?_of_mem hr
      obtain ⟨v, hv, hR⟩ := I.hp.val hq
      have := Reg.lose_again (x := x) hR
      rw [I.hp.len] at this
      exact this
    rw [List.map_append, List.map_set, e1]; rfl
  have e5 : St.after ⟨σ.t.map (S.lose x), (σ.hp.map (Reg.lose x)).set x (.mapr i.size (M.set j (key, none))) ++ [Reg.row i.size L]⟩ dst (.one (.own σ.hp.length)) [(σ.hp.length, .row i.size (L ++ N))] [] (some σ.hp.length) =
      σ.after dst (.one (.own σ.hp.length)) [(x, .mapr i.size (M.set j (key, none)))] [.row i.size (L ++ N)] (some x) := by
    show afterD ((σ.t.map (S.lose x)).map (S.lose σ.hp.length)) ((((σ.hp.map (Reg.lose x)).set x (.mapr i.size (M.set j (key, none))) ++ [Reg.row i.size L]).map (Reg.lose σ.hp.length)).set σ.hp.length (.row i.size (L ++ N)) ++ []) dst (.one (.own σ.hp.length)) = afterD (σ.t.map (S.lose x)) ((σ.hp.map (Reg.lose x)).set x (.mapr i.size (M.set j (key, none))) ++ [.row i.size (L ++ N)]) dst (.one (.own σ.hp.length))
    rw [et, eh, List.append_nil, List.set_append_right _ _ (by omega), hlen, Nat.sub_self]
    rfl
  rw [← e5]
  exact I5
/-- a part of a row is made nothing -/
theorem clearRow (I : Inv X w0 B0 σ a w ρ) {T e : TypeId} {ie : TypeInfo} {z : Value} {ez : List D} (hd : P.underlying T = some (.slice e)) (hie : P.info? e = some ie) (hz : ie.zero = some z) (hzs : z.cells.size = ie.size) (hez : All2 (fun v x => ∀ A w, Rd A w v x) z.cells.toList ez)
    {x lo n : Nat} {L : List (List D)} (hr : σ.hp[x]? = some (.row ie.size L)) {u : Value} (hu : CRel ρ (Av X ρ σ.hp) w u (.win x ie.size lo n)) {dst : Option Tmp} {ty : TypeId} :
    ∃ w', (Builtin.clear_ #[T] ty #[u]).run P w = .ok (.tuple #[]) w' ∧ Inv X w0 B0 (σ.after dst .junk [(x, .row ie.size (L.take lo ++ List.replicate n ez ++ L.drop (lo + n)))] [] none) (a.put dst (.tuple #[])) w' ρ := by
  obtain ⟨a0, l0, c0, hρ, hlo, hl0, a', rfl, ha'⟩ := hu
  obtain ⟨v, hv, hR⟩ := I.hp.val hr
  rw [hρ] at hv; cases hv
  obtain ⟨a1, c, he, hc, hsz, hR⟩ := hR
  cases he
  have hezl : ez.length = ie.size := by rw [← hez.length]; simpa using hzs
  have hlen : (L.take lo ++ List.replicate n ez ++ L.drop (lo + n)).length = L.length := by simp; omega
  by_cases hn : n = 0
  · subst hn
    have eL : L.take lo ++ List.replicate 0 ez ++ L.drop (lo + 0) = L := by simp
    rw [eL]
    refine ⟨w, by cases a' <;> simp [Builtin.clear_, run_underlying hd], ?_⟩
    have hset : σ.hp.set x (.row ie.size L) = σ.hp := by
      apply List.ext_getElem?
      intro j
      rw [List.getElem?_set]
      by_cases e : x = j
      · subst e; rw [if_pos rfl, if_pos (List.getElem?_eq_some_iff.1 hr).1, hr]
      · rw [if_neg e]
    rw [after_upd, hset]
    exact Inv.put (σ := ⟨σ.t, σ.hp⟩) I trivial
  · rcases hR with e | ⟨b, off, Tb, cur, rfl, hcur, hs, hL⟩
    · omega
    · rcases ha' with e | rfl
      · omega
      · have hbd : off + lo * ie.size + n * ie.size ≤ cur.size := by
          have : (lo + n) * ie.size ≤ c0 * ie.size := Nat.mul_le_mul_right _ (by omega)
          rw [Nat.add_mul] at this; omega
        let xs : List Value := (Builtin.zeroCells z.cells n).toList
        have hxs : xs = ((Array.range (n * ie.size)).map (z.cells[· % z.cells.size]!)).toList := by
          show (Builtin.zeroCells z.cells n).toList = _
          simp [Builtin.zeroCells, hzs]
        have hxl : xs.length = n * ie.size := by rw [hxs]; simp
        have hxr : ∀ (A : Nat → Prop) (w : World), All2 (Rd A w) xs (List.replicate n ez).flatten := by
          intro A w
          refine All2.of_get (by rw [hxl, flatten_length (sz := ie.size) (by intro e he; rw [List.eq_of_mem_replicate he]; exact hezl)]; simp) fun q u y hu hy => ?_
          have hq : q < n * ie.size := by rw [← hxl]; exact (List.getElem?_eq_some_iff.1 hu).1
          obtain ⟨y', hy', u', hu', hr'⟩ := zeroCells_rel (A := A) (w := w) hzs hsz hez n q hq
          have hpos : 0 < ie.size := hsz
          have hq2 : (List.replicate n ez).flatten[q]? = ez[q % ie.size]? := by
            have : ∀ (n q : Nat), q < n * ie.size → (List.replicate n ez).flatten[q]? = ez[q % ie.size]? := by
              intro n
              induction n with
              | zero => intro q h; omega
              | succ n ih =>
                intro q h
                rw [List.replicate_succ, List.flatten_cons]
                rcases Nat.lt_or_ge q ie.size with h1 | h1
                · rw [List.getElem?_append_left (by omega), Nat.mod_eq_of_lt h1]
                · rw [List.getElem?_append_right (by omega), hezl, ih _ (by rw [Nat.add_mul] at h; omega)]
                  congr 1
                  exact (Nat.mod_eq_sub_mod h1).symm
            exact this n q hq
          rw [hq2, hy'] at hy; cases hy
          rw [hxs, Array.getElem?_toList, hu'] at hu; cases hu
          exact hr'
        have hxf : ∀ v ∈ xs, Flat v := by
          intro v hv
          obtain ⟨q, hq⟩ := List.getElem?_of_mem hv
          have hlt : q < (List.replicate n ez).flatten.length := by rw [← (hxr (fun _ => True) w).length]; exact (List.getElem?_eq_some_iff.1 hq).1
          exact ((hxr (fun _ => True) w).get hq (List.getElem?_eq_getElem hlt)).flat
        have hst := run_puts (P := P) (xs := xs) hcur (show off + lo * ie.size + xs.length ≤ cur.size by omega) hxf
        have hrun : (Builtin.clear_ #[T] ty #[.slice (some (Addr.add ⟨b, off, none⟩ (lo * ie.size))) n (c0 - lo)]).run P w = .ok (.tuple #[]) (w.setRow b (cur.toList.take (off + lo * ie.size) ++ xs ++ cur.toList.drop (off + lo * ie.size + xs.length)).toArray) := by
          obtain ⟨m, rfl⟩ : ∃ m, n = m + 1 := ⟨n - 1, by omega⟩
          have hzv : (zeroValue e).run P w = .ok z w := by simp [zeroValue, typeInfo, hie, hz]
          simp only [Builtin.clear_, List.getElem?_toArray, List.getElem?_cons_zero, Sem.run_bind, run_underlying hd, Result.andThen_ok, hzv, Addr.add_lit]
          show ((storeCells ⟨b, off + lo * ie.size, none⟩ xs).run P w).andThen _ = _
          rw [hst]; rfl
        refine ⟨_, hrun, ?_⟩
        have hc0 : c0 ≠ 0 := by omega
        obtain ⟨c1, rfl⟩ : ∃ c1, c0 = c1 + 1 := ⟨c0 - 1, by omega⟩
        have T' := touchSet I (w' := w.setRow b (cur.toList.take (off + lo * ie.size) ++ xs ++ cur.toList.drop (off + lo * ie.size + xs.length)).toArray) (r' := .row ie.size (L.take lo ++ List.replicate n ez ++ L.drop (lo + n))) hr rfl hρ (by simp) ⟨rfl, rfl, rfl, Nat.le_refl _⟩
          (fun b' hb' => by
            by_cases e : b' = b
            · subst e; exact .inr rfl
            · exact .inl (setRow_other w b b' _ e))
        rw [after_upd]
        have := I.touchPut T' (dst := dst) (v := .tuple #[]) (s := .junk) ?_ trivial
        · rwa [map_sloseO_none] at this
        · have hnew := setRow_heap w b cur (cur.toList.take (off + lo * ie.size) ++ xs ++ cur.toList.drop (off + lo * ie.size + xs.length)).toArray Tb (0, 0) hcur
          refine ⟨_, _, by rw [hlen], by rw [hlen]; exact hc, hsz, .inr ⟨b, off, Tb, _, rfl, hnew, by simp; omega, ?_⟩⟩
          obtain ⟨hLe, _⟩ := RdL_iff.1 hL
          have htk : (L.take lo).length = lo := by simp; omega
          refine RdL_cells hnew (fun e he => ?_) fun q y hy => ?_
          · rcases List.mem_append.1 he with he | he
            · rcases List.mem_append.1 he with he | he
              · exact hLe e (List.mem_of_mem_take he)
              · rw [List.eq_of_mem_replicate he]; exact hezl
            · exact hLe e (List.mem_of_mem_drop he)
          · have hLc : ∀ (q : Nat) (y : D), L.flatten[q]? = some y → ∃ u, cur[off + q]? = some u ∧ Rd (Av X ρ σ.hp) w u y := by
              intro q y hy
              obtain ⟨u, hu, hr⟩ := (RdL_iff.1 hL).2.get q y hy
              exact ⟨u, by rw [cell_of_row w b _ cur Tb (0, 0) hcur] at hu; exact hu, hr⟩
            have hsplit : L.flatten = (L.take lo).flatten ++ ((L.drop lo).take n).flatten ++ (L.drop (lo + n)).flatten := by
              rw [← List.flatten_append, ← List.flatten_append]
              congr 1
              rw [← List.drop_drop, List.append_assoc, List.take_append_drop, List.take_append_drop]
            have f1 : (L.take lo).flatten.length = lo * ie.size := by rw [flatten_length (sz := ie.size) fun e he => hLe e (List.mem_of_mem_take he), htk]
            have f2 : ((L.drop lo).take n).flatten.length = n * ie.size := by
              rw [flatten_length (sz := ie.size) fun e he => hLe e (List.mem_of_mem_drop (List.mem_of_mem_take he))]
              congr 1; simp; omega
            have f3 : (List.replicate n ez).flatten.length = n * ie.size := by rw [← (hxr (fun _ => True) w).length, hxl]
            rw [List.flatten_append, List.flatten_append] at hy
            rw [List.getElem?_toArray]
            rcases Nat.lt_or_ge q (lo * ie.size) with h1 | h1
            · rw [List.append_assoc, List.getElem?_append_left (by omega)] at hy
              obtain ⟨u, hu, hr⟩ := hLc q y (by rw [hsplit, List.append_assoc, List.getElem?_append_left (by omega)]; exact hy)
              refine ⟨u, ?_, hr.lasts T'.lasts⟩
              have hlt : off + q < cur.size := (Array.getElem?_eq_some_iff.1 hu).1
              rw [List.append_assoc, List.getElem?_append_left (by simp; omega), List.getElem?_take, if_pos (by omega)]
              simpa using hu
            · rcases Nat.lt_or_ge q (lo * ie.size + n * ie.size) with h2 | h2
              · rw [List.getElem?_append_left (by rw [List.length_append]; omega), List.getElem?_append_right (by omega), f1] at hy
                obtain ⟨u, hu, hr⟩ := (hxr (Av X ρ (σ.hp.set x (.row ie.size (L.take lo ++ List.replicate n ez ++ L.drop (lo + n))))) (w.setRow b (cur.toList.take (off + lo * ie.size) ++ xs ++ cur.toList.drop (off + lo * ie.size + xs.length)).toArray)).get' hy
                refine ⟨u, ?_, hr⟩
                rw [List.append_assoc, List.getElem?_append_right (by simp; omega), List.getElem?_append_left (by simp; omega), ← hu]
                congr 1; simp; omega
              · rw [List.getElem?_append_right (by rw [List.length_append]; omega), List.length_append, f1, f3] at hy
                obtain ⟨u, hu, hr⟩ := hLc q y (by rw [hsplit, List.getElem?_append_right (by rw [List.length_append]; omega), List.length_append, f1, f2]; exact hy)
                refine ⟨u, ?_, hr.lasts T'.lasts⟩
                have hlt : off + q < cur.size := (Array.getElem?_eq_some_iff.1 hu).1
                rw [List.append_assoc, List.getElem?_append_right (by simp; omega), List.getElem?_append_right (by simp; omega), List.getElem?_drop]
                have : off + lo * ie.size + xs.length + (off + q - (cur.toList.take (off + lo * ie.size)).length - xs.length) = off + q := by simp; omega
                rw [this]; simpa using hu
end
end Go.Proofs.YtphmcgmblkbijaaVY
