/-
  VX: calls, and every operation that writes memory or makes it. By the session's own hand.
-/
import Derived.Test.YtgpnmifejgdipaaDoorVx7
set_option linter.unusedSectionVars false
set_option linter.unusedVariables false
set_option linter.unusedSimpArgs false
namespace Go.Proofs.YtgpnmifejgdipaaDoorVX
section
variable {P : Program} {w w' : World} {X : Nat → Prop} {w0 : World} {B0 : Nat → Prop} [hGP : GPc X B0 w0] {σ : St} {a : Act} {ρ ρn : Hs}

/-- What is promised of a function: called with what is only read, it gives this value and this new memory, and nothing that was is changed. -/
def Ok (P : Program) (f : FuncId) (R : List S → S → List Reg → Prop) : Prop :=
  ∀ (X : Nat → Prop) (w : World) (args : Array Value) (ss : List S) (r : S) (new : List Reg), GP X w → (∀ b, X b → b < w.heap.size) → All2 (SRel [] X w) args.toList ss → R ss r new →
    Calls P f args w fun e w' => ∃ v ρ, e = .returned v ∧ SRel ρ (Av X ρ new) w' v r ∧ HpRel X ρ new w' ∧ w.heap.size ≤ w'.heap.size ∧ Str w w' ∧ (∀ b, b < w.heap.size → w'.heap[b]? = w.heap[b]?) ∧ ∀ b, Live ρ new b → w.heap.size ≤ b

theorem Lasts.mono {A A' : Nat → Prop} {w : World} (h : ∀ b, A' b → A b) : Lasts A A' w w := ⟨Nat.le_refl _, fun _ _ _ => rfl, fun b _ => h b⟩
section shift
variable {A A' : Nat → Prop} (hA : ∀ b, A' b → A b)
include hA
theorem getElem_shift (ρ : Hs) {h : Nat} {v : Value} (hv : ρn[h]? = some v) : (ρ ++ ρn)[ρ.length + h]? = some v := by
  rw [List.getElem?_append_right (by omega), Nat.add_sub_cancel_left]; exact hv
theorem CapRel.shift {v : Value} {c : Cap} (h : CapRel ρn A w v c) : CapRel (ρ ++ ρn) A' w v (c.shift ρ.length) := by
  cases c <;> simp only [CapRel, Cap.shift] at h ⊢
  case ptr => obtain ⟨b, h1, h2⟩ := h; exact ⟨b, getElem_shift (A := A) (A' := A') hA ρ h1, h2⟩
  case pel => obtain ⟨b, off, h1, h2, h3⟩ := h; exact ⟨b, off, h1, (Lasts.mono hA).at h2, RdC.lasts (Lasts.mono hA) h2.2 h3⟩
theorem CRel.shift {v : Value} {c : C} (h : CRel ρn A w v c) : CRel (ρ ++ ρn) A' w v (c.shift ρ.length) := by
  have hs := fun h v => getElem_shift (A := A) (A' := A') (ρn := ρn) hA ρ (h := h) (v := v)
  cases c <;> simp only [CRel, C.shift] at h ⊢
  case d => exact h.lasts (Lasts.mono hA)
  case emp => exact h
  case own => exact ⟨hs _ _ h.1, h.2⟩
  case win => obtain ⟨x, l, c, h1, h2⟩ := h; exact ⟨x, l, c, hs _ _ h1, h2⟩
  case ptr => obtain ⟨b, h1, h2⟩ := h; exact ⟨b, hs _ _ h1, h2⟩
  case prow => obtain ⟨b, off, l, c, h1, h2⟩ := h; exact ⟨b, off, l, c, hs _ _ h1, h2⟩
  case pel => obtain ⟨b, off, h1, h2, h3⟩ := h; exact ⟨b, off, h1, (Lasts.mono hA).at h2, RdC.lasts (Lasts.mono hA) h2.2 h3⟩
  case fn => obtain ⟨vs, h1, h2⟩ := h; exact ⟨vs, h1, h2.mapR fun _ _ h => h.shift hA⟩
theorem V1Rel.shift {v : Value} : ∀ {x : V1}, V1Rel ρn A w v x → V1Rel (ρ ++ ρn) A' w v (x.shift ρ.length)
  | .c _, h => CRel.shift hA h
  | .ag _, ⟨cs, hv, h⟩ => ⟨cs, hv, h.mapR fun _ _ h => ⟨h.1, h.2.shift hA⟩⟩
  | .cnd _ _ _, h => ⟨fun e => V1Rel.shift (h.1 e), h.2⟩
theorem SRel.shift {v : Value} {s : S} (h : SRel ρn A w v s) : SRel (ρ ++ ρn) A' w v (s.shift ρ.length) := by
  cases s with
  | v x => exact V1Rel.shift hA h
  | tup l => obtain ⟨vs, hv, h⟩ := h; exact ⟨vs, hv, h.mapR fun _ _ h => V1Rel.shift hA h⟩
theorem RdL.mono {b off sz : Nat} {L : List (List D)} (h : RdL A w b off sz L) : RdL A' w b off sz L := RdL.rows (Lasts.mono hA) rfl h
theorem RegRel.shift {v : Value} {r : Reg} (h : RegRel ρn A w v r) : RegRel (ρ ++ ρn) A' w v (r.shift ρ.length) := by
  cases r with
  | box cs => obtain ⟨b, T, vs, h1, h2, h3⟩ := h; exact ⟨b, T, vs, h1, h2, h3.mapR fun _ _ h => ⟨h.1, h.2.shift hA⟩⟩
  | row sz L =>
    obtain ⟨x, c, h1, h2, h3, h4⟩ := h
    exact ⟨x, c, h1, h2, h3, h4.imp id fun ⟨b, off, T, vs, h5, h6, h7, h8⟩ => ⟨b, off, T, vs, h5, h6, h7, RdL.mono hA h8⟩⟩
  | frz sz L => exact Rd.lasts (Lasts.mono hA) h
  | gone => trivial
end shift
theorem live_shift (n : Nat) (r : Reg) : (r.shift n).live = r.live := by cases r <;> rfl
theorem Live_append {hp new : List Reg} {n : Nat} (hn : ρ.length = hp.length) {b : Nat} (h : Live (ρ ++ ρn) (hp ++ new.map (Reg.shift n)) b) : Live ρ hp b ∨ Live ρn new b := by
  obtain ⟨h, r, v, h1, h2, h3, h4⟩ := h
  rcases Nat.lt_or_ge h hp.length with hlt | hge
  · rw [List.getElem?_append_left hlt] at h1
    rw [List.getElem?_append_left (by omega)] at h3
    exact .inl ⟨h, r, v, h1, h2, h3, h4⟩
  · rw [List.getElem?_append_right hge, List.getElem?_map] at h1
    rw [List.getElem?_append_right (by omega)] at h3
    obtain ⟨r0, h0, rfl⟩ := Option.map_eq_some_iff.1 h1
    exact .inr ⟨h - hp.length, r0, v, h0, by rwa [live_shift] at h2, by rwa [hn] at h3, h4⟩
theorem keeps_append (ρ ρn : Hs) : Keeps none ρ (ρ ++ ρn) := ⟨fun h v _ hv => by rw [List.getElem?_append_left (List.getElem?_eq_some_iff.1 hv).1]; exact hv, fun _ _ h => by cases h⟩
/-- what a callee made is taken over -/
theorem Inv.merge (I : Inv X w0 B0 σ a w ρ) {Xc : Nat → Prop} (hX : ∀ b, Av X ρ σ.hp b → Xc b) {new : List Reg} {r : S} {v : Value} (hs : SRel ρn (Av Xc ρn new) w' v r) (hh : HpRel Xc ρn new w') (hg : w.heap.size ≤ w'.heap.size) (hst : Str w w')
    (hsame : ∀ b, b < w.heap.size → w'.heap[b]? = w.heap[b]?) (hn : ∀ b, Live ρn new b → w.heap.size ≤ b) :
    Inv X w0 B0 ⟨σ.t, σ.hp ++ new.map (Reg.shift σ.hp.length)⟩ a w' (ρ ++ ρn) ∧ SRel (ρ ++ ρn) (Av X (ρ ++ ρn) (σ.hp ++ new.map (Reg.shift σ.hp.length))) w' v (r.shift σ.hp.length) := by
  have hl := I.hp.len
  have hA : ∀ b, Av X (ρ ++ ρn) (σ.hp ++ new.map (Reg.shift σ.hp.length)) b → Av Xc ρn new b := by
    rintro b (h | h)
    · exact .inl (hX b (.inl h))
    · rcases Live_append hl h with h | h
      · exact .inl (hX b (.inr h))
      · exact .inr h
  have hL : Lasts (Av X ρ σ.hp) (Av X (ρ ++ ρn) (σ.hp ++ new.map (Reg.shift σ.hp.length))) w w' := ⟨hg, fun b hb _ => hsame b hb, fun b hb h => by
    rcases h with h | h
    · exact .inl h
    · rcases Live_append hl h with h | h
      · exact .inr h
      · have := hn b h; omega⟩
  have hK := keeps_append ρ ρn
  refine ⟨⟨⟨by simp [hl, hh.len], ?_, ?_, ?_⟩, fun i s h => (I.t i s h).lasts hL hK, I.sz, I.de, Nat.le_trans I.gr hg, fun b hb hB => (hsame b (Nat.lt_of_lt_of_le hb I.gr)).trans (I.fr b hb hB), ?_, I.xs, I.st.trans hst⟩, ?_⟩
  · intro h r v h1 h3
    rcases Nat.lt_or_ge h σ.hp.length with hlt | hge
    · rw [List.getElem?_append_left hlt] at h1
      rw [List.getElem?_append_left (by omega)] at h3
      have hR := I.hp.reg h r v h1 h3
      exact RegRel.lasts (inv := none) hL hK hR fun hl b hb => hsame b (hR.block hl hb)
    · rw [List.getElem?_append_right hge, List.getElem?_map] at h1
      rw [List.getElem?_append_right (by omega)] at h3
      obtain ⟨r0, h0, rfl⟩ := Option.map_eq_some_iff.1 h1
      rw [hl] at h3
      have := (hh.reg _ r0 v h0 h3).shift (ρ := ρ) hA
      rwa [hl] at this
  · intro h h' r r' v v' b h1 h1' h2 h2' h3 h3' h4 h4'
    rcases Nat.lt_or_ge h σ.hp.length with hlt | hge <;> rcases Nat.lt_or_ge h' σ.hp.length with hlt' | hge'
    · rw [List.getElem?_append_left hlt] at h1; rw [List.getElem?_append_left (by omega)] at h3
      rw [List.getElem?_append_left hlt'] at h1'; rw [List.getElem?_append_left (by omega)] at h3'
      exact I.hp.dis h h' r r' v v' b h1 h1' h2 h2' h3 h3' h4 h4'
    · rw [List.getElem?_append_left hlt] at h1; rw [List.getElem?_append_left (by omega)] at h3
      rw [List.getElem?_append_right hge', List.getElem?_map] at h1'; rw [List.getElem?_append_right (by omega)] at h3'
      obtain ⟨r0, h0, rfl⟩ := Option.map_eq_some_iff.1 h1'
      have := I.hp.lt ⟨h, r, v, h1, h2, h3, h4⟩
      have := hn b ⟨_, r0, v', h0, by rwa [live_shift] at h2', by rwa [hl] at h3', h4'⟩
      omega
    · rw [List.getElem?_append_left hlt'] at h1'; rw [List.getElem?_append_left (by omega)] at h3'
      rw [List.getElem?_append_right hge, List.getElem?_map] at h1; rw [List.getElem?_append_right (by omega)] at h3
      obtain ⟨r0, h0, rfl⟩ := Option.map_eq_some_iff.1 h1
      have := I.hp.lt ⟨h', r', v', h1', h2', h3', h4'⟩
      have := hn b ⟨_, r0, v, h0, by rwa [live_shift] at h2, by rwa [hl] at h3, h4⟩
      omega
    · rw [List.getElem?_append_right hge, List.getElem?_map] at h1; rw [List.getElem?_append_right (by omega)] at h3
      rw [List.getElem?_append_right hge', List.getElem?_map] at h1'; rw [List.getElem?_append_right (by omega)] at h3'
      obtain ⟨r0, h0, rfl⟩ := Option.map_eq_some_iff.1 h1
      obtain ⟨r1, h01, rfl⟩ := Option.map_eq_some_iff.1 h1'
      rw [hl] at h3 h3'
      have := hh.dis _ _ r0 r1 v v' b h0 h01 (by rwa [live_shift] at h2) (by rwa [live_shift] at h2') h3 h3' h4 h4'
      omega
  · intro b hb hx
    rcases Live_append hl hb with h | h
    · exact I.hp.fre b h hx
    · have := hn b h; have := I.xs b hx; have := I.gr; omega
  · intro b hb
    rcases Live_append hl hb with h | h
    · exact I.ow b h
    · exact .inr (Nat.le_trans I.gr (hn b h))
  · have := hs.shift (ρ := ρ) hA
    rwa [hl] at this
end
end Go.Proofs.YtgpnmifejgdipaaDoorVX
