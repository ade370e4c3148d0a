/-
  VY: the other operations that only look. By the session's own hand.
-/
import Derived.Test.YtphmcgmblkbijaaVy3
set_option linter.unusedSectionVars false
set_option linter.unusedVariables false
set_option linter.unusedSimpArgs false
set_option linter.all false
set_option linter.unnecessarySimpa false
set_option linter.deprecated false
namespace Go.Proofs.YtphmcgmblkbijaaVY
section ops
variable {P : Program} {Γ : TypeId → TI} {ρ : Hs} {A : Nat → Prop} {w : World} {a : Act} {t : List S} {hp : List Reg} {gd : Option (Bool × Bool)}
variable (hT : TyOk P Γ) (ht : ∀ (i : Nat) (s : S), t[i]? = some s → SRel ρ A w (a.tmps.getD i undef) s) (hgl : GlA A w)
variable (hh : ∀ (h : Nat) (r : Reg), hp[h]? = some r → ∃ v, ρ[h]? = some v ∧ RegRel ρ A w v r) (hg : GdOk gd)

theorem RdL.drop {b off sz : Nat} {L : List (List D)} (h : RdL A w b off sz L) (n : Nat) : RdL A w b (off + n * sz) sz (L.drop n) := by
  induction L generalizing off n with
  | nil => simp [RdL]
  | cons x L ih =>
    cases n with
    | zero => simpa using h
    | succ n =>
      simp only [RdL] at h
      have := ih h.2.2 n
      rw [Nat.add_assoc, show sz + n * sz = (n + 1) * sz by rw [Nat.add_mul]; omega] at this
      simpa using this
theorem RdL.take {b off sz : Nat} {L : List (List D)} (h : RdL A w b off sz L) (n : Nat) : RdL A w b off sz (L.take n) := by
  induction L generalizing off n with
  | nil => simp [RdL]
  | cons x L ih =>
    cases n with
    | zero => simp [RdL]
    | succ n =>
      simp only [RdL] at h
      simp only [List.take_succ_cons, RdL]
      exact ⟨h.1, h.2.1, ih h.2.2 n⟩
theorem kd_sl (hT : TyOk P Γ) {T e : TypeId} {esz eb : Nat} {ez : List D} (h : (Γ T).kd = .sl e esz eb ez) :
    P.underlying T = some (.slice e) ∧ ∃ i z, P.info? e = some i ∧ i.size = esz ∧ i.bytes = eb ∧ i.zero = some z ∧ z.cells.size = esz ∧ All2 (fun v x => ∀ A w, Rd A w v x) z.cells.toList ez := by
  obtain ⟨i, d, _, _, hd, _, hk, _⟩ := hT T (by rw [h]; rfl)
  rw [h] at hk
  obtain ⟨rfl, hk⟩ := (hk : d = .slice e ∧ _)
  exact ⟨hd, hk⟩
theorem kd_map (hT : TyOk P Γ) {T : TypeId} {ez : C} (h : (Γ T).kd = .map ez) :
    ∃ kt et, P.underlying T = some (.map kt et) ∧ P.underlying kt = some (.int .i64) ∧ ∃ i z, P.info? et = some i ∧ i.zero = some z ∧ ZRel z ez := by
  obtain ⟨i, d, _, _, hd, _, hk, _⟩ := hT T (by rw [h]; rfl)
  rw [h] at hk
  obtain ⟨kt, et, rfl, h1, h2⟩ := (hk : ∃ kt et, d = .map kt et ∧ _)
  exact ⟨kt, et, hd, h1, h2⟩
theorem kd_agg (hT : TyOk P Γ) {T : TypeId} {fs : List (Nat × Nat × Bool)} (h : (Γ T).kd = .agg fs) :
    ∃ fields, P.underlying T = some (.struct fields) ∧ All2 (FieldOk P) fields.toList fs := by
  obtain ⟨i, d, _, _, hd, _, hk, _⟩ := hT T (by rw [h]; rfl)
  rw [h] at hk
  obtain ⟨fields, rfl, hk⟩ := (hk : ∃ fields, d = .struct fields ∧ _)
  exact ⟨fields, hd, hk⟩
theorem kd_arr (hT : TyOk P Γ) {T : TypeId} {len esz : Nat} {ea : Bool} (h : (Γ T).kd = .arr len esz ea) :
    ∃ e, P.underlying T = some (.array len e) ∧ Sized P e esz ea := by
  obtain ⟨i, d, _, _, hd, _, hk, _⟩ := hT T (by rw [h]; rfl)
  rw [h] at hk
  obtain ⟨e, rfl, hk⟩ := (hk : ∃ e, d = .array len e ∧ _)
  exact ⟨e, hd, hk⟩
theorem kd_some (hT : TyOk P Γ) {T : TypeId} (h : told (Γ T).kd = true) : ∃ d, P.underlying T = some d ∧ KindOk P d (Γ T).kd := by
  obtain ⟨i, d, _, _, hd, _, hk, _⟩ := hT T h
  exact ⟨d, hd, hk⟩

include hh in
theorem rowK_ok {c : C} {v : Value} {k : Nat → List (List D) → Prop} (hc : CRel ρ A w v c) (h : rowK hp c k) :
    ∃ sz L, k sz L ∧ ∃ a' cap, v = .slice a' L.length cap ∧ L.length ≤ cap ∧ (L = [] ∨ ∃ b off, a' = some ⟨b, off, none⟩ ∧ b < w.heap.size ∧ RdL A w b off sz L) := by
  unfold rowK at h
  split at h
  · rename_i sz L
    have hc : Rd A w v (.sl sz L) := hc
    simp only [Rd] at hc
    obtain ⟨a', cap, hv, hl, hc⟩ := hc
    exact ⟨sz, L, h, a', cap, hv, hl, hc.imp id fun ⟨b, off, h1, h2, h3⟩ => ⟨b, off, h1, h2.1, h3⟩⟩
  · rename_i sz
    obtain ⟨a', rfl⟩ := hc
    exact ⟨sz, [], h, a', 0, rfl, Nat.le_refl _, .inl rfl⟩
  · rename_i hd
    replace h := nthK_ok h
    obtain ⟨r, hr, h⟩ := h
    obtain ⟨v', hv', hR⟩ := hh hd r hr
    obtain rfl : v' = v := by have hv := hc.1; rw [hv'] at hv; exact Option.some.inj hv
    split at h
    · rename_i sz L
      obtain ⟨a', c', rfl, hl, _, hR⟩ := hR
      refine ⟨sz, L, h, a', c', rfl, hl, ?_⟩
      rcases hR with rfl | ⟨b, off, T, vs, rfl, hb, _, hR⟩
      · cases L with
        | nil => exact .inl rfl
        | cons _ _ => simp at hl
      · exact .inr ⟨b, off, rfl, (Array.getElem?_eq_some_iff.1 hb).1, hR⟩
    · rename_i sz L
      have hR : Rd A w v' (.sl sz L) := hR
      simp only [Rd] at hR
      obtain ⟨a', cap, hv, hl, hR⟩ := hR
      exact ⟨sz, L, h, a', cap, hv, hl, hR.imp id fun ⟨b, off, h1, h2, h3⟩ => ⟨b, off, h1, h2.1, h3⟩⟩
    · exact h.elim
  · rename_i hd sz lo n
    replace h := nthK_ok h
    obtain ⟨r, hr, h⟩ := h
    obtain ⟨v', hv', hR⟩ := hh hd r hr
    obtain ⟨a0, l0, c0, hv, hlo, hl0, a', rfl, ha'⟩ := hc
    rw [hv'] at hv; cases hv
    split at h
    · rename_i sz' L
      replace h := tt_ok h
      obtain ⟨hq, h⟩ := h
      obtain rfl := Nat.eq_of_beq_eq_true hq
      obtain ⟨a'', c'', he, hl, _, hR⟩ := hR
      cases he
      have hlen : ((L.drop lo).take n).length = n := by simp; omega
      refine ⟨_, _, h, a', c0 - lo, by rw [hlen], by rw [hlen]; omega, ?_⟩
      by_cases hn : n = 0
      · subst hn; exact .inl (by simp)
      · rcases hR with rfl | ⟨b, off, T, vs, rfl, hb, _, hR⟩
        · omega
        · rcases ha' with e | rfl
          · omega
          · refine .inr ⟨b, off + lo * sz, by simp [Addr.add_lit], (Array.getElem?_eq_some_iff.1 hb).1, ((hR.drop lo).take n)⟩
    · exact h.elim
  · exact h.elim

include hh in
theorem longK_ok {c : C} {v : Value} {k : Int → Prop} (hc : CRel ρ A w v c) (h : longK hp c k) : ∃ n : Nat, k n ∧ ∃ a' cap, v = .slice a' n cap := by
  unfold longK at h
  split at h
  · rename_i hd
    replace h := nthK_ok h
    obtain ⟨r, hr, h⟩ := h
    obtain ⟨v', hv', hR⟩ := hh hd r hr
    obtain rfl : v' = v := by have hv := hc.1; rw [hv'] at hv; exact Option.some.inj hv
    split at h
    · obtain ⟨a', c', hv, _⟩ := hR
      exact ⟨_, h, a', c', hv⟩
    · rename_i sz L
      have hR : Rd A w v' (.sl sz L) := hR
      simp only [Rd] at hR
      obtain ⟨a', cap, hv, _⟩ := hR
      exact ⟨_, h, a', cap, hv⟩
    · rename_i sz L cs
      obtain ⟨a', c', hv, _⟩ := hR
      exact ⟨L.length + 1, h, a', c', hv⟩
    · exact h.elim
  · rename_i hd i
    replace h := nthK_ok h
    obtain ⟨r, hr, h⟩ := h
    obtain ⟨v', hv', hR⟩ := hh hd r hr
    split at h
    · obtain ⟨key, L, hM, h⟩ := h
      obtain ⟨b, es, clock, us, rfl, _, hMR, _⟩ := hR
      obtain ⟨u0, us0, hu1, hu2, _⟩ := hc
      rw [hv'] at hu1; cases hu1
      obtain ⟨a', c', e⟩ := hMR.sl_at hM hu2
      exact ⟨_, h, a', c', e⟩
    · exact h.elim
  · obtain ⟨sz, L, h, a', cap, hv, _⟩ := rowK_ok hh hc h
    exact ⟨_, h, a', cap, hv⟩

theorem run_sliceBounds {len cap : Nat} {lo hi : Option Value} {l h : Int} {kl kh : IntKind} (hlo : lo = some (.int kl l) ∨ (lo = none ∧ l = 0)) (hhi : hi = some (.int kh h) ∨ (hi = none ∧ h = len)) (hlen : len ≤ cap)
    (h0 : 0 ≤ l) (h1 : l ≤ h) (h2 : h ≤ cap) : (Instr.sliceBounds true len cap lo hi none).run P w = .ok (l.toNat, h.toNat, cap) w := by
  have e0 : 0 ≤ h := by omega
  have e1 : h ≤ (cap : Int) := h2
  have e2 : l ≤ (h.toNat : Int) := by omega
  rcases hlo with rfl | ⟨rfl, rfl⟩ <;> rcases hhi with rfl | ⟨rfl, rfl⟩ <;> simp [Instr.sliceBounds, Instr.sliceBound, asIntOf, -Int.ofNat_toNat, *]
theorem run_cut {T e : TypeId} {i : TypeInfo} (hd : P.underlying T = some (.slice e)) (hi' : P.info? e = some i) {a0 : Option Addr} {len cap : Nat} {lo hi : Option Value} {l h : Int} {kl kh : IntKind}
    (hlo : lo = some (.int kl l) ∨ (lo = none ∧ l = 0)) (hhi : hi = some (.int kh h) ∨ (hi = none ∧ h = len)) (hlen : len ≤ cap) (h0 : 0 ≤ l) (h1 : l ≤ h) (h2 : h ≤ cap) :
    (Instr.sliceAt T (.slice a0 len cap) lo hi none).run P w = .ok (.slice (if cap = l.toNat then a0 else a0.map (·.add (l.toNat * i.size))) (h.toNat - l.toNat) (cap - l.toNat)) w := by
  simp [Instr.sliceAt, Instr.slice, run_underlying hd, run_sliceBounds hlo hhi hlen h0 h1 h2, sizeOf, typeInfo, hi']
include hh hg in
theorem cutK_ok {T e : TypeId} {i : TypeInfo} (hd : P.underlying T = some (.slice e)) (hi' : P.info? e = some i) {c : C} {v : Value} {lo hi : Option Value} {l h : Int} {kl kh : IntKind} {k : S → Prop} {sz : Nat} {L : List (List D)}
    (hc : CRel ρ A w v c) (hlo : lo = some (.int kl l) ∨ (lo = none ∧ l = 0)) (hhi : hi = some (.int kh h) ∨ (hi = none ∧ h = L.length)) (hrow : rowK hp c fun s M => i.size = s ∧ s = sz ∧ M = L)
    (hk : cutK gd hp c l h k) : ∃ v' s, k s ∧ (Instr.sliceAt T v lo hi none).run P w = .ok v' w ∧ SRel ρ A w v' s := by
  obtain ⟨s, M, ⟨e1, e2, e3⟩, a0, cap, rfl, hcap, hL⟩ := rowK_ok hh hc hrow
  subst e2; subst e3; subst e1
  have main : 0 ≤ l → l ≤ h → h ≤ M.length → (Instr.sliceAt T (.slice a0 M.length cap) lo hi none).run P w = .ok (.slice (if cap = l.toNat then a0 else a0.map (·.add (l.toNat * i.size))) (h.toNat - l.toNat) (cap - l.toNat)) w :=
    fun h0 h1 h2 => run_cut hd hi' hlo hhi hcap h0 h1 (by omega)
  have asD : ∀ (hA : M = [] ∨ ∃ b off, a0 = some ⟨b, off, none⟩ ∧ At A w b ∧ RdL A w b off i.size M), 0 ≤ l → l ≤ h → h ≤ M.length →
      Rd A w (.slice (if cap = l.toNat then a0 else a0.map (·.add (l.toNat * i.size))) (h.toNat - l.toNat) (cap - l.toNat)) (.sl i.size ((M.take h.toNat).drop l.toNat)) := by
    intro hA h0 h1 h2
    have hlen : ((M.take h.toNat).drop l.toNat).length = h.toNat - l.toNat := by simp; omega
    simp only [Rd]
    refine ⟨_, _, by rw [hlen], by rw [hlen]; omega, ?_⟩
    by_cases hz : h.toNat - l.toNat = 0
    · exact .inl (List.length_eq_zero_iff.1 (hlen.trans hz))
    · rcases hA with rfl | ⟨b, off, rfl, hb, hM⟩
      · simp at h2; omega
      · refine .inr ⟨b, off + l.toNat * i.size, ?_, hb, (hM.take _).drop _⟩
        rw [if_neg (by omega)]; simp [Addr.add_lit]
  unfold cutK at hk
  split at hk
  · rename_i sz' L'
    unfold rowK at hrow
    obtain ⟨_, _, rfl⟩ := hrow
    replace hk := ob_ok hg hk
    obtain ⟨⟨h0, h1, h2⟩, hk⟩ := hk
    have hc : Rd A w _ (.sl sz' _) := hc
    simp only [Rd] at hc
    obtain ⟨a1, cap1, he, _, hc⟩ := hc
    cases he
    obtain rfl : i.size = sz' := by assumption
    exact ⟨_, _, hk, main h0 h1 h2, asD hc h0 h1 h2⟩
  · rename_i r
    unfold rowK at hrow
    replace hrow := nthK_ok hrow
    obtain ⟨R, hR, hrow⟩ := hrow
    replace hk := nthK_ok hk
    obtain ⟨R', hR', hk⟩ := hk
    rw [hR] at hR'; cases hR'
    split at hk
    · rename_i sz' L'
      obtain ⟨e1, e2, e3⟩ := hrow
      subst e3
      replace hk := ob_ok hg hk
      obtain ⟨⟨h0, h1, h2⟩, hk⟩ := hk
      refine ⟨_, _, hk, main h0 h1 h2, a0, L'.length, cap, hc.1, by omega, hcap, _, rfl, ?_⟩
      by_cases hq : cap = l.toNat
      · exact .inl hq
      · rw [if_neg hq, e1]; exact .inr rfl
    · rename_i sz' L'
      obtain ⟨e1, e2, e3⟩ := hrow
      subst e3
      replace hk := ob_ok hg hk
      obtain ⟨⟨h0, h1, h2⟩, hk⟩ := hk
      obtain ⟨v', hv', hRel⟩ := hh r _ hR
      have hv := hc.1
      rw [hv'] at hv; cases hv
      have hRel : Rd A w _ (.sl sz' L') := hRel
      simp only [Rd] at hRel
      obtain ⟨a1, cap1, he, _, hRel⟩ := hRel
      cases he
      subst e1
      exact ⟨_, _, hk, main h0 h1 h2, asD hRel h0 h1 h2⟩
    · exact hk.elim
  · rename_i r sz' lo' n'
    obtain ⟨a1, l1, c1, hρ, hlo1, hl1, a2, he, ha2⟩ := hc
    cases he
    replace hk := ob_ok hg hk
    obtain ⟨⟨h0, h1, h2⟩, hk⟩ := hk
    unfold rowK at hrow
    replace hrow := nthK_ok hrow
    obtain ⟨R, hR, hrow⟩ := hrow
    split at hrow
    · replace hrow := tt_ok hrow
      obtain ⟨_, e1, _, _⟩ := hrow
      refine ⟨_, _, hk, main h0 h1 h2, a1, l1, c1, hρ, by omega, hl1, _, by rw [Nat.sub_sub], ?_⟩
      by_cases hq : c1 = lo' + l.toNat
      · exact .inl hq
      · rw [if_neg (by omega)]
        rcases ha2 with e | rfl
        · omega
        · obtain ⟨v', hv', hRel⟩ := hh r _ hR
          rw [hρ] at hv'; cases hv'
          obtain ⟨a3, c3, he, _, _, hRel⟩ := hRel
          cases he
          rcases hRel with hz | ⟨b, off, T', vs, rfl, _⟩
          · omega
          · refine .inr ?_
            simp only [Option.map_some, Addr.add_lit, e1]
            rw [Nat.add_mul, Nat.add_assoc]
    · exact hrow.elim
  · rename_i sz'
    unfold rowK at hrow
    obtain ⟨_, _, rfl⟩ := hrow
    replace hk := ob_ok hg hk
    obtain ⟨⟨rfl, rfl⟩, hk⟩ := hk
    obtain ⟨a1, he⟩ := hc
    cases he
    refine ⟨_, _, hk, main (by omega) (by omega) (by simp), ?_⟩
    exact ⟨a0, by simp⟩
  · exact hk.elim

theorem setFold (xs : List Value) : ∀ (cells : Array Value) (off i : Nat), off + i + xs.length ≤ cells.size →
    (xs.zipIdx i).foldl (fun (cs : Array Value) (p : Value × Nat) => cs.setIfInBounds (off + p.2) p.1) cells = (cells.toList.take (off + i) ++ xs ++ cells.toList.drop (off + i + xs.length)).toArray := by
  induction xs with
  | nil => intro cells off i h; simp
  | cons x xs ih =>
    intro cells off i h
    simp at h
    simp only [List.zipIdx_cons, List.foldl_cons]
    rw [ih _ off (i + 1) (by simp; omega)]
    apply Array.ext'
    simp only [Array.toList_setIfInBounds]
    rw [List.set_eq_take_append_cons_drop, if_pos (by simp; omega)]
    have e1 : off + (i + 1) = off + i + 1 := by omega
    have e2 : min (off + i) cells.size = off + i := by omega
    rw [e1]
    have h1 : (cells.toList.take (off + i) ++ x :: cells.toList.drop (off + i + 1)).take (off + i + 1) = cells.toList.take (off + i) ++ [x] := by
      rw [List.take_append]; simp [e2]
      rw [List.take_take]; congr 1; omega
    have h2 : (cells.toList.take (off + i) ++ x :: cells.toList.drop (off + i + 1)).drop (off + i + 1 + xs.length) = cells.toList.drop (off + i + (xs.length + 1)) := by
      rw [List.drop_append]
      have : off + i + 1 + xs.length - (cells.toList.take (off + i)).length = xs.length + 1 := by simp [e2]; omega
      rw [this, List.drop_eq_nil_of_le (by simp; omega)]
      simp; congr 1; omega
    rw [h1, h2]; simp
theorem fill_one {cells : Array Value} {xs : List Value} {off : Nat} {place : Nat → Option (Nat × Nat)} {j n : Nat} {v : Value} {rest : List (Nat × Value)} (hp : place j = some (off, n)) (hv : v.cells = xs.toArray) (hn : xs.length = n) (hs : off + n ≤ cells.size) :
    Instr.fill place cells ((j, v) :: rest) = Instr.fill place (cells.toList.take off ++ xs ++ cells.toList.drop (off + xs.length)).toArray rest := by
  have h0 : v.cells.size = n := by rw [hv]; simpa using hn
  have hf := setFold xs cells off 0 (by omega)
  simp only [Nat.add_zero] at hf
  simp only [Instr.fill, hp]
  rw [if_neg (by simp [h0]; omega)]
  congr 1
  rw [hv, ← hf]
  simp [Array.zipIdx_toArray]
theorem fillK_ok {place : Nat → Option (Nat × Nat)} {fs : List (Nat × Nat × Bool)} (hpl : ∀ (j : Nat) (x : Nat × Nat × Bool), fs[j]? = some x → place j = some (x.1, x.2.1) ∧ 0 < x.2.1) :
    ∀ {ps : List (Nat × S)} {vs : List (Nat × Value)} {cs : List C} {cells : Array Value} {k : List C → Prop}, All2 (fun (v : Nat × Value) (s : Nat × S) => v.1 = s.1 ∧ SRel ρ A w v.2 s.2) vs ps →
    All2 (fun u c => Flat u ∧ CRel ρ A w u c) cells.toList cs → fillK fs cs ps k → ∃ cells' cs', k cs' ∧ Instr.fill place cells vs = some cells' ∧ All2 (fun u c => Flat u ∧ CRel ρ A w u c) cells'.toList cs' := by
  intro ps
  induction ps with
  | nil => intro vs cs cells k hv hc h; cases hv; exact ⟨cells, cs, h, rfl, hc⟩
  | cons p ps ih =>
    intro vs cs cells k hv hc h
    obtain ⟨j, x⟩ := p
    cases hv with
    | @cons pv _ vs _ hjx hv =>
    obtain ⟨jv, v⟩ := pv
    obtain ⟨rfl, hx⟩ := (hjx : jv = j ∧ SRel ρ A w v x)
    replace h := nthK_ok h
    obtain ⟨⟨o, n, ag⟩, hf, h⟩ := h
    obtain ⟨hpj, hn0⟩ := hpl _ _ hf
    have key : ∀ (xs : List Value) (ys : List C), v.cells = xs.toArray → ys.length = n → All2 (fun u c => Flat u ∧ CRel ρ A w u c) xs ys → putsK cs o ys (fun l => fillK fs l ps k) →
        ∃ cells' cs', k cs' ∧ Instr.fill place cells ((jv, v) :: vs) = some cells' ∧ All2 (fun u c => Flat u ∧ CRel ρ A w u c) cells'.toList cs' := by
      intro xs ys hvc hyn hxy hput
      obtain ⟨hle, hput⟩ := putsK_ok hput
      have hlen := hc.length
      have hl2 := hxy.length
      have hle' : o + n ≤ cells.size := by
        rcases hle with e | e
        · subst e; simp at hyn hn0; omega
        · simp at hlen hl2; omega
      rw [fill_one (place := place) hpj hvc (hl2.trans hyn) hle']
      refine ih hv ?_ hput
      simp only [List.append_assoc]
      rw [hl2]
      exact (hc.take o).append (hxy.append (hc.drop _))
    dsimp only at h
    split at h
    · rename_i ys
      obtain ⟨hq, h⟩ := tt_ok h
      obtain ⟨us, rfl, hus⟩ := hx
      exact key us.toList ys (by simp [Value.cells]) (Nat.eq_of_beq_eq_true hq) hus h
    · rename_i c
      obtain ⟨hq, h⟩ := tt_ok h
      have hx : CRel ρ A w v c := hx
      by_cases hj : c = .junk
      · subst hj; exact h.elim
      · have hf := hx.flat hj
        exact key [v] [c] (by rw [hf.cells]) ((Nat.eq_of_beq_eq_true hq).symm) (.cons ⟨hf, hx⟩ .nil) (by cases c <;> first | exact h | exact absurd rfl hj)
    · exact h.elim
theorem slotsOf_get (esz : Nat) : ∀ (n o j : Nat) (x : Nat × Nat × Bool), (slotsOf esz n o)[j]? = some x → x = (o + j * esz, esz, false) ∧ j < n
  | 0, o, j, x, h => by simp [slotsOf] at h
  | n + 1, o, 0, x, h => by simp [slotsOf] at h; simp [← h]
  | n + 1, o, j + 1, x, h => by
    obtain ⟨h1, h2⟩ := slotsOf_get esz n (o + esz) j x (by simpa [slotsOf] using h)
    refine ⟨by rw [h1, Nat.add_mul]; congr 1; omega, by omega⟩
theorem slots_place {esz : Nat} (he : 1 ≤ esz) (len : Nat) (j : Nat) (x : Nat × Nat × Bool) (h : (slotsOf esz len 0)[j]? = some x) : (fun i => some (i * esz, esz) : Nat → Option (Nat × Nat)) j = some (x.1, x.2.1) ∧ 0 < x.2.1 := by
  obtain ⟨rfl, _⟩ := slotsOf_get esz len 0 j x h
  exact ⟨by simp, he⟩
end ops
end Go.Proofs.YtphmcgmblkbijaaVY
