/-
  VY: code: what is said to be left to prove suffices. By the session's own hand.
-/
import Derived.Test.YtphmcgmblkbijaaVy11
import Derived.Laws.MakeOwn
import Derived.Great.BuildSlice
set_option linter.unusedSectionVars false
set_option linter.unusedVariables false
set_option linter.unusedSimpArgs false
set_option linter.all false
set_option linter.unnecessarySimpa false
set_option linter.deprecated false
namespace Go.Proofs.YtphmcgmblkbijaaVY
section
variable {P : Program} {Γ : Cx} {w w' : World} {X : Nat → Prop} {w0 : World} {B0 : Nat → Prop} [hGP : GPc X B0 w0] {σ : St} {a : Act} {ρ ρn : Hs} {gd : Option (Bool × Bool)} {Q : Exit → Act → World → Prop}
variable (hT : TyOk P Γ.ty) (hΓ : ∀ f R, Γ.fns f = some R → Snd P f R)

theorem flat_rep {ez : List D} {sz : Nat} (hs : ez.length = sz) (h1 : 1 ≤ sz) : ∀ (n j : Nat), j < n * sz → (List.replicate n ez).flatten[j]? = ez[j % sz]?
  | 0, j, h => by omega
  | n + 1, j, h => by
    rw [List.replicate_succ, List.flatten_cons]
    rcases Nat.lt_or_ge j sz with hj | hj
    · rw [List.getElem?_append_left (by omega), Nat.mod_eq_of_lt hj]
    · rw [List.getElem?_append_right (by omega), hs, flat_rep hs h1 n (j - sz) (by rw [Nat.add_mul] at h; omega)]
      rw [show j % sz = (j - sz) % sz from Nat.mod_eq_sub_mod hj]
theorem fill_size {place : Nat → Option (Nat × Nat)} : ∀ {vs : List (Nat × Value)} {cells cells' : Array Value}, Instr.fill place cells vs = some cells' → cells'.size = cells.size
  | [], _, _, h => by simp only [Instr.fill, Option.some.injEq] at h; rw [h]
  | (i, v) :: vs, cells, cells', h => by
    simp only [Instr.fill] at h
    split at h
    · cases h
    · split at h
      · cases h
      · rw [fill_size h]
        have : ∀ (l : List (Value × Nat)) (f : Nat → Nat) (cs : Array Value), (l.foldl (fun cs (p : Value × Nat) => cs.setIfInBounds (f p.2) p.1) cs).size = cs.size := by
          intro l f
          induction l with
          | nil => intro cs; rfl
          | cons p l ih => intro cs; rw [List.foldl_cons, ih]; simp
        rw [← Array.foldl_toList]
        exact this _ _ _
theorem ty_told (hT : TyOk P Γ.ty) {T : TypeId} (h : told (Γ.ty T).kd = true) : ∃ i z, P.info? T = some i ∧ i.size = (Γ.ty T).size ∧ i.zero = some z ∧ All2 ZRel z.cells.toList (Γ.ty T).zero := by
  obtain ⟨i, d, h1, h2, _, _, _, z, h3, h4, _⟩ := hT T h
  exact ⟨i, z, h1, h2, h3, h4⟩
theorem evM_other {o : Oper} {t : List S} {hp : List Reg} {k : EffK} (h : evM Γ gd o t hp k) : (∃ T, o.op = .alloc T) ∨ (∃ T x, o.op = .box T x) ∨ (∃ T x y, o.op = .store T x y) ∨ (∃ x args tys, o.op = .call ⟨.value x, args, tys⟩) ∨ (∃ args tys, o.op = .call ⟨.builtin .append, args, tys⟩) ∨ (∃ T l c, o.op = .makeSlice T l c) ∨ (∃ T n ps, o.op = .buildSlice T n ps) ∨ (∃ args tys, o.op = .call ⟨.builtin .clear, args, tys⟩) ∨ (∃ T r, o.op = .makeMap T r) ∨ (∃ T m x ok, o.op = .lookup T m x ok) ∨ ∃ T m x y, o.op = .mapUpdate T m x y := by
  obtain ⟨dst, op, ty, pos, after, guard⟩ := o
  unfold evM at h
  cases op <;> simp only [] at h
  case alloc T => exact .inl ⟨_, rfl⟩
  case box => exact .inr (.inl ⟨_, _, rfl⟩)
  case store => exact .inr (.inr (.inl ⟨_, _, _, rfl⟩))
  case call c =>
    obtain ⟨callee, args, tys⟩ := c
    cases callee <;> simp only [] at h
    case value f => exact .inr (.inr (.inr (.inl ⟨_, _, _, rfl⟩)))
    case builtin b =>
      cases b <;> simp only [] at h
      case append => exact .inr (.inr (.inr (.inr (.inl ⟨_, _, rfl⟩))))
      case clear => exact .inr (.inr (.inr (.inr (.inr (.inr (.inr (.inl ⟨_, _, rfl⟩)))))))
  case makeSlice => exact .inr (.inr (.inr (.inr (.inr (.inl ⟨_, _, _, rfl⟩)))))
  case buildSlice => exact .inr (.inr (.inr (.inr (.inr (.inr (.inl ⟨_, _, _, rfl⟩))))))
  case makeMap => exact .inr (.inr (.inr (.inr (.inr (.inr (.inr (.inr (.inl ⟨_, _, rfl⟩))))))))
  case lookup => exact .inr (.inr (.inr (.inr (.inr (.inr (.inr (.inr (.inr (.inl ⟨_, _, _, _, rfl⟩)))))))))
  case mapUpdate => exact .inr (.inr (.inr (.inr (.inr (.inr (.inr (.inr (.inr (.inr ⟨_, _, _, _, rfl⟩)))))))))
theorem after_fr {dst : Option Tmp} {s : S} {fr us : List (Nat × Reg)} {new : List Reg} : σ.after dst s (fr ++ us) new none = St.after ⟨σ.t, fr.foldl (fun hp u => hp.set u.1 u.2) σ.hp⟩ dst s us new none := by simp only [St.after, List.foldl_append, map_loseO_none]
theorem notL_ok {h : Nat} {l : Lt} (hl : notL h l = true) : ∀ u ∈ l, u.1 ≠ h := by
  induction l with
  | nil => intro u hu; cases hu
  | cons x l ih =>
    unfold notL at hl
    split at hl
    · cases hl
    · rename_i e
      intro u hu
      cases hu with
      | head => intro e'; subst e'; simp at e
      | tail _ hu => exact ih hl u hu
omit hT hΓ in
/-- a row's last element, as data: what hangs on it is no longer written -/
theorem close_ok (I : Inv X w0 B0 σ a w ρ) {h sz : Nat} {L : List (List D)} {cs : List C} (hr : σ.hp[h]? = some (.rowt sz L cs)) {k : List D → Lt → Prop} (hk : viewsK σ.hp cs k) :
    ∃ x fr, k x fr ∧ FrzOk σ.hp fr ∧ (notL h fr = true → x.length = sz → Inv X w0 B0 ⟨σ.t, (fr.foldl (fun hp u => hp.set u.1 u.2) σ.hp).set h (.row sz (L ++ [x]))⟩ a w ρ ∧
      ∀ b, Av X ρ ((fr.foldl (fun hp u => hp.set u.1 u.2) σ.hp).set h (.row sz (L ++ [x]))) b → Av X ρ σ.hp b) := by
  obtain ⟨v, hv, hR⟩ := I.hp.val hr
  obtain ⟨a0, c, rfl, hc, hz, hcl, b, off, T, vs, rfl, hb, hs, hL, hC⟩ := hR
  obtain ⟨us, hus, huc⟩ := hC.vals
  obtain ⟨x, fr, hk, hfr, hx⟩ := viewsK_ok I hus hk
  refine ⟨x, fr, hk, hfr, fun hno hxl => ?_⟩
  obtain ⟨I1, hS⟩ := I.freezes hfr
  have hr1 := (foldl_set_out (l := σ.hp) (notL_ok hno)).trans hr
  obtain ⟨c0, rfl⟩ : ∃ c0, c = c0 + 1 := ⟨c - 1, by omega⟩
  have T' := touchSet I1 (w' := w) (r' := .row sz (L ++ [x])) hr1 rfl hv rfl (Str.refl w) (fun b' _ => .inl rfl)
  have hA2 : ∀ b', Av X ρ ((fr.foldl (fun hp u => hp.set u.1 u.2) σ.hp).set h (.row sz (L ++ [x]))) b' → Av X ρ (fr.foldl (fun hp u => hp.set u.1 u.2) σ.hp) b' := by
    rintro b' (hb' | ⟨y, r, v, h1, h2, h3, h4⟩)
    · exact .inl hb'
    · by_cases e : h = y
      · subst e; exact .inr ⟨h, _, v, hr1, rfl, h3, h4⟩
      · rw [List.getElem?_set_ne e] at h1; exact .inr ⟨y, r, v, h1, h2, h3, h4⟩
  have hSp : Spare (Av X ρ σ.hp) ρ fr (Av X ρ ((fr.foldl (fun hp u => hp.set u.1 u.2) σ.hp).set h (.row sz (L ++ [x])))) := fun b' hb' => hS b' (hA2 b' hb')
  have hxx := hx _ hSp
  have := I1.touch T' ⟨_, c0 + 1, by rw [List.length_append]; rfl, by rw [List.length_append]; exact hc, hz, .inr ⟨b, off, T, vs, rfl, hb, hs, RdL_of fun m e hm => by
    by_cases hml : m < L.length
    · rw [List.getElem?_append_left hml] at hm
      obtain ⟨h1, h2⟩ := (RdL.mono (fun b' hb' => (hSp b' hb').1) hL).get hm
      exact ⟨h1, h2⟩
    · rw [List.getElem?_append_right (by omega)] at hm
      have hm0 : m = L.length := by have := (List.getElem?_eq_some_iff.1 hm).1; simp at this; omega
      subst hm0
      simp at hm; subst hm
      refine ⟨hxl, RdC_of hb fun q y hy => ?_⟩
      obtain ⟨u, hu, hr⟩ := hxx.get' hy
      have := huc q u hu
      rw [cell_of_row w b _ vs T (0, 0) hb] at this
      exact ⟨u, this, hr⟩⟩⟩
  rw [map_sloseO_none] at this
  exact ⟨this, fun b' hb' => (hSp b' hb').1⟩
theorem foldl_frz {f : Reg → Reg} {fr : Lt} {hp0 : List Reg} (hf : ∀ sz L, f (.frz sz L) = .frz sz L) (h : ∀ u ∈ fr, ∃ sz L, u.2 = .frz sz L) : (fr.foldl (fun hp u => hp.set u.1 u.2) hp0).map f = fr.foldl (fun hp u => hp.set u.1 u.2) (hp0.map f) := by
  induction fr generalizing hp0 with
  | nil => rfl
  | cons u fr ih =>
    rw [List.foldl_cons, List.foldl_cons, ih fun x hx => h x (List.mem_cons_of_mem _ hx), List.map_set]
    obtain ⟨sz, L, e⟩ := h u (List.mem_cons_self ..)
    rw [e, hf]
/-- the row that a last element is appended to -/
theorem baseT_ok (I : Inv X w0 B0 σ a w ρ) {c : C} {v : Value} {k : Nat → Nat → List (List D) → Lt → Prop} (hc : CRel ρ (Av X ρ σ.hp) w v c) (h : baseT σ.hp c k) :
    ∃ hd sz L fr, k hd sz L fr ∧ ρ[hd]? = some v ∧ FrzOk σ.hp fr ∧ (∀ u ∈ fr, u.1 ≠ hd) ∧ Inv X w0 B0 ⟨σ.t, (fr.foldl (fun hp u => hp.set u.1 u.2) σ.hp).set hd (.row sz L)⟩ a w ρ ∧
      (∀ b, Av X ρ ((fr.foldl (fun hp u => hp.set u.1 u.2) σ.hp).set hd (.row sz L)) b → Av X ρ σ.hp b) ∧ ((fr.foldl (fun hp u => hp.set u.1 u.2) σ.hp).set hd (.row sz L))[hd]? = some (.row sz L) := by
  unfold baseT at h
  split at h
  · rename_i hd
    replace h := nthK_ok h
    obtain ⟨r, hr, h⟩ := h
    have hlt := (List.getElem?_eq_some_iff.1 hr).1
    split at h
    · rename_i sz L
      have e : σ.hp.set hd (.row sz L) = σ.hp := by
        apply List.ext_getElem?
        intro j
        rw [List.getElem?_set]
        split
        · rename_i e; subst e; first | exact hr.symm | (rw [if_pos hlt, hr])
        · rfl
      refine ⟨hd, sz, L, [], h, hc.1, .nil, by simp, ?_, ?_, ?_⟩
      · show Inv X w0 B0 ⟨σ.t, σ.hp.set hd (.row sz L)⟩ a w ρ
        rw [e]; exact I
      · show ∀ b, Av X ρ (σ.hp.set hd (.row sz L)) b → _
        rw [e]; exact fun _ h => h
      · show (σ.hp.set hd (.row sz L))[hd]? = _
        rw [e]; exact hr
    · rename_i sz L cs
      obtain ⟨x, fr, h, hfr, hcl⟩ := close_ok I hr h
      obtain ⟨hno, h⟩ := tt_ok h
      obtain ⟨hxl, h⟩ := tt_ok h
      obtain ⟨I2, hA⟩ := hcl hno (Nat.eq_of_beq_eq_true hxl)
      exact ⟨hd, sz, L ++ [x], fr, h, hc.1, hfr, notL_ok hno, I2, hA, by rw [List.getElem?_set_self (by rw [foldl_set_len]; exact hlt)]⟩
    · exact h.elim
  · exact h.elim
include hT hΓ in
theorem evM_wp (hg : GdOk gd) (I : Inv X w0 B0 σ a w ρ) {o : Oper} {K : St → Prop} (h : evM Γ gd o σ.t σ.hp (fun s upd new inv => σ.apply o.dst s upd new inv K)) {next : Act → World → Prop}
    (hn : ∀ σ' a' w' ρ', K σ' → Inv X w0 B0 σ' a' w' ρ' → next a' w') : o.wp P a w next Q := by
  obtain ⟨dst, op, ty, pos, after, guard⟩ := o
  rcases evM_other h with ⟨T, hop⟩ | ⟨T, x, hop⟩ | ⟨T, x, y, hop⟩ | ⟨f, args, tys, hop⟩ | ⟨args, tys, hop⟩ | ⟨T, l, c, hop⟩ | ⟨T, n, ps, hop⟩ | ⟨args, tys, hop⟩ | ⟨T, r, hop⟩ | ⟨T, m, x, ok, hop⟩ | ⟨T, m, x, y, hop⟩ <;> (have hop : op = _ := hop; subst hop)
  · unfold evM at h
    simp only [] at h
    obtain ⟨hk, h⟩ := tt_ok h
    replace h := lenK_ok h
    rw [Nat.zero_add] at h
    obtain ⟨_, _, h⟩ := apply_ok h
    obtain ⟨i, z, hi, hs, hz, hz0⟩ := ty_told hT hk
    have hrun : (execOp a.eval ⟨dst, .alloc T, ty, pos, after, guard⟩).run P w = .ok (.value (.pointer (some ⟨w.heap.size, 0, none⟩))) { w with heap := w.heap.push (.cells z.cells T (0, 0)) } := by
      simp [execOp, Instr.alloc, zeroValue, typeInfo, hi, hz, newVar, newRow]
    exact wp_value hrun (hn _ _ _ _ h (newBox I (hz0.imp fun _ _ h => ⟨h.1, h.2 _ _ _⟩)))
  · unfold evM at h
    simp only [] at h
    replace h := operand_ok hT I.t I.gla hg h
    obtain ⟨s, h, hs⟩ := h
    replace h := lenK_ok h
    rw [Nat.zero_add] at h
    have hrun : (execOp a.eval ⟨dst, .box T x, ty, pos, after, guard⟩).run P w = .ok (.value (.pointer (some ⟨w.heap.size, 0, none⟩))) { w with heap := w.heap.push (.cells (a.eval x).cells T (0, 0)) } := by
      simp [execOp, Instr.box, newVar, newRow]
    split at h
    · rename_i l
      obtain ⟨_, _, h⟩ := apply_ok h
      obtain ⟨us, hu, hall⟩ := hs
      exact wp_value hrun (hn _ _ _ _ h (newBox I (by rw [hu]; exact hall)))
    · exact h.elim
    · rename_i c hc
      obtain ⟨_, _, h⟩ := apply_ok h
      have hs : CRel ρ _ w (a.eval x) c := hs
      have hf := hs.flat (fun e => hc (by rw [e]))
      exact wp_value hrun (hn _ _ _ _ h (newBox I (by rw [hf.cells]; exact .cons ⟨hf, hs⟩ .nil)))
    · exact h.elim
  · unfold evM at h
    simp only [] at h
    replace h := operand_ok hT I.t I.gla hg h
    obtain ⟨sa, h, hsa⟩ := h
    replace h := operand_ok hT I.t I.gla hg h
    obtain ⟨sx, h, hsx⟩ := h
    split at h
    · rename_i hd off
      replace h := nthK_ok h
      obtain ⟨r, hr, h⟩ := h
      split at h
      · rename_i cs
        obtain ⟨b, hb, hp⟩ := hsa
        have key : ∀ (xs : List Value) (ys : List C), (a.eval y).cells = xs.toArray → told (Γ.ty T).kd = true → ys.length = (Γ.ty T).size → 1 ≤ ys.length → All2 (fun u c => Flat u ∧ CRel ρ (Av X ρ σ.hp) w u c) xs ys →
            putsK cs off ys (fun cs => σ.apply dst .junk [(hd, .box cs)] [] none K) → (⟨dst, .store T x y, ty, pos, after, guard⟩ : Oper).wp P a w next Q := by
          intro xs ys hxc hk hyl hy1 hxy hput
          obtain ⟨hle, hput⟩ := putsK_ok hput
          obtain ⟨_, _, hput⟩ := apply_ok hput
          obtain ⟨i, z, hi, hs, _, _⟩ := ty_told hT hk
          have hle' : ys = [] ∨ off + ys.length ≤ cs.length := hle
          obtain ⟨Tb, cur, hcur, hsz, hI⟩ := setBox I hr hxy hle' hb (dst := dst) (.inr trivial)
          have hsz' : off + xs.length ≤ cur.size := by
            rcases hsz with e | e
            · subst e; simp at hy1
            · exact e
          have hxl := hxy.length
          have hst := run_storeVar (P := P) (T := T) (b := b) (off := off) (v := a.eval y) hi hs hxc (by omega) hcur hsz' (by
            intro v hv
            obtain ⟨j, hj⟩ := List.getElem?_of_mem hv
            have : j < ys.length := by rw [← hxl]; exact (List.getElem?_eq_some_iff.1 hj).1
            exact (hxy.get hj (List.getElem?_eq_getElem this)).1)
          exact wp_skip' (by simp [execOp, hp, hst]) (hn _ _ _ _ hput hI)
        split at h
        · rename_i l
          obtain ⟨hq, h⟩ := tt_ok h
          simp only [Bool.and_eq_true] at hq
          obtain ⟨us, hu, hall⟩ := hsx
          have hl := Nat.eq_of_beq_eq_true hq.1.2
          have h1 := Nat.le_of_ble_eq_true hq.2
          exact key us.toList l (by rw [hu]; simp [Value.cells]) hq.1.1 hl (by omega) hall h
        · exact h.elim
        · rename_i c hc
          obtain ⟨hq, h⟩ := tt_ok h
          simp only [Bool.and_eq_true] at hq
          have hsx : CRel ρ _ w (a.eval y) c := hsx
          have hf := hsx.flat (fun e => hc (by rw [e]))
          exact key [a.eval y] [c] (by rw [hf.cells]) hq.1 (by have := Nat.eq_of_beq_eq_true hq.2; simp; omega) (by simp) (.cons ⟨hf, hsx⟩ .nil) h
        · exact h.elim
      · exact h.elim
    · rename_i hd sz' i j
      replace h := nthK_ok h
      obtain ⟨r, hr, h⟩ := h
      split at h
      · rename_i sz L
        replace h := tt_ok h
        obtain ⟨hq, e, h⟩ := h
        obtain rfl := Nat.eq_of_beq_eq_true hq
        replace h := ob_ok hg h
        obtain ⟨he, h⟩ := h
        obtain ⟨b, off, l, c, hb, hp⟩ := hsa
        have key : ∀ (xs : List Value) (ys : List D), (a.eval y).cells = xs.toArray → told (Γ.ty T).kd = true → ys.length = (Γ.ty T).size → 1 ≤ ys.length → ∀ (fr : Lt), FrzOk σ.hp fr → notL hd fr = true → (∀ Ac, Spare (Av X ρ σ.hp) ρ fr Ac → All2 (Rd Ac w) xs ys) →
            putsK e j ys (fun e => appK fr [(hd, .row sz' (L.set i e))] fun us => σ.apply dst .junk us [] none K) → (⟨dst, .store T x y, ty, pos, after, guard⟩ : Oper).wp P a w next Q := by
          intro xs ys hxc hk hyl hy1 fr hfr hno hxy hput
          obtain ⟨hle, hput⟩ := putsK_ok hput
          replace hput := appK_ok hput
          obtain ⟨_, _, hput⟩ := apply_ok hput
          rw [after_fr] at hput
          obtain ⟨I1, hS⟩ := I.freezes hfr
          have hr := (foldl_set_out (l := σ.hp) (notL_ok hno)).trans hr
          replace hxy := hxy _ hS
          obtain ⟨it, z, hi, hs, _, _⟩ := ty_told hT hk
          have hle' : j + ys.length ≤ e.length := by
            rcases hle with e | e
            · subst e; simp at hy1
            · exact e
          obtain ⟨Tb, cur, hcur, hsz, hI⟩ := setRowAt I1 hr he hxy hle' hb (dst := dst)
          have hxl := hxy.length
          have hst := run_storeVar (P := P) (T := T) (b := b) (off := off + i * sz' + j) (v := a.eval y) hi hs hxc (by omega) hcur hsz (by
            intro v hv
            obtain ⟨q, hj⟩ := List.getElem?_of_mem hv
            have : q < ys.length := by rw [← hxl]; exact (List.getElem?_eq_some_iff.1 hj).1
            exact (hxy.get hj (List.getElem?_eq_getElem this)).flat)
          exact wp_skip' (by simp [execOp, hp, hst]) (hn _ _ _ _ hput hI)
        split at h
        · rename_i l
          obtain ⟨us, hu, hall⟩ := hsx
          obtain ⟨l', fr, h, hfr, hl'⟩ := viewsK_ok I hall h
          obtain ⟨hno, h⟩ := tt_ok h
          obtain ⟨hq, h⟩ := tt_ok h
          simp only [Bool.and_eq_true] at hq
          have hl := Nat.eq_of_beq_eq_true hq.1.2
          have h1 := Nat.le_of_ble_eq_true hq.2
          exact key us.toList l' (by rw [hu]; simp [Value.cells]) hq.1.1 hl (by omega) fr hfr hno hl' h
        · rename_i c
          have hsx : CRel ρ (Av X ρ σ.hp) w (a.eval y) c := hsx
          obtain ⟨x', fr, h, hfr, hx'⟩ := viewK_ok I hsx h
          obtain ⟨hno, h⟩ := tt_ok h
          obtain ⟨hq, h⟩ := tt_ok h
          simp only [Bool.and_eq_true] at hq
          exact key [a.eval y] [x'] (by rw [(hx' _ (I.freezes hfr).2).flat.cells]) hq.1 (by have := Nat.eq_of_beq_eq_true hq.2; simp; omega) (by simp) fr hfr hno (fun Ac hA => .cons (hx' Ac hA) .nil) h
        · exact h.elim
      · rename_i sz L cs
        replace h := tt_ok h
        obtain ⟨hq, h⟩ := h
        obtain rfl := Nat.eq_of_beq_eq_true hq
        replace h := ob_ok hg h
        obtain ⟨rfl, h⟩ := h
        obtain ⟨b, off, l, c, hb, hp⟩ := hsa
        split at h
        · exact h.elim
        · rename_i c' hc
          obtain ⟨hq, h⟩ := tt_ok h
          simp only [Bool.and_eq_true] at hq
          have hsx : CRel ρ (Av X ρ σ.hp) w (a.eval y) c' := hsx
          have hf := hsx.flat (fun e => hc (by rw [e]))
          obtain ⟨hle, h⟩ := putsK_ok h
          obtain ⟨_, _, h⟩ := apply_ok h
          obtain ⟨i, z, hi, hs, _, _⟩ := ty_told hT hq.1
          have hle' : j < cs.length := by
            rcases hle with e | e
            · cases e
            · simp at e; omega
          have hsz1 := Nat.eq_of_beq_eq_true hq.2
          obtain ⟨Tb, cur, hcur, hsz, hI⟩ := setTail I hr hf hsx hle' hb (dst := dst)
          have hst := run_storeVar (P := P) (T := T) (b := b) (off := off + L.length * sz' + j) (xs := [a.eval y]) (v := a.eval y) hi hs (by rw [hf.cells]) (by simp; omega) hcur (by simpa using hsz) (by intro v hv; simp at hv; subst hv; exact hf)
          have e1 : cs.take j ++ [c'] ++ cs.drop (j + [c'].length) = cs.set j c' := by
            rw [List.set_eq_take_append_cons_drop, if_pos hle', List.append_assoc]; rfl
          rw [e1] at h
          exact wp_skip' (by simp [execOp, hp, hst]) (hn _ _ _ _ h hI)
        · exact h.elim
      · exact h.elim
    · exact h.elim
  · exact call_wp hT hΓ hg I h hn
  · unfold evM at h
    simp only [] at h
    replace h := operands_ok hT I.t I.gla hg h
    obtain ⟨ss, h, hss⟩ := h
    split at h
    · rename_i hx xi cb T T2 hTT
      have hTT' : tys = #[T, T2] := by cases tys; simp_all
      subst hTT'
      obtain ⟨xa, xb, hxx⟩ : ∃ xa xb, args = #[xa, xb] := by
        have := hss.length
        obtain ⟨l⟩ := args
        rcases l with _ | ⟨xa, _ | ⟨xb, _ | ⟨_, _⟩⟩⟩ <;> simp at this
        exact ⟨xa, xb, rfl⟩
      subst hxx
      simp only [List.map_cons, List.map_nil] at hss
      cases hss with
      | cons hca hss =>
      cases hss with
      | cons hcb _ =>
      split at h
      · rename_i e esz eb ez e2 esz2 eb2 ez2 hk1 hk2
        obtain ⟨hd, ie, z, hie, hs1, hb1, hz, hzs, _⟩ := kd_sl hT hk1
        obtain ⟨hd2, _⟩ := kd_sl hT hk2
        replace h := nthK_ok h
        obtain ⟨r, hr, h⟩ := h
        split at h
        · rename_i sz M
          obtain ⟨key, L, h⟩ := h
          replace h := ob_ok hg h
          obtain ⟨hM0, h⟩ := h
          have hh : ∀ (h : Nat) (r : Reg), σ.hp[h]? = some r → ∃ v, ρ[h]? = some v ∧ RegRel ρ (Av X ρ σ.hp) w v r := fun h r hr => I.hp.val hr
          replace h := rowK_ok hh hcb h
          obtain ⟨sz', N, h, a1, cap1, hvb, hMc, hN⟩ := h
          replace h := tt_ok h
          obtain ⟨hq, h⟩ := h
          simp only [Bool.and_eq_true] at hq
          obtain rfl := Nat.eq_of_beq_eq_true hq.1.1.1
          obtain rfl := Nat.eq_of_beq_eq_true hq.1.1.2
          have h1 := Nat.le_of_ble_eq_true hq.1.2
          have h2 := Nat.le_of_ble_eq_true hq.2
          replace h := ob_ok hg h
          obtain ⟨hbig, h⟩ := h
          subst hs1; subst hb1
          replace h := lenK_ok h
          rw [Nat.zero_add] at h
          obtain ⟨_, _, h⟩ := apply_ok h
          obtain ⟨v', w', ρ', hrun, hI⟩ := append_sub I (ty := ty) hd hd2 hie hz hzs h2 h1 hr hM0 hca hvb hN (by omega) (dst := dst)
          have hrun' : (execOp a.eval ⟨dst, .call ⟨.builtin .append, #[xa, xb], #[T, T2]⟩, ty, pos, after, guard⟩).run P w = .ok (.value v') w' := by
            simp [execOp, resolve, invoke, builtin, hrun]
          exact wp_value hrun' (hn _ _ _ _ h hI)
        · exact h.elim
      · exact h.elim
    · rename_i ca cb T T2 _ hTT
      have hTT' : tys = #[T, T2] := by cases tys; simp_all
      subst hTT'
      obtain ⟨xa, xb, hx⟩ : ∃ xa xb, args = #[xa, xb] := by
        have := hss.length
        obtain ⟨l⟩ := args
        rcases l with _ | ⟨xa, _ | ⟨xb, _ | ⟨_, _⟩⟩⟩ <;> simp at this
        exact ⟨xa, xb, rfl⟩
      subst hx
      simp only [List.map_cons, List.map_nil] at hss
      cases hss with
      | cons hca hss =>
      cases hss with
      | cons hcb _ =>
      split at h
      · rename_i e esz eb ez e2 esz2 eb2 ez2 hk1 hk2
        obtain ⟨hd, ie, z, hie, hs1, hb1, hz, hzs, _⟩ := kd_sl hT hk1
        obtain ⟨hd2, _⟩ := kd_sl hT hk2
        split at h
        · split at h
          · rename_i n
            replace h := nthK_ok h
            obtain ⟨r, hr, h⟩ := h
            split at h
            · rename_i sz' cs
              obtain ⟨vb, hvb, a1, c1, hvb2, hc1, hz1, hcl1, b1, off1, T1, vs1, rfl, hb1', _, _, hC1⟩ := I.hp.val hr
              have hbv : vb = a.eval xb := by have := hcb.1; rw [hvb] at this; exact Option.some.inj this
              have hB := baseT_ok I hca h
              clear h
              obtain ⟨hd0, sz, L, fr, h, hva, hfr, hne, I2, hA2, hr2⟩ := hB
              replace h := tt_ok h
              obtain ⟨hq, h⟩ := h
              simp only [Bool.and_eq_true] at hq
              obtain rfl := Nat.eq_of_beq_eq_true hq.1.1.1.1.1
              obtain rfl := Nat.eq_of_beq_eq_true hq.1.1.1.1.2
              have h1 := Nat.le_of_ble_eq_true hq.1.1.1.2
              have h2 := Nat.le_of_ble_eq_true hq.1.1.2
              replace h := ob_ok hg h
              obtain ⟨hbig, h⟩ := h
              subst hs1; subst hb1
              replace h := appK_ok h
              obtain ⟨_, _, h⟩ := apply_ok h
              have hC2 : TailAt ρ (Av X ρ ((fr.foldl (fun hp u => hp.set u.1 u.2) σ.hp).set hd0 (.row ie.size L))) w b1 off1 cs := TailAt_iff.2 fun j c hc => by
                obtain ⟨u, hu, hf, hr⟩ := TailAt_iff.1 (by simpa using hC1) j c hc
                exact ⟨u, hu, hf, CRel.less hA2 hr⟩
              obtain ⟨v', w', ρ', hrun, hI⟩ := append_one I2 (ty := ty) hd hd2 hie hz hzs h2 h1 hr2 hva (hbv.symm.trans hvb2) (Array.getElem?_eq_some_iff.1 hb1').1 hcl1 hC2 hq.1.2 (by omega) (dst := dst)
              have hrun' : (execOp a.eval ⟨dst, .call ⟨.builtin .append, #[xa, xb], #[T, T2]⟩, ty, pos, after, guard⟩).run P w = .ok (.value v') w' := by
                simp [execOp, resolve, invoke, builtin, hrun]
              have e5 : St.after ⟨σ.t, (fr.foldl (fun hp u => hp.set u.1 u.2) σ.hp).set hd0 (.row ie.size L)⟩ dst (.one (.own hd0)) [(hd0, .rowt ie.size L cs)] [] (some hd0) = σ.after dst (.one (.own hd0)) (fr ++ [(hd0, .rowt ie.size L cs)]) [] (some hd0) := by
                rw [after_move]
                show _ = afterD (σ.t.map (S.loseO (some hd0))) ((fr ++ [(hd0, Reg.rowt ie.size L cs)]).foldl (fun hp u => hp.set u.1 u.2) (σ.hp.map (Reg.loseO (some hd0))) ++ []) dst _
                rw [List.append_nil, List.foldl_append, List.foldl_cons, List.foldl_nil, List.map_set, List.set_set, foldl_frz (fun _ _ => rfl) fun u hu => (hfr u hu).imp fun _ h => h.imp fun _ h => h.1]
              rw [e5] at hI
              exact wp_value hrun' (hn _ _ _ _ h hI)
            · exact h.elim
          · exact h.elim
        replace h := baseK_ok I hca h
        obtain ⟨h?, sz, L, h, a0, cap, hva, hLc, hbase⟩ := h
        have hh : ∀ (h : Nat) (r : Reg), σ.hp[h]? = some r → ∃ v, ρ[h]? = some v ∧ RegRel ρ (Av X ρ σ.hp) w v r := fun h r hr => I.hp.val hr
        replace h := rowK_ok hh hcb h
        obtain ⟨sz', M, h, a1, cap1, hvb, hMc, hM⟩ := h
        replace h := tt_ok h
        obtain ⟨hq, h⟩ := h
        simp only [Bool.and_eq_true] at hq
        obtain rfl := Nat.eq_of_beq_eq_true hq.1.1.1
        obtain rfl := Nat.eq_of_beq_eq_true hq.1.1.2
        have h1 := Nat.le_of_ble_eq_true hq.1.2
        have h2 := Nat.le_of_ble_eq_true hq.2
        replace h := ob_ok hg h
        obtain ⟨hbig, h⟩ := h
        subst hs1; subst hb1
        obtain ⟨v', w', ρ', hrun, hI⟩ := append_wp I (ty := ty) hd hd2 hie hz hzs h2 h1 hva hLc hbase hvb hM (by omega) (dst := dst)
        have hrun' : (execOp a.eval ⟨dst, .call ⟨.builtin .append, #[xa, xb], #[T, T2]⟩, ty, pos, after, guard⟩).run P w = .ok (.value v') w' := by
          simp [execOp, resolve, invoke, builtin, hrun]
        refine wp_value hrun' ?_
        split at h
        · replace h := lenK_ok h
          rw [Nat.zero_add] at h
          obtain ⟨_, _, h⟩ := apply_ok h
          exact hn _ _ _ _ h hI
        · obtain ⟨_, _, h⟩ := apply_ok h
          exact hn _ _ _ _ h hI
      · exact h.elim
    · exact h.elim
  · unfold evM at h
    simp only [] at h
    split at h
    · rename_i e esz eb ez hk
      obtain ⟨hd, ie, z, hie, hs1, hb1, hz, hzs, hez⟩ := kd_sl hT hk
      replace h := operand_ok hT I.t I.gla hg h
      obtain ⟨sl, h, hsl⟩ := h
      replace h := operand_ok hT I.t I.gla hg h
      obtain ⟨sc, h, hsc⟩ := h
      split at h
      · rename_i kl l' kc c'
        replace h := tt_ok h
        obtain ⟨hq, h⟩ := h
        simp only [Bool.and_eq_true] at hq
        have h1 := Nat.le_of_ble_eq_true hq.1
        have h2 := Nat.le_of_ble_eq_true hq.2
        replace h := ob_ok hg h
        obtain ⟨⟨hl0, hlc, hcb⟩, h⟩ := h
        replace h := lenK_ok h
        rw [Nat.zero_add] at h
        replace h := apply_ok h
        obtain ⟨_, _, h⟩ := h
        have hvl := sdi_inv hsl
        have hvc := sdi_inv hsc
        obtain ⟨c'', rfl⟩ : ∃ n : Nat, c' = n := ⟨c'.toNat, by omega⟩
        obtain ⟨l'', rfl⟩ : ∃ n : Nat, l' = n := ⟨l'.toNat, by omega⟩
        have hcb' : c'' * eb ≤ 281474976710656 := Int.ofNat_le.1 (show ((c'' * eb : Nat) : Int) ≤ ((281474976710656 : Nat) : Int) by rw [Int.natCast_mul]; exact hcb)
        have hc'' : c'' ≤ 281474976710656 := Nat.le_trans (Nat.le_mul_of_pos_right _ h2) hcb'
        have hezl : ez.length = esz := by rw [← hez.length]; simpa using hzs
        have hrun : (execOp a.eval ⟨dst, .makeSlice T l c, ty, pos, after, guard⟩).run P w = .ok (.value (.slice (some ⟨w.heap.size, 0, none⟩) (List.replicate l'' ez).length c'')) { w with heap := w.heap.push (.cells ((Array.range (c'' * esz)).map (z.cells[· % z.cells.size]!)) e (0, 0)) } := by
          have := run_make (P := P) w T e ie z hd hie hz kl kc l'' c'' (by omega) (by omega) (by rw [hb1, Int.mul_comm]; omega) (by omega)
          rw [hs1] at this
          simp only [Int.toNat_natCast] at this
          simp only [execOp, hvl, hvc, Sem.run_bind, this, Result.andThen_ok, Sem.run_pure, List.length_replicate]
          rfl
        have hpos : 0 < esz := h1
        refine wp_value hrun (hn _ _ _ (ρ ++ [.slice (some ⟨w.heap.size, 0, none⟩) (List.replicate l'' ez).length c'']) h ?_)
        rw [show ((l'' : Int).toNat) = l'' from rfl]
        refine newRow' I hpos (by intro x hx; rw [List.eq_of_mem_replicate hx]; exact hezl) (by simp; omega) (by simp) fun j x hx => ?_
        have hj : j < l'' * esz := by
          have := (List.getElem?_eq_some_iff.1 hx).1
          rw [flatten_length (L := List.replicate l'' ez) (sz := esz) (by intro x hx; rw [List.eq_of_mem_replicate hx]; exact hezl)] at this
          simpa using this
        have hj' : j < c'' * esz := Nat.lt_of_lt_of_le hj (Nat.mul_le_mul_right _ (by omega))
        obtain ⟨x', hx', u, hu, hr⟩ := zeroCells_rel (A := Av X ρ σ.hp) (w := w) hzs h1 hez c'' j hj'
        have : (List.replicate l'' ez).flatten[j]? = ez[j % esz]? := flat_rep hezl h1 l'' j hj
        rw [this, hx'] at hx
        cases hx
        exact ⟨u, hu, hr⟩
      · exact h.elim
    · exact h.elim
  · unfold evM at h
    simp only [] at h
    split at h
    · rename_i e esz eb ez hk
      obtain ⟨hd, ie, z, hie, hs1, hb1, hz, hzs, hez⟩ := kd_sl hT hk
      obtain ⟨hq, h⟩ := tt_ok h
      simp only [Bool.and_eq_true] at hq
      have h1 := Nat.le_of_ble_eq_true hq.1
      have h2 := Nat.le_of_ble_eq_true hq.2
      replace h := partsK_ok hT I.t I.gla hg h
      obtain ⟨ss, h, hss⟩ := h
      have hezl : ez.length = esz := by rw [← hez.length]; simpa using hzs
      have hcells : All2 (fun u c => Flat u ∧ CRel ρ (Av X ρ σ.hp) w u c) ((Array.range (n * esz)).map (z.cells[· % z.cells.size]!)).toList (zerosOf ez n) := by
        refine All2.of_get (by simp [zerosOf_len, hezl]) fun j u c hu hc => ?_
        have hj : j < n * esz := by simpa using (List.getElem?_eq_some_iff.1 hu).1
        obtain ⟨x', hx', u', hu', hr⟩ := zeroCells_rel (A := Av X ρ σ.hp) (w := w) hzs h1 hez n j hj
        rw [Array.getElem?_toList] at hu
        rw [hu'] at hu
        cases hu
        rw [zerosOf_get hezl h1 n j hj, hx'] at hc
        cases hc
        exact ⟨hr.flat, hr⟩
      obtain ⟨cells', cs', h, hfill, hrel⟩ := fillK_ok (ρ := ρ) (A := Av X ρ σ.hp) (w := w) (slots_place h1 n) hss hcells h
      have hsz : cells'.size = n * esz := by
        have h1 := fill_size hfill
        rw [h1]; simp
      have hrun : (execOp a.eval ⟨dst, .buildSlice T n ps, ty, pos, after, guard⟩).run P w = .ok (.value (.slice (some ⟨w.heap.size, 0, none⟩) n n)) { w with heap := w.heap.push (.cells cells' e (0, 0)) } := by
        have hf : Instr.fill (fun i => some (i * esz, esz)) ((Array.range (n * esz)).map (z.cells[· % z.cells.size]!)) (ps.toList.map fun (i, x) => (i, a.eval x)) = some cells' := hfill
        by_cases e0 : n * esz = 0
        · have hn0 : n = 0 := by rcases Nat.mul_eq_zero.1 e0 with h | h <;> omega
          subst hn0
          simp only [Nat.zero_mul] at hf
          have hf' : Instr.fill (fun i => some (i * esz, esz)) #[] (ps.toList.map fun (i, x) => (i, a.eval x)) = some cells' := by simpa [Array.range_zero'] using hf
          simp [execOp, Instr.buildSlice, run_underlying hd, typeInfo, hie, sizeOf, hs1, hf', newRow, Array.range_zero']
        · have := run_buildSlice w T e n (ps.map fun (i, x) => (i, a.eval x)) cells' ie z hd hie hz (by rw [hs1]; omega) (by rw [hs1]; exact e0) (by rw [hs1]; simpa using hf)
          simp only [execOp, Sem.run_bind, this, Result.andThen_ok, Sem.run_pure]
          rfl
      refine wp_value hrun ?_
      split at h
      · rename_i hone
        have hn1 : n = 1 := by
          unfold oneOr at hone
          split at hone
          · exact Nat.eq_of_beq_eq_true hone
          · unfold oneNil at hone
            split at hone
            · rfl
            · cases hone
        replace h := lenK_ok h
        rw [Nat.zero_add] at h
        obtain ⟨_, _, h⟩ := apply_ok h
        have hlr := hrel.length
        rw [hn1, Nat.one_mul] at hsz
        rw [Array.length_toList, hsz] at hlr
        rw [hn1]
        refine hn _ _ _ _ h (newTail I (T := e) (vs := cells') h1 hlr.symm (by omega) fun j x hx => ?_)
        obtain ⟨u, hu, hf, hr⟩ := hrel.get' hx
        exact ⟨u, by rw [← Array.getElem?_toList]; exact hu, hf, hr⟩
      obtain ⟨l, fr, h, hfr, hl⟩ := viewsK_ok I hrel h
      obtain ⟨L, h, hLe, hLn, hLf⟩ := chunkK_ok h
      obtain ⟨I1, hS⟩ := I.freezes hfr
      replace hl := hl _ hS
      have hfl : (fr.foldl (fun hp u => hp.set u.1 u.2) σ.hp).length = σ.hp.length := foldl_set_len _ _
      split at h
      · obtain ⟨_, _, h⟩ := apply_ok h
        rw [← List.append_nil fr, after_fr] at h
        simp at hLn
        refine hn _ _ _ _ h (Inv.look (I1.goes (w' := { w with heap := w.heap.push (.cells cells' e (0, 0)) }) (push_same rfl).1 ⟨rfl, rfl, rfl, Nat.le_refl _⟩ (push_same rfl).2) ?_)
        exact ⟨some ⟨w.heap.size, 0, none⟩, by rw [← hLn]⟩
      · replace h := lenK_ok h
        rw [Nat.zero_add] at h
        obtain ⟨_, _, h⟩ := apply_ok h
        rw [← List.append_nil fr, after_fr] at h
        have := newRow' I1 (T := e) (vs := cells') (c := n) (dst := dst) h1 hLe (by omega) (by omega) fun j x hx => by
          have hj := hLf j x hx
          have hlt : j < cells'.size := by
            have := (List.getElem?_eq_some_iff.1 hj).1
            have := hl.length
            simp at this; omega
          exact ⟨cells'[j], by simp [hlt], hl.get (by simp [hlt]) hj⟩
        rw [hLn, hfl] at this
        exact hn _ _ _ _ h this
    · exact h.elim
  · unfold evM at h
    simp only [] at h
    replace h := operands_ok hT I.t I.gla hg h
    obtain ⟨ss, h, hss⟩ := h
    split at h
    · rename_i hx sz lo n T hTT
      have hTT' : tys = #[T] := by cases tys; simp_all
      subst hTT'
      obtain ⟨xa, hxx⟩ : ∃ xa, args = #[xa] := by
        have := hss.length
        obtain ⟨l⟩ := args
        rcases l with _ | ⟨xa, _ | ⟨xb, _⟩⟩ <;> simp at this
        exact ⟨xa, rfl⟩
      subst hxx
      simp only [List.map_cons, List.map_nil] at hss
      cases hss with
      | cons hca _ =>
      split at h
      · rename_i e esz eb ez hk1
        obtain ⟨hd, ie, z, hie, hs1, hb1, hz, hzs, hez⟩ := kd_sl hT hk1
        replace h := nthK_ok h
        obtain ⟨r, hr, h⟩ := h
        split at h
        · rename_i sz' L
          replace h := tt_ok h
          obtain ⟨hq, h⟩ := h
          simp only [Bool.and_eq_true] at hq
          obtain rfl := Nat.eq_of_beq_eq_true hq.1
          obtain rfl := Nat.eq_of_beq_eq_true hq.2
          subst hs1
          obtain ⟨_, _, h⟩ := apply_ok h
          obtain ⟨w', hrun, hI⟩ := clearRow I hd hie hz hzs hez hr hca (dst := dst) (ty := ty)
          exact wp_value (by simp [execOp, resolve, invoke, builtin, hrun]) (hn _ _ _ _ h hI)
        · exact h.elim
      · exact h.elim
    · exact h.elim
  · unfold evM at h
    simp only [] at h
    split at h
    · rename_i ez hk
      obtain ⟨kt, et, ht, hkt, _⟩ := kd_map hT hk
      replace h := lenK_ok h
      rw [Nat.zero_add] at h
      obtain ⟨_, _, h⟩ := apply_ok h
      have T' := touchNew I (w' := { w with heap := w.heap.push (.map #[] 0) }) (r := .mapd []) (v := .map (some w.heap.size)) rfl ⟨rfl, rfl, rfl, Nat.le_refl _⟩ (fun b hb => by simp [Bk, blk] at hb; omega)
      have hl := T'.ρt
      rw [after_new] at h
      have hI := I.touchPut T' (dst := dst) (v := .map (some w.heap.size)) (s := .one (.own σ.hp.length))
        ⟨w.heap.size, #[], 0, .inl rfl, by simp, .nil, MapKept.stamped_empty 0⟩ (sown hl ⟨by simp, by simp⟩)
      rw [map_sloseO_none] at hI
      exact wp_value (by simp [execOp, Instr.makeMap]) (hn _ _ _ _ h hI)
    · exact h.elim
  · unfold evM at h
    simp only [] at h
    split at h
    · rename_i ez hk
      obtain ⟨kt, et, ht, hkt, ie, z, hie, hz, hzr⟩ := kd_map hT hk
      replace h := operand_ok hT I.t I.gla hg h
      obtain ⟨sm, h, hsm⟩ := h
      replace h := operand_ok hT I.t I.gla hg h
      obtain ⟨sx, h, hsx⟩ := h
      split at h
      · rename_i cm key
        have hkey := sdi_inv hsx
        replace h := mapH_ok (show CRel ρ _ w (a.eval m) cm from hsm) h
        obtain ⟨hx, h, hmv⟩ := h
        replace h := nthK_ok h
        obtain ⟨r, hr, h⟩ := h
        have hmv' : (ρ[hx]? = some (a.eval m) ∧ Flat (a.eval m)) ∨ ∃ us, ρ[hx]? = some (.tuple ⟨a.eval m :: us⟩) ∧ Flat (a.eval m) := by
          rcases hmv with ⟨h1, h2, _⟩ | ⟨us, h1, h2, _⟩
          · exact .inl ⟨h1, h2⟩
          · exact .inr ⟨us, h1, h2⟩
        have hzv : (zeroValue et).run P w = .ok z w := by simp [zeroValue, typeInfo, hie, hz]
        split at h
        · rename_i M
          obtain ⟨b, es, clock, hvm, hb, hM, hst, _⟩ := mapd_at I hr hmv'
          rcases run_lookup ht hkt hzv hb (fun e he => by
            obtain ⟨j, hj⟩ := List.getElem?_of_mem he
            have hlt : j < M.length := by rw [← hM.length]; exact (List.getElem?_eq_some_iff.1 hj).1
            exact ⟨_, (hM.get hj (List.getElem?_eq_getElem hlt)).1⟩) key with ⟨j, e, h1, h2, hrun⟩ | ⟨h1, hrun⟩
          · have hlt : j < M.length := by rw [← hM.length]; exact (List.getElem?_eq_some_iff.1 h1).1
            obtain ⟨g1, g2⟩ := hM.get h1 (List.getElem?_eq_getElem hlt)
            rw [h2] at g1
            have hk1 : key = M[j].1 := by cases g1; rfl
            have hmem : (key, M[j].2) ∈ M := by rw [hk1]; exact List.getElem_mem hlt
            obtain ⟨_, _, h⟩ := apply_ok (h.1 _ hmem)
            exact wp_value (by simp [execOp, hvm, hkey, hrun]) (hn _ _ _ _ h (Inv.look I g2))
          · obtain ⟨_, _, h⟩ := apply_ok (h.2 fun p hp e => by
              obtain ⟨j, hj⟩ := List.getElem?_of_mem hp
              have hlt : j < es.toList.length := by rw [hM.length]; exact (List.getElem?_eq_some_iff.1 hj).1
              have hke := (hM.get (List.getElem?_eq_getElem hlt) hj).1
              exact h1 _ (List.mem_of_getElem? (List.getElem?_eq_getElem hlt)) (by rw [hke, e]))
            exact wp_value (by simp [execOp, hvm, hkey, hrun]) (hn _ _ _ _ h (Inv.look I (hzr.2 _ _ _)))
        · rename_i sz M
          obtain ⟨b, es, clock, us, hvm, hg', hb, hM, hst, _⟩ := mapr_at I hr hmv'
          rcases run_lookup ht hkt hzv hb (fun e he => by
            obtain ⟨j, hj⟩ := List.getElem?_of_mem he
            obtain ⟨_, k, _, _, _, h, _⟩ := hM.get hj
            exact ⟨k, h⟩) key with ⟨j, e, h1, h2, hrun⟩ | ⟨h1, hrun⟩
          · obtain ⟨u, k, r, g1, g2, g3, g4, g5⟩ := hM.get h1
            rw [h2] at g3
            have hk1 : key = k := by cases g3; rfl
            subst hk1
            cases r with
            | none => exact absurd rfl (h.1 j _ g2).1
            | some L =>
              obtain ⟨_, _, h⟩ := apply_ok (h.1 j _ g2).2
              have hev : e.val = u := g5.1
              exact wp_value (by simp [execOp, hvm, hkey, hrun]) (hn _ _ _ _ h (Inv.look I (show CRel ρ (Av X ρ σ.hp) w e.val (.sub hx j) from ⟨_, _, hg', by rw [hev]; exact g1, by rw [hev]; exact g4⟩)))
          · obtain ⟨_, _, h⟩ := apply_ok (h.2 fun p hp e => by
              obtain ⟨j, hj⟩ := List.getElem?_of_mem hp
              obtain ⟨k, r⟩ := p
              obtain ⟨e0, _, he, _, hke, _⟩ := hM.getM hj
              have e : k = key := e
              subst e
              exact h1 e0 (List.mem_of_getElem? he) hke)
            exact wp_value (by simp [execOp, hvm, hkey, hrun]) (hn _ _ _ _ h (Inv.look I (hzr.2 _ _ _)))
        · exact h.elim
      · exact h.elim
    · exact h.elim
  · unfold evM at h
    simp only [] at h
    split at h
    · rename_i ez hk
      obtain ⟨kt, et, ht, hkt, ie, z, hie, hz, hzr⟩ := kd_map hT hk
      replace h := operand_ok hT I.t I.gla hg h
      obtain ⟨sm, h, hsm⟩ := h
      replace h := operand_ok hT I.t I.gla hg h
      obtain ⟨sx, h, hsx⟩ := h
      replace h := operand_ok hT I.t I.gla hg h
      obtain ⟨sy, h, hsy⟩ := h
      split at h
      · rename_i cm key c
        have hkey := sdi_inv hsx
        replace h := mapH_ok (show CRel ρ _ w (a.eval m) cm from hsm) h
        obtain ⟨hx, h, hmv⟩ := h
        replace h := nthK_ok h
        obtain ⟨r, hr, h⟩ := h
        have hmv' : (ρ[hx]? = some (a.eval m) ∧ Flat (a.eval m)) ∨ ∃ us, ρ[hx]? = some (.tuple ⟨a.eval m :: us⟩) ∧ Flat (a.eval m) := by
          rcases hmv with ⟨h1, h2, _⟩ | ⟨us, h1, h2, _⟩
          · exact .inl ⟨h1, h2⟩
          · exact .inr ⟨us, h1, h2⟩
        split at h
        · rename_i M
          replace h := viewK_ok I (show CRel ρ _ w (a.eval y) c from hsy) h
          obtain ⟨d, fr, h, hfr, hd⟩ := h
          replace h := tt_ok h
          obtain ⟨hno, h⟩ := h
          replace h := appK_ok h
          obtain ⟨_, _, h⟩ := apply_ok h
          rw [after_fr] at h
          obtain ⟨I1, hS⟩ := I.freezes hfr
          have hr := (foldl_set_out (l := σ.hp) (notL_ok hno)).trans hr
          obtain ⟨w', hrun, hI⟩ := putData I1 ht hkt hr hmv' (n := key) (hd _ hS) (dst := dst)
          exact wp_skip' (by simp [execOp, hkey, hrun]) (hn _ _ _ _ h hI)
        · rename_i sz M
          split at h
          · rename_i n
            replace h := nthK_ok h
            obtain ⟨r, hrn, h⟩ := h
            split at h
            · rename_i sz' L
              replace h := tt_ok h
              obtain ⟨hq, h⟩ := h
              obtain rfl := Nat.eq_of_beq_eq_true hq
              obtain ⟨_, _, h⟩ := apply_ok h
              obtain ⟨w', ρ4, hrun, hI⟩ := putRow I ht hkt hr hrn hmv' (key := key) (show CRel ρ (Av X ρ σ.hp) w (a.eval y) (.own n) from hsy) (dst := dst)
              exact wp_skip' (by simp [execOp, hkey, hrun]) (hn _ _ _ _ h hI)
            · exact h.elim
          · exact h.elim
        · exact h.elim
      · exact h.elim
    · exact h.elim

theorem ob_any {gd : Option (Bool × Bool)} {p q : Prop} (h : ob gd p q) : q := by
  unfold ob at h; cases gd <;> exact h.2
theorem strip_any {gd : Option (Bool × Bool)} {s : S} {k : S → Prop} (h : strip gd s k) : ∃ s, k s := by
  unfold strip at h
  split at h
  · split at h
    · exact ⟨_, h.2⟩
    · exact ⟨_, h⟩
  · exact ⟨_, h⟩
theorem operand_any {Γ : TypeId → TI} {T : TypeId} {t : List S} {x : Operand} {k : S → Prop} (h : operand Γ T gd t x k) : ∃ s, k s := by
  cases x with
  | tmp i => obtain ⟨s, _, h⟩ := nthK_ok h; exact strip_any h
  | const v => exact ⟨_, h⟩
  | func f => exact ⟨_, h⟩
  | global g =>
    change (match findG globs g with
      | some l => k (.one (.pel l))
      | none => k .junk) at h
    split at h <;> exact ⟨_, h⟩
theorem operands_any {Γ : TypeId → TI} {t : List S} {xs : List Operand} : ∀ {Ts : List TypeId} {k : List S → Prop}, operands Γ gd t xs Ts k → ∃ ss, k ss := by
  induction xs with
  | nil => intro Ts k h; cases Ts <;> exact ⟨_, h⟩
  | cons x xs ih =>
    intro Ts k h
    cases Ts with
    | nil => obtain ⟨s, h⟩ := operand_any h; obtain ⟨ss, h⟩ := ih h; exact ⟨_, h⟩
    | cons T Ts => obtain ⟨s, h⟩ := operand_any h; obtain ⟨ss, h⟩ := ih h; exact ⟨_, h⟩
theorem partsK_any {Γ : TypeId → TI} {Tf : Nat → TypeId} {t : List S} : ∀ {ps : List (Nat × Operand)} {k : List (Nat × S) → Prop}, partsK Γ Tf gd t ps k → ∃ ss, k ss
  | [], k, h => ⟨_, h⟩
  | (j, x) :: ps, k, h => by obtain ⟨s, h⟩ := operand_any h; obtain ⟨ss, h⟩ := partsK_any h; exact ⟨_, h⟩
theorem capsK_any {Γ : TypeId → TI} {t : List S} : ∀ {xs : List Operand} {k : List Cap → Prop}, capsK Γ gd t xs k → ∃ cs, k cs
  | [], k, h => ⟨_, h⟩
  | x :: xs, k, h => by
    unfold capsK at h
    obtain ⟨s, h⟩ := operand_any h
    unfold capK at h
    split at h <;> first | (obtain ⟨cs, h⟩ := capsK_any h; exact ⟨_, h⟩) | exact h.elim
theorem partK_any {ag : Bool} {n : Nat} {cs : List C} {k : S → Prop} (h : partK ag n cs k) : ∃ s, k s := by
  unfold partK at h
  split at h
  · exact ⟨_, (takeK_ok h).2⟩
  · split at h
    · exact ⟨_, h⟩
    · exact h.elim
theorem dead_any {c : S → Prop} {s : S} (h : dead gd (c s)) : ∃ s, c s := by
  unfold dead at h
  cases gd with
  | none => exact h.elim
  | some x => exact ⟨_, h.2⟩
theorem loadK_any {T : TI} {hp : List Reg} {s : S} {k : S → Prop} (h : loadK gd T hp s k) : ∃ s, k s := by
  unfold loadK at h
  replace h := (tt_ok h).2
  split at h
  · obtain ⟨r, _, h⟩ := nthK_ok h
    split at h
    · exact partK_any (dropK_ok h).2
    · exact h.elim
  · exact partK_any (dsK_ok h)
  · obtain ⟨r, _, h⟩ := nthK_ok h
    split at h
    · obtain ⟨_, e, h⟩ := tt_ok h
      exact partK_any (dsK_ok (dropK_ok (ob_any h)).2)
    · obtain ⟨_, h⟩ := tt_ok h
      exact partK_any (dropK_ok (ob_any h)).2
    · exact h.elim
  · exact dead_any h
  · exact h.elim
theorem longK_any {hp : List Reg} {c : C} {k : Int → Prop} (h : longK hp c k) : ∃ n, k n := by
  unfold longK at h
  split at h
  · obtain ⟨r, _, h⟩ := nthK_ok h
    split at h
    · exact ⟨_, h⟩
    · exact ⟨_, h⟩
    · exact ⟨_, h⟩
    · exact h.elim
  · obtain ⟨r, _, h⟩ := nthK_ok h
    split at h
    · obtain ⟨_, _, _, h⟩ := h; exact ⟨_, h⟩
    · exact h.elim
  · obtain ⟨sz, L, _, h⟩ := rowK_det h; exact ⟨_, h⟩
theorem sumK_any {nw : Bool} {k : IntKind} {n : Int} {c : S → Prop} (h : sumK nw gd k n c) : ∃ s, c s := by
  unfold sumK at h
  split at h
  · exact ⟨_, ob_any h⟩
  · exact ⟨_, h⟩
  · exact ⟨_, h⟩
theorem nilB_any {T : TI} {b : Bool} {op : BinOp} {c : S → Prop} (h : nilB T b op c) : ∃ s, c s := by
  unfold nilB at h
  split at h <;> first | exact ⟨_, h⟩ | exact h.elim
theorem bin_any {nw : Bool} {T : TI} {op : BinOp} {a b : S} {c : S → Prop} (h : bin nw T gd op a b c) : ∃ s, c s := by
  unfold bin at h
  split at h
  · split at h
    · exact h.elim
    · unfold binI at h
      cases op <;> simp only [] at h
      case add => exact sumK_any h
      case sub => exact sumK_any h
      case mul => exact sumK_any h
      case quo => exact sumK_any (ob_any h)
      case rem => exact ⟨_, ob_any h⟩
      case shl => exact ⟨_, ob_any h⟩
      case shr => exact ⟨_, ob_any h⟩
      all_goals exact ⟨_, h⟩
  · split at h <;> first | exact ⟨_, h⟩ | exact h.elim
  · split at h <;> first | exact ⟨_, h⟩ | exact h.elim
  · exact nilB_any h
  · exact nilB_any h
  · exact nilB_any h
  · exact dead_any h
  · exact dead_any h
  · exact h.elim
theorem un_any {nw : Bool} {op : UnOp} {a : S} {c : S → Prop} (h : un nw gd op a c) : ∃ s, c s := by
  unfold un at h
  split at h
  · exact dead_any h
  · exact sumK_any h
  · exact ⟨_, h⟩
  · exact h.elim
theorem cutK_any {hp : List Reg} {c : C} {l h : Int} {k : S → Prop} (hk : cutK gd hp c l h k) : ∃ s, k s := by
  unfold cutK at hk
  split at hk
  · exact ⟨_, ob_any hk⟩
  · obtain ⟨r, _, hk⟩ := nthK_ok hk
    split at hk
    · exact ⟨_, ob_any hk⟩
    · exact ⟨_, ob_any hk⟩
    · exact hk.elim
  · exact ⟨_, ob_any hk⟩
  · exact ⟨_, ob_any hk⟩
  · exact hk.elim
theorem optK_any {Γ : TypeId → TI} {t : List S} {x : Option Operand} {n : Int} {k : Int → Prop} (h : optK Γ gd t x n k) : ∃ l, k l := by
  cases x with
  | none => exact ⟨_, h⟩
  | some x =>
    obtain ⟨s, h⟩ := operand_any h
    split at h
    · exact ⟨_, h⟩
    · exact h.elim
theorem fillK_any {fs : List (Nat × Nat × Bool)} : ∀ {ps : List (Nat × S)} {cs : List C} {k : List C → Prop}, fillK fs cs ps k → ∃ l, k l
  | [], cs, k, h => ⟨_, h⟩
  | (j, x) :: ps, cs, k, h => by
    replace h := nthK_ok h
    obtain ⟨⟨o, n, ag⟩, hf, h⟩ := h
    dsimp only at h
    split at h
    · exact fillK_any (putsK_ok (tt_ok h).2).2
    · replace h := (tt_ok h).2
      split at h
      · exact h.elim
      · exact fillK_any (putsK_ok h).2
    · exact h.elim
theorem evP_any {o : Oper} {t : List S} {hp : List Reg} {k : S → Prop} (h : evP Γ gd o t hp k) : ∃ s, k s := by
  obtain ⟨dst, op, ty, pos, after, guard⟩ := o
  unfold evP at h
  cases op <;> simp only [] at h
  case move x => exact operand_any h
  case assign x => exact operand_any h
  case pick c x y =>
    obtain ⟨s1, h⟩ := operand_any h
    obtain ⟨s2, h⟩ := operand_any h
    obtain ⟨s3, h⟩ := operand_any h
    split at h <;> first | exact ⟨_, h⟩ | exact ⟨_, ob_any h⟩ | exact h.elim
  case load T x => obtain ⟨s, h⟩ := operand_any h; exact loadK_any h
  case nilCheck x =>
    obtain ⟨s, h⟩ := operand_any h
    split at h <;> first | exact ⟨_, h⟩ | exact dead_any h | exact h.elim
  case binOp =>
    split at h
    · obtain ⟨s, h⟩ := operand_any h
      split at h
      · obtain ⟨_, _, _, h⟩ := rowK_det h; exact ⟨_, h⟩
      · exact h.elim
    · obtain ⟨s, h⟩ := operand_any h; obtain ⟨s', h⟩ := operand_any h; exact bin_any h
  case unOp => obtain ⟨s, h⟩ := operand_any h; exact un_any h
  case convert =>
    obtain ⟨s, h⟩ := operand_any h
    split at h
    · exact sumK_any (tt_ok h).2
    · exact ⟨_, (tt_ok h).2⟩
    · exact h.elim
  case fieldAddr =>
    obtain ⟨s, h⟩ := operand_any h
    split at h
    · obtain ⟨⟨o, n, ag⟩, _, h⟩ := nthK_ok h
      dsimp only at h
      split at h
      · exact ⟨_, h⟩
      · exact ⟨_, (dropK_ok h).2⟩
      · exact ⟨_, h⟩
      · exact dead_any h
      · exact h.elim
    · exact h.elim
  case field =>
    obtain ⟨s, h⟩ := operand_any h
    split at h
    · obtain ⟨⟨o, n, ag⟩, _, h⟩ := nthK_ok h
      exact partK_any (dropK_ok h).2
    · exact h.elim
  case indexAddr =>
    obtain ⟨s, h⟩ := operand_any h
    obtain ⟨s', h⟩ := operand_any h
    split at h
    · split at h
      · obtain ⟨_, e, h⟩ := tt_ok h; exact ⟨_, ob_any h⟩
      · obtain ⟨r, _, h⟩ := nthK_ok h
        split at h
        · exact ⟨_, ob_any (tt_ok h).2⟩
        · exact ⟨_, ob_any (tt_ok h).2⟩
        · obtain ⟨_, e, h⟩ := tt_ok h; exact ⟨_, ob_any h⟩
        · exact h.elim
      · obtain ⟨r, _, h⟩ := nthK_ok h
        split at h
        · exact ⟨_, ob_any (tt_ok h).2⟩
        · exact h.elim
      · exact ⟨_, ob_any h⟩
      · exact ⟨_, (dropK_ok (ob_any h)).2⟩
      · exact ⟨_, ob_any h⟩
      · exact h.elim
    · exact h.elim
  case index =>
    obtain ⟨s, h⟩ := operand_any h
    obtain ⟨s', h⟩ := operand_any h
    split at h
    · obtain ⟨_, b, h⟩ := tt_ok h; exact ⟨_, ob_any h⟩
    · exact h.elim
  case slice T x lo hi mx =>
    cases mx <;> simp only [] at h
    case none =>
      obtain ⟨s, h⟩ := operand_any h
      split at h
      · obtain ⟨sz, L, _, h⟩ := rowK_det h
        obtain ⟨l, h⟩ := optK_any (tt_ok h).2
        obtain ⟨l', h⟩ := optK_any h
        exact cutK_any h
      · exact h.elim
    case some mx =>
      cases lo with
      | some _ => exact h.elim
      | none =>
        cases hi with
        | none => exact h.elim
        | some hi =>
          obtain ⟨s, h⟩ := operand_any h
          split at h
          · obtain ⟨sz, L, _, h⟩ := rowK_det h
            obtain ⟨l, h⟩ := operand_any (tt_ok h).2
            obtain ⟨l', h⟩ := operand_any h
            split at h
            · exact ⟨_, ob_any h⟩
            · exact h.elim
          · exact h.elim
  case extract =>
    obtain ⟨s, h⟩ := operand_any h
    split at h
    · obtain ⟨v, _, h⟩ := nthK_ok h; exact ⟨_, h⟩
    · exact h.elim
  case makeFunc fn first captured =>
    cases fn <;> simp only [] at h
    case func f =>
      split at h
      · obtain ⟨cs, h⟩ := capsK_any h; exact ⟨_, h⟩
      · exact h.elim
  case build =>
    split at h
    · obtain ⟨ss, h⟩ := partsK_any h
      obtain ⟨l, h⟩ := fillK_any h
      exact ⟨_, h⟩
    · obtain ⟨ss, h⟩ := partsK_any (tt_ok h).2
      obtain ⟨l, h⟩ := fillK_any h
      exact ⟨_, h⟩
    · exact h.elim
  case call c =>
    obtain ⟨callee, args, argTypes⟩ := c
    cases callee <;> simp only [] at h
    case builtin b =>
      cases b <;> simp only [] at h
      case len =>
        obtain ⟨ss, h⟩ := operands_any h
        split at h
        · split at h
          · exact ⟨_, h⟩
          · exact dead_any h
          · obtain ⟨n, h⟩ := longK_any h; exact ⟨_, h⟩
          · unfold mapH at h
            split at h
            · obtain ⟨r, _, h⟩ := nthK_ok h
              split at h
              · exact ⟨_, h⟩
              · exact h.elim
            · obtain ⟨r, _, h⟩ := nthK_ok h
              split at h
              · exact ⟨_, h⟩
              · exact h.elim
            · exact h.elim
          · exact h.elim
        · exact h.elim
      case min =>
        obtain ⟨ss, h⟩ := operands_any h
        split at h
        · exact ⟨_, h⟩
        · exact h.elim
      case max =>
        obtain ⟨ss, h⟩ := operands_any h
        split at h
        · exact ⟨_, h⟩
        · exact h.elim
/-- a guard that is told -/
theorem guard_val (I : Inv X w0 B0 σ a w ρ) {g : Nat} {b : Bool} (h : σ.t[g]? = some (.v (.c (.d (.bool b))))) : a.tmps.getD g undef = .bool b := sdb_inv (I.t g _ h)
theorem wanted_none {o : Oper} (h : o.guard = none) (y : Nat → Option Bool) : Region.wanted o y = true := by unfold Region.wanted; rw [h]
/-- a guard that was told, as the machine sees it -/
theorem wanted_some (I : Inv X w0 B0 σ a w ρ) {all : Array Oper} {o : Oper} {j g : Nat} {want : Bool} {op' : Op} {ty' : TypeId} {pos' : String} {af' : Array Edge} {gu' : Option (Nat × Bool)} (hgd : o.guard = some (j, want)) (hj : all[j]? = some ⟨some g, op', ty', pos', af', gu'⟩)
    {s : S} {k : Bool → Bool → Prop} (hs : σ.t[g]? = some s) (h : gdK s want k) : ∃ b w', k b w' ∧ Region.wanted o (yielded all a.tmps) = (b == w') := by
  have hlt : g < a.tmps.size := by rw [I.sz]; exact (List.getElem?_eq_some_iff.1 hs).1
  have hval : ∀ v, a.tmps.getD g undef = v → a.tmps[g]? = some v := by
    intro v hv
    rw [Array.getD_eq_getD_getElem?, Array.getElem?_eq_getElem hlt, Option.getD_some] at hv
    rw [Array.getElem?_eq_getElem hlt, hv]
  have key : ∀ b : Bool, a.tmps.getD g undef = .bool b → Region.wanted o (yielded all a.tmps) = (b == want) := by
    intro b hb
    have := hval _ hb
    have hy : yielded all a.tmps j = some b := by unfold yielded; rw [hj]; simp [this]
    unfold Region.wanted; rw [hgd]; simp only [hy]
    cases b <;> cases want <;> rfl
  unfold gdK at h
  split at h
  · rename_i b; exact ⟨b, want, h, key b (sdb_inv (I.t g _ hs))⟩
  · rename_i b' w' b
    refine ⟨_, _, h, ?_⟩
    have hr := I.t g _ hs
    by_cases e : b' = w'
    · rw [key b (sdb_inv (show SRel ρ _ w _ (.db b) from hr.1 e))]
      subst e; cases b <;> cases want <;> cases b' <;> rfl
    · have := hval _ (hr.2 e)
      have hy : yielded all a.tmps j = none := by unfold yielded; rw [hj]; simp [this, undef]
      unfold Region.wanted; rw [hgd]; simp only [hy]
      have e' : (b' == w') = false := by simpa using e
      rw [e']; cases want <;> rfl
  · exact h.elim
theorem mkCnd_ok {ρ : Hs} {A : Nat → Prop} {w : World} {b b' : Bool} {v : Value} {s : S} (h1 : b = b' → SRel ρ A w v s) (h2 : b ≠ b' → v = undef) : SRel ρ A w v (mkCnd b b' s) := by
  cases s with
  | tup l => trivial
  | v x => cases x with
    | c y => cases y <;> first | trivial | exact ⟨h1, h2⟩
    | ag l => exact ⟨h1, h2⟩
    | cnd a c y => exact ⟨h1, h2⟩
include hT in
theorem look_ok {all : Array Oper} {o : Oper} {K : St → Prop} {next : Act → World → Prop} (I : Inv X w0 B0 σ a w ρ) (h : lookStep Γ all o σ.t σ.hp fun s => σ.apply o.dst s [] [] none K)
    (hn : ∀ σ' a' w' ρ', K σ' → Inv X w0 B0 σ' a' w' ρ' → next a' w') : if Region.wanted o (yielded all a.tmps) then o.wp P a w next Q ∨ (o.asks P a w ∧ LetsOut Q) else next (a.put o.dst undef) w := by
  have hh : ∀ (h : Nat) (r : Reg), σ.hp[h]? = some r → ∃ v, ρ[h]? = some v ∧ RegRel ρ (Av X ρ σ.hp) w v r := fun h r hr => I.hp.val hr
  unfold lookStep at h
  split at h
  · rename_i hgd
    rw [wanted_none hgd, if_pos rfl]
    refine .inl ?_
    obtain ⟨v, s, hk, hrun, hr⟩ := evP_ok hT I.t I.gla hh (by intro b w h; cases h) h
    obtain ⟨_, _, hk⟩ := apply_ok hk
    exact wp_value hrun (hn _ _ _ _ hk (I.look hr))
  · rename_i j want hgd
    split at h
    · rename_i g op' ty' pos' af' gu' hj
      replace h := nthK_ok h
      obtain ⟨s, hs, h⟩ := h
      obtain ⟨b, want', h, hw⟩ := wanted_some I hgd hj hs h
      · rw [hw]
        clear hw
        by_cases hbw : b = want'
        · subst hbw
          rw [beq_self_eq_true, if_pos rfl]
          refine .inl ?_
          have hgo : GdOk (some (b, b)) := by intro b' w' h; cases h; rfl
          obtain ⟨v, s, hk, hrun, hr⟩ := evP_ok hT I.t I.gla hh hgo h
          obtain ⟨_, _, hk⟩ := apply_ok hk
          exact wp_value hrun (hn _ _ _ _ hk (I.look (mkCnd_ok (fun _ => hr) fun e => absurd rfl e)))
        · have : (b == want') = false := by simpa using hbw
          rw [this, if_neg (by simp)]
          obtain ⟨s, hk⟩ := evP_any h
          obtain ⟨_, _, hk⟩ := apply_ok hk
          exact hn _ _ _ _ hk (I.look (mkCnd_ok (fun e => absurd e hbw) fun _ => rfl))
    · exact h.elim
include hT hΓ in
theorem act_ok {all : Array Oper} {o : Oper} {K : St → Prop} {next : Act → World → Prop} (I : Inv X w0 B0 σ a w ρ) (h : actStep Γ all o σ.t σ.hp fun s upd new inv => σ.apply o.dst s upd new inv K)
    (hn : ∀ σ' a' w' ρ', K σ' → Inv X w0 B0 σ' a' w' ρ' → next a' w') : if Region.wanted o (yielded all a.tmps) then o.wp P a w next Q ∨ (o.asks P a w ∧ LetsOut Q) else next (a.put o.dst undef) w := by
  unfold actStep at h
  split at h
  · rename_i hgd
    rw [wanted_none hgd, if_pos rfl]
    exact .inl (evM_wp hT hΓ (by intro b w h; cases h) I h hn)
  · rename_i j want hgd
    split at h
    · rename_i g op' ty' pos' af' gu' hj
      replace h := nthK_ok h
      obtain ⟨s, hs, h⟩ := h
      obtain ⟨b, want', h, hw⟩ := wanted_some I hgd hj hs h
      · rw [hw]
        clear hw
        by_cases hbw : b = want'
        · rw [hbw, beq_self_eq_true, if_pos rfl]
          have hgo : GdOk (some (b, want')) := by intro b' w' h; cases h; exact hbw
          exact .inl (evM_wp hT hΓ hgo I (h.1 hbw) hn)
        · have : (b == want') = false := by simpa using hbw
          rw [this, if_neg (by simp)]
          have hk := h.2 (by cases b <;> cases want' <;> simp at hbw ⊢)
          obtain ⟨_, _, hk⟩ := apply_ok hk
          exact hn _ _ _ _ hk (I.look trivial)
    · exact h.elim
theorem isDst_ok {dst : Option Tmp} {i : Nat} (h : isDst dst i = false) : dst ≠ some i := by
  rintro rfl
  have : Nat.beq i i = false := h
  rw [Nat.beq_refl] at this; cases this
theorem nthO_ok {α : Type} : ∀ {l : List α} {i : Nat} {x : α}, nthO l i = some x → l[i]? = some x
  | [], _, _, h => by cases h
  | y :: l, 0, x, h => by simpa [nthO] using h
  | y :: l, i + 1, x, h => by rw [List.getElem?_cons_succ]; exact nthO_ok h
theorem rewinK_ok {h sz : Nat} {L : List (List D)} {b : Bool} {dst : Option Tmp} : ∀ {i : Nat} {t0 t : List S} {k : List S → Prop}, rewinK h sz L b dst i t0 t k →
    ∃ t', k t' ∧ t'.length = t.length ∧ ∀ (j : Nat) (s' : S), t'[j]? = some s' → t[j]? = some s' ∨ (dst ≠ some (i + j) ∧ ∃ s0 s, t0[j]? = some s0 ∧ t[j]? = some s ∧ s' = rewinS h sz L b s0 s)
  | i, [], t, k, H => ⟨t, by cases t <;> exact H, rfl, fun _ _ h => .inl h⟩
  | i, s0 :: t0, [], k, H => ⟨[], H, rfl, fun _ _ h => .inl h⟩
  | i, s0 :: t0, s :: t, k, H => by
    unfold rewinK at H
    split at H
    · obtain ⟨t', hk, hl, hj⟩ := rewinK_ok H
      refine ⟨s :: t', hk, by simp [hl], fun j s' h => ?_⟩
      cases j with
      | zero => exact .inl h
      | succ j =>
        rw [List.getElem?_cons_succ] at h
        rcases hj j s' h with h | ⟨h1, h2⟩
        · exact .inl h
        · exact .inr ⟨by rw [show i + (j + 1) = i + 1 + j by omega]; exact h1, h2⟩
    · rename_i hd
      obtain ⟨t', hk, hl, hj⟩ := rewinK_ok H
      refine ⟨_, hk, by simp [hl], fun j s' h => ?_⟩
      cases j with
      | zero =>
        refine .inr ⟨isDst_ok hd, s0, s, rfl, rfl, ?_⟩
        simpa using h.symm
      | succ j =>
        rw [List.getElem?_cons_succ] at h
        rcases hj j s' h with h | ⟨h1, h2⟩
        · exact .inl h
        · exact .inr ⟨by rw [show i + (j + 1) = i + 1 + j by omega]; exact h1, h2⟩
theorem rewin_inv (I : Inv X w0 B0 σ a w ρ) {σ' : St} {dst : Option Tmp} {v' : Value} {w' : World} {ρ' : Hs} (I' : Inv X w0 B0 σ' (a.put dst v') w' ρ') {h sz : Nat} {L : List (List D)} {b : Bool} {t' : List S}
    (hb : (b = true ∧ ∃ a l l' c, ρ[h]? = some (.slice a l c) ∧ ρ'[h]? = some (.slice a l' c) ∧ l ≤ l' ∧ l' ≤ c) ∨ (b = false ∧ ∃ a l c, ρ[h]? = some (.slice a l c) ∧ Rd (Av X ρ' σ'.hp) w' (.slice a l c) (.sl sz L)))
    (hl : t'.length = σ'.t.length) (ht : ∀ (j : Nat) (s' : S), t'[j]? = some s' → σ'.t[j]? = some s' ∨ (dst ≠ some (0 + j) ∧ ∃ s0 s, σ.t[j]? = some s0 ∧ σ'.t[j]? = some s ∧ s' = rewinS h sz L b s0 s)) : Inv X w0 B0 ⟨t', σ'.hp⟩ (a.put dst v') w' ρ' := by
  refine ⟨I'.hp, fun j s' hj => ?_, by rw [hl]; exact I'.sz, I'.de, I'.gr, I'.fr, I'.ow, I'.xs, I'.st⟩
  rcases ht j s' hj with h1 | ⟨hd, s0, s, h1, h2, rfl⟩
  · exact I'.t j s' h1
  rw [Nat.zero_add] at hd
  have hv : (a.put dst v').tmps.getD j undef = a.tmps.getD j undef := by
    cases dst with
    | none => rfl
    | some d =>
      by_cases e : d < a.tmps.size
      · rw [getD_put e, if_neg (by rintro rfl; exact hd rfl)]
      · have hj' := (List.getElem?_eq_some_iff.1 h1).1
        simp only [Act.put]
        simp [Array.getD, Array.setIfInBounds, e]
  have h3 := I'.t j s h2
  unfold rewinS
  split
  · rename_i h' sz' lo n
    split
    · rename_i hq
      simp only [Bool.and_eq_true] at hq
      obtain rfl := Nat.eq_of_beq_eq_true hq.1
      obtain rfl := Nat.eq_of_beq_eq_true hq.2
      obtain ⟨a0, l, c, g1, g2, g3, a1, g4, g5⟩ := (I.t j _ h1 : CRel ρ _ w _ (.win h' sz' lo n))
      rcases hb with ⟨rfl, a2, l1, l2, c2, k1, k2, k3, k4⟩ | ⟨rfl, a2, l1, c2, k1, k2⟩
      · rw [g1] at k1; cases k1
        rw [hv]
        exact (⟨a0, l2, c, k2, by omega, k4, a1, g4, g5⟩ : CRel ρ' _ w' _ (.win h' sz' lo n))
      · rw [g1] at k1; cases k1
        rw [hv, g4]
        simp only [Rd] at k2
        obtain ⟨a3, c3, e3, k3, k4⟩ := k2
        cases e3
        show Rd _ w' _ (.sl sz' ((L.drop lo).take n))
        have hn : ((L.drop lo).take n).length = n := by rw [List.length_take, List.length_drop]; omega
        simp only [Rd]
        refine ⟨a1, c - lo, by rw [hn], by rw [hn]; omega, ?_⟩
        rcases k4 with rfl | ⟨b, off, rfl, k5, k6⟩
        · left; simp
        · rcases g5 with rfl | rfl
          · left
            apply List.length_eq_zero_iff.1
            rw [hn]; omega
          · right
            refine ⟨b, off + lo * sz', by simp [Addr.add], k5, (k6.drop lo).take n⟩
    · exact h3
  · exact h3
theorem afterD_hp {t : List S} {hp : List Reg} {dst : Option Tmp} {s : S} : (afterD t hp dst s).hp = hp := by cases dst <;> rfl
theorem operand_plain {t : List S} {hp : List Reg} {T : TypeId} {y : Operand} {G : TypeId → TI} {k : S → Prop} (hp0 : plainArg t hp y = true) (h : operand G T none t y k) :
    operand G T none t y fun s => k s ∧ ∀ c, s = .v (.c c) → isRowt hp c = false := by
  cases y with
  | tmp j =>
    have gen : ∀ (l : List S) (j : Nat), (match nthO l j with
        | some (.v (.c c)) => !isRowt hp c
        | _ => true) = true → nthK l j (fun s => strip none s k) → nthK l j fun s => strip none s fun s => k s ∧ ∀ c, s = .v (.c c) → isRowt hp c = false := by
      intro l
      induction l with
      | nil => intro j _ h; exact h.elim
      | cons s l ih =>
        intro j h0 h
        cases j with
        | succ j => exact ih j h0 h
        | zero =>
          have h : strip none s k := h
          show strip none s (fun s => k s ∧ ∀ c, s = .v (.c c) → isRowt hp c = false)
          have h0 : (match some s with
            | some (.v (.c c)) => !isRowt hp c
            | _ => true) = true := h0
          rcases s with (c | l | ⟨b, w, x⟩) | l
          · exact ⟨h, fun c' e => by cases e; simpa using h0⟩
          · exact ⟨h, fun c' e => by cases e⟩
          · exact ⟨h, fun c' e => by cases e⟩
          · exact ⟨h, fun c' e => by cases e⟩
    exact gen t j hp0 h
  | const v =>
    refine ⟨h, fun c e => ?_⟩
    cases e
    unfold C.ofV
    repeat' split
    all_goals rfl
  | func f => exact ⟨h, fun c e => by cases e; rfl⟩
  | global g =>
    replace h : (match findG globs g with
      | some l => k (.one (.pel l))
      | none => k .junk) := h
    show (match findG globs g with
      | some l => (k (.one (.pel l)) ∧ ∀ c, S.one (.pel l) = .v (.c c) → isRowt hp c = false)
      | none => (k .junk ∧ ∀ c, S.junk = .v (.c c) → isRowt hp c = false))
    cases hgg : findG globs g with
    | none => rw [hgg] at h; exact ⟨h, fun c e => by cases e; rfl⟩
    | some l => rw [hgg] at h; exact ⟨h, fun c e => by cases e; rfl⟩
include hT in
/-- an append to a row that is seen through windows -/
theorem appW_wp (I : Inv X w0 B0 σ a w ρ) {dst : Option Tmp} {ty : TypeId} {pos : String} {after : Array Edge} {i x sz : Nat} {y : Operand} {L : List (List D)} {args : Array Operand} {tys : Array TypeId} (hst : σ.t[i]? = some (.v (.c (.own x)))) (hsr : σ.hp[x]? = some (.row sz L)) (hww : plainArg σ.t σ.hp y = true) (hargs : args.toList = [.tmp i, y]) {K : St → Prop}
    (h : evM Γ none ⟨dst, .call ⟨.builtin .append, args, tys⟩, ty, pos, after, none⟩ σ.t σ.hp (fun s upd new inv => σ.apply dst s upd new inv K)) {next : Act → World → Prop}
    (hn : ∀ σ' v' w' ρ', K σ' → Inv X w0 B0 σ' (a.put dst v') w' ρ' → Stay X ρ ρ' σ'.hp w' x sz L → next (a.put dst v') w') : Oper.wp P ⟨dst, .call ⟨.builtin .append, args, tys⟩, ty, pos, after, none⟩ a w next Q := by
  have hg : GdOk none := by intro b w h; cases h
  obtain rfl : args = #[.tmp i, y] := by cases args; simp_all
  have hwin := I.t i _ hst
  unfold evM at h
  simp only [] at h
  obtain ⟨tl⟩ := tys
  have h0 := operands_ok hT I.t I.gla hg h
  obtain ⟨ss0, h0, hss0⟩ := h0
  have hl0 : ss0.length = 2 := by have := hss0.length; simpa using this.symm
  obtain ⟨T, T2, rfl⟩ : ∃ T T2, tl = [T, T2] := by
    rcases tl with _ | ⟨T, _ | ⟨T2, _ | ⟨T3, tl⟩⟩⟩
    · simp only [] at h0
    · simp only [] at h0
    · exact ⟨T, T2, rfl⟩
    · simp only [] at h0
  clear h0 hl0 hss0 ss0
  replace h := nthK_ok (h : nthK σ.t i fun s => strip none s _)
  obtain ⟨s1, hs1, h⟩ := h
  rw [hst] at hs1; cases hs1
  replace h := operand_ok hT I.t I.gla hg (operand_plain hww (h : operand Γ.ty T2 none σ.t y _))
  obtain ⟨s, ⟨h, hnr⟩, hcb⟩ := h
  rcases s with (cb | _ | _) | _
  · simp only [operands] at h
    split at h
    · rename_i e esz eb ez e2 esz2 eb2 ez2 hk1 hk2
      obtain ⟨hd, ie, z, hie, hs1, hb1, hz, hzs, _⟩ := kd_sl hT hk1
      obtain ⟨hd2, _⟩ := kd_sl hT hk2
      rw [hnr cb rfl] at h
      simp only [baseK] at h
      replace h := nthK_ok h
      obtain ⟨r, hr, h⟩ := h
      rw [hsr] at hr; cases hr
      simp only [] at h
      obtain ⟨v0, hv0, hR⟩ := I.hp.val hsr
      have hva0 := (hwin : CRel ρ _ w _ (.own x)).1
      rw [hv0] at hva0
      obtain ⟨a0, cap, hv, hcap, hz0, hR⟩ := hR
      have hh : ∀ (h : Nat) (r : Reg), σ.hp[h]? = some r → ∃ v, ρ[h]? = some v ∧ RegRel ρ (Av X ρ σ.hp) w v r := fun h r hr => I.hp.val hr
      replace h := rowK_ok hh hcb h
      obtain ⟨sz', M, h, a1, cap1, hvb, hMc, hM⟩ := h
      replace h := tt_ok h
      obtain ⟨hq, h⟩ := h
      simp only [Bool.and_eq_true] at hq
      obtain rfl := Nat.eq_of_beq_eq_true hq.1.1.1
      obtain rfl := Nat.eq_of_beq_eq_true hq.1.1.2
      have h1 := Nat.le_of_ble_eq_true hq.1.2
      have h2 := Nat.le_of_ble_eq_true hq.2
      replace h := ob_ok hg h
      obtain ⟨hbig, h⟩ := h
      subst hs1; subst hb1
      cases hva0
      have hva : ρ[x]? = some (.slice a0 L.length cap) := by rw [hv0, hv]
      obtain ⟨v', w', ρ', hrun, hI, hS⟩ := append_wp2 I (ty := ty) (h? := some x) hd hd2 hie hz hzs h2 h1 hv hcap (.inr ⟨x, L, _, rfl, hsr, hv0, ⟨_, _, _, hv⟩, by
        rcases hR with hR | ⟨b, off, T, cur, ha, hcur, hsz, hL⟩
        · exact .inl hR
        · cases cap with
          | zero => exact .inl rfl
          | succ cap => exact .inr ⟨b, off, T, cur, ha, by rw [hv, ha]; rfl, hcur, hsz, hL⟩⟩) hvb hM (by omega) (dst := dst)
      have hrun' : (execOp a.eval ⟨dst, .call ⟨.builtin .append, #[.tmp i, y], #[T, T2]⟩, ty, pos, after, none⟩).run P w = .ok (.value v') w' := by
        have hrun1 : (Builtin.append_ #[T, T2] ty #[a.eval (.tmp i), a.eval y]).run P w = .ok v' w' := hrun
        simp [execOp, resolve, invoke, builtin, hrun1]
      refine wp_value hrun' ?_
      replace h := apply_ok h
      obtain ⟨_, _, h⟩ := h
      refine hn _ _ _ _ h hI ?_
      rw [after_move, afterD_hp]
      exact hS x rfl hv0
    · exact h.elim
  · simp only [operands] at h
  · simp only [operands] at h
  · simp only [operands] at h
include hT hΓ in
theorem vcOps_ok {all : Array Oper} : ∀ (os : List Oper) (i : Nat) (K : St → Prop) {σ : St} {a : Act} {w : World} {ρ : Hs}, Inv X w0 B0 σ a w ρ → (∀ j, os[j]? = all[i + j]?) → vcOps Γ all os σ K →
    (∀ σ' a' w' ρ', K σ' → Inv X w0 B0 σ' a' w' ρ' → Q .normal a' w') → wpOps P all Q ((List.range os.length).map (i + ·)) a w
  | [], i, K, σ, a, w, ρ, I, _, h, hn => by simpa [wpOps] using hn _ _ _ _ h I
  | o :: os, i, K, σ, a, w, ρ, I, hall, h, hn => by
    have ho : all[i]? = some o := by have := hall 0; simpa using this.symm
    have hrest : ∀ j, os[j]? = all[i + 1 + j]? := fun j => by have := hall (j + 1); rw [List.getElem?_cons_succ] at this; rw [this]; congr 1; omega
    have hlist : (List.range (o :: os).length).map (i + ·) = i :: (List.range os.length).map (i + 1 + ·) := by
      rw [List.length_cons, List.range_succ_eq_map]
      simp only [List.map_cons, List.map_map, Nat.add_zero]
      congr 1
      apply List.map_congr_left
      intro j _; simp; omega
    rw [hlist]
    have next : ∀ σ' a' w' ρ', vcOps Γ all os σ' K → Inv X w0 B0 σ' a' w' ρ' → wpOps P all Q ((List.range os.length).map (i + 1 + ·)) a' w' :=
      fun σ' a' w' ρ' hk hI => vcOps_ok os (i + 1) K hI hrest hk hn
    simp only [wpOps, ho]
    unfold vcOps at h
    split at h
    · exact look_ok hT I h next
    · split at h
      · exact act_ok hT hΓ I h next
      · rename_i x sz L hw
        unfold winAt at hw
        obtain ⟨dst, op, ty, pos, after, guard⟩ := o
        simp only at hw
        split at hw
        · rename_i args tys _
          split at hw
          · rename_i i' y hargs
            split at hw
            · rename_i x' hx
              split at hw
              · split at hw
                · rename_i sz' L' hr
                  cases hw
                  obtain ⟨hww, h⟩ := tt_ok h
                  have hww : plainArg σ.t σ.hp y = true := by
                    simp only [noRowt, hargs] at hww; exact hww
                  unfold actStep at h
                  rw [wanted_none rfl, if_pos rfl]
                  refine .inl (appW_wp hT I (nthO_ok hx) (nthO_ok hr) hww hargs h fun σ' v' w' ρ' hk hI hs => ?_)
                  rcases hs with hs | hs
                  · obtain ⟨t', hk', hl', ht'⟩ := rewinK_ok hk.1
                    exact next _ _ _ _ hk' (rewin_inv I hI (.inl ⟨rfl, hs⟩) hl' ht')
                  · obtain ⟨t', hk', hl', ht'⟩ := rewinK_ok hk.2
                    exact next _ _ _ _ hk' (rewin_inv I hI (.inr ⟨rfl, hs⟩) hl' ht')
                · cases hw
              · cases hw
            · cases hw
          · cases hw
        · cases hw
end
end Go.Proofs.YtphmcgmblkbijaaVY
