/-
  VY: every operation that only looks. By the session's own hand.
-/
import Derived.Test.YtphmcgmblkbijaaVy4
import Derived.Laws.Tables
set_option linter.unusedSectionVars false
set_option linter.unusedVariables false
set_option linter.unusedSimpArgs false
set_option linter.all false
set_option linter.unnecessarySimpa false
set_option linter.deprecated false
namespace Go.Proofs.YtphmcgmblkbijaaVY
section ops
variable {P : Program} {Γ : Cx} {ρ : Hs} {A : Nat → Prop} {w : World} {a : Act} {t : List S} {hp : List Reg} {gd : Option (Bool × Bool)}
variable (hT : TyOk P Γ.ty) (ht : ∀ (i : Nat) (s : S), t[i]? = some s → SRel ρ A w (a.tmps.getD i undef) s) (hgl : GlA A w)
variable (hh : ∀ (h : Nat) (r : Reg), hp[h]? = some r → ∃ v, ρ[h]? = some v ∧ RegRel ρ A w v r) (hg : GdOk gd)

include hT ht hgl hg in
theorem partsK_ok {Tf : Nat → TypeId} : ∀ {ps : List (Nat × Operand)} {k : List (Nat × S) → Prop}, partsK Γ.ty Tf gd t ps k →
    ∃ ss, k ss ∧ All2 (fun (v : Nat × Value) (s : Nat × S) => v.1 = s.1 ∧ SRel ρ A w v.2 s.2) (ps.map fun (i, x) => (i, a.eval x)) ss
  | [], k, h => ⟨[], h, .nil⟩
  | (j, x) :: ps, k, h => by
    replace h := operand_ok hT ht hgl hg h
    obtain ⟨s, h, hs⟩ := h
    obtain ⟨ss, h, hss⟩ := partsK_ok h
    exact ⟨_, h, .cons ⟨rfl, hs⟩ hss⟩
theorem All2.places {fields : List Field} {fs : List (Nat × Nat × Bool)} (h : All2 (FieldOk P) fields fs) :
    fields.mapM (fun f => (P.info? f.type).map fun i => (f.offset, i.size)) = some (fs.map fun x => (x.1, x.2.1)) := by
  induction h with
  | nil => rfl
  | cons r _ ih =>
    obtain ⟨h1, _, i, d, h2, h3, _⟩ := r
    simp [List.mapM_cons, ih, h2, h3, h1]
theorem capK_ok {v : Value} {s : S} {k : Cap → Prop} (hs : SRel ρ A w v s) (h : capK s k) : ∃ c, k c ∧ CapRel ρ A w v c := by
  unfold capK at h
  split at h
  · exact ⟨_, h, hs⟩
  · exact ⟨_, h, hs⟩
  · exact ⟨_, h, hs⟩
  · exact ⟨_, h, hs⟩
  · exact ⟨_, h, hs⟩
  · obtain ⟨vs, rfl, hv⟩ := hs
    refine ⟨_, h, ?_⟩
    obtain ⟨vs⟩ := vs
    cases vs with
    | nil => rfl
    | cons _ _ => cases hv
  · exact h.elim
include hT ht hgl hg in
theorem capsK_ok : ∀ {xs : List Operand} {k : List Cap → Prop}, capsK Γ.ty gd t xs k → ∃ cs, k cs ∧ All2 (CapRel ρ A w) (xs.map a.eval) cs
  | [], k, h => ⟨[], h, .nil⟩
  | x :: xs, k, h => by
    unfold capsK at h
    replace h := operand_ok hT ht hgl hg h
    obtain ⟨s, h, hs⟩ := h
    obtain ⟨c, h, hc⟩ := capK_ok hs h
    obtain ⟨cs, h, hcs⟩ := capsK_ok h
    exact ⟨_, h, .cons hc hcs⟩
theorem run_fieldAt {T : TypeId} {fields : Array Field} {f : Field} {j o n : Nat} {ag : Bool} {b off : Nat} (hd : P.underlying T = some (.struct fields)) (hf : fields[j]? = some f) (hok : FieldOk P f (o, n, ag)) :
    (Instr.fieldAt T (.pointer (some ⟨b, off, none⟩)) j).run P w = .ok (.pointer (some ⟨b, off + o, none⟩)) w := by
  obtain ⟨rfl, h0, i, d, hi, rfl, _⟩ := hok
  have : i.size ≠ 0 := by simp at h0; omega
  simp [Instr.fieldAt, run_underlying hd, hf, Instr.sureAddr, fieldPlace, sizeOf, typeInfo, hi, this, Addr.add_lit]
theorem All2.left {α β : Type} {R : α → β → Prop} {l : List α} {m : List β} {i : Nat} {b : β} (h : All2 R l m) (hb : m[i]? = some b) : ∃ a, l[i]? = some a ∧ R a b := h.get' hb
theorem part_ok {T : TypeId} {n o : Nat} {ag : Bool} {cs : Array Value} {l : List C} {k : S → Prop} (hs : Sized P T n ag) (hc : All2 (fun u c => Flat u ∧ CRel ρ A w u c) cs.toList l) (h : partK ag n (l.drop o) k) :
    ∃ v s, k s ∧ (part T cs o).run P w = .ok v w ∧ SRel ρ A w v s := by
  obtain ⟨i, d, hi, hn, hd, ha⟩ := hs
  subst hn
  cases ag with
  | true =>
    obtain ⟨hl, h⟩ := takeK_ok h
    refine ⟨_, _, h, by simp [part, run_isAgg hd, ha, run_sizeOf hi]; rfl, _, rfl, ?_⟩
    have := (hc.drop o).take i.size
    simpa [Array.toList_extract, List.take_drop, Nat.add_comm] using this
  | false =>
    simp only [partK] at h
    split at h
    · rename_i c l' hl
      have hget : l[o]? = some c := by
        have : (l.drop o)[0]? = some c := by rw [hl]; rfl
        simpa using this
      obtain ⟨u, hu, _, hr⟩ := hc.get' hget
      refine ⟨u, _, h, ?_, show CRel ρ A w u c from hr⟩
      have : cs[o]? = some u := by simpa using hu
      simp [part, run_isAgg hd, ha, this]
    · exact h.elim
theorem run_index_slice {T e : TypeId} {i : TypeInfo} (hd : P.underlying T = some (.slice e)) (hi : P.info? e = some i) {b off len cap : Nat} {k : IntKind} {n : Int} (h0 : 0 ≤ n) (h1 : n.toNat < len) :
    (Instr.indexAt T (.slice (some ⟨b, off, none⟩) len cap) (.int k n)).run P w = .ok (.pointer (some ⟨b, off + n.toNat * i.size, none⟩)) w := by
  have : n < (len : Int) := by omega
  simp [Instr.indexAt, run_underlying hd, asIntOf, h0, this, sizeOf, typeInfo, hi, Addr.add_lit]
theorem run_index_array {T e : TypeId} {m esz : Nat} {ea : Bool} (hd : P.underlying T = some (.array m e)) (hi : Sized P e esz ea) {b off : Nat} {k : IntKind} {n : Int} (h0 : 0 ≤ n) (h1 : n < m) :
    (Instr.indexAt T (.pointer (some ⟨b, off, none⟩)) (.int k n)).run P w = .ok (.pointer (some ⟨b, off + n.toNat * esz, none⟩)) w := by
  obtain ⟨i, d, hi, rfl, _⟩ := hi
  simp [Instr.indexAt, run_underlying hd, asIntOf, h0, h1, Instr.sureAddr, sizeOf, typeInfo, hi, Addr.add_lit]

theorem rowK_det {c : C} {k : Nat → List (List D) → Prop} (h : rowK hp c k) : ∃ sz L, rowK hp c (fun s M => s = sz ∧ M = L) ∧ k sz L := by
  unfold rowK at h
  split at h
  · exact ⟨_, _, ⟨rfl, rfl⟩, h⟩
  · exact ⟨_, _, ⟨rfl, rfl⟩, h⟩
  · rename_i hd
    have key : ∀ (l : List Reg) (n : Nat), (nthK l n fun | .row sz L => k sz L | .frz sz L => k sz L | _ => False) → ∃ sz L, (nthK l n fun | .row s M => s = sz ∧ M = L | .frz s M => s = sz ∧ M = L | _ => False) ∧ k sz L := by
      intro l
      induction l with
      | nil => intro n h; exact h.elim
      | cons r l ih => intro n h; cases n with
        | zero => cases r <;> first | exact ⟨_, _, ⟨rfl, rfl⟩, h⟩ | exact h.elim
        | succ n => exact ih n h
    exact key _ _ h
  · rename_i hd sz lo n
    have key : ∀ (l : List Reg) (m : Nat), (nthK l m fun | .row sz' L => tt (Nat.beq sz sz') (k sz ((L.drop lo).take n)) | _ => False) → ∃ s L, (nthK l m fun | .row sz' L' => tt (Nat.beq sz sz') (sz = s ∧ (L'.drop lo).take n = L) | _ => False) ∧ k s L := by
      intro l
      induction l with
      | nil => intro n h; exact h.elim
      | cons r l ih => intro n h; cases n with
        | zero =>
          cases r with
          | row sz' L' =>
            obtain ⟨h1, h2⟩ := tt_ok (p := k sz ((L'.drop lo).take _)) h
            refine ⟨sz, _, ?_, h2⟩
            show tt (Nat.beq sz sz') _
            rw [h1]; exact ⟨rfl, rfl⟩
          | _ => exact h.elim
        | succ n => exact ih n h
    exact key _ _ h
  · exact h.elim
theorem rowK_mono {c : C} {k k' : Nat → List (List D) → Prop} (h : rowK hp c k) (hk : ∀ s M, k s M → k' s M) : rowK hp c k' := by
  unfold rowK at h ⊢
  split at h
  · exact hk _ _ h
  · exact hk _ _ h
  · rename_i hd
    have key : ∀ (l : List Reg) (n : Nat), (nthK l n fun | .row sz L => k sz L | .frz sz L => k sz L | _ => False) → (nthK l n fun | .row s M => k' s M | .frz s M => k' s M | _ => False) := by
      intro l
      induction l with
      | nil => intro n h; exact h.elim
      | cons r l ih => intro n h; cases n with
        | zero => cases r <;> first | exact hk _ _ h | exact h.elim
        | succ n => exact ih n h
    exact key _ _ h
  · rename_i hd sz lo n
    have key : ∀ (l : List Reg) (m : Nat), (nthK l m fun | .row sz' L => tt (Nat.beq sz sz') (k sz ((L.drop lo).take n)) | _ => False) → (nthK l m fun | .row sz' L => tt (Nat.beq sz sz') (k' sz ((L.drop lo).take n)) | _ => False) := by
      intro l
      induction l with
      | nil => intro n h; exact h.elim
      | cons r l ih => intro n h; cases n with
        | zero =>
          cases r with
          | row sz' L' =>
            obtain ⟨h1, h2⟩ := tt_ok (p := k sz ((L'.drop lo).take _)) h
            show tt (Nat.beq sz sz') _
            rw [h1]; exact hk _ _ h2
          | _ => exact h.elim
        | succ n => exact ih n h
    exact key _ _ h
  · exact h.elim
include hT ht hgl hg in
theorem optK_ok {x : Option Operand} {n : Int} {k : Int → Prop} (h : optK Γ.ty gd t x n k) : ∃ (ik : IntKind) (l : Int), (x.map a.eval = some (.int ik l) ∨ (x.map a.eval = none ∧ l = n)) ∧ k l := by
  cases x with
  | none => exact ⟨.i64, n, .inr ⟨rfl, rfl⟩, h⟩
  | some x =>
    replace h := operand_ok hT ht hgl hg h
    obtain ⟨s, h, hs⟩ := h
    split at h
    · rename_i ik l
      exact ⟨ik, l, .inl (by simp [sdi_inv hs]), h⟩
    · exact h.elim

theorem run_equalIn_nil {T e : TypeId} (hd : P.underlying T = some (.slice e)) (a' : Option Addr) (l c d : Nat) : (Op.equalIn (d + 1) T (.slice a' l c) (.slice none 0 0)).run P w = .ok a'.isNone w := by
  cases a' <;> simp [Op.equalIn, run_underlying hd]
theorem run_isNil {T e : TypeId} (hd : P.underlying T = some (.slice e)) (x y : Operand) (a' : Option Addr) (l c : Nat) :
    (do eqGuard .eql T x y (.slice a' l c) (.slice none 0 0); binOp .eql T (.slice a' l c) (.slice none 0 0) : Sem Value).run P w = .ok (.bool a'.isNone) w := by
  have h : (Op.equal T (.slice a' l c) (.slice none 0 0)).run P w = .ok a'.isNone w := run_equalIn_nil hd a' l c 9999
  have h2 : eqGuard .eql T x y (.slice a' l c) (.slice none 0 0) = pure () := rfl
  rw [h2]
  simp [binOp, h]
/-- What an operation that only looks comes to. -/
def LookOk (P : Program) (ρ : Hs) (A : Nat → Prop) (w : World) (a : Act) (o : Oper) (k : S → Prop) : Prop :=
  ∃ v s, k s ∧ (execOp a.eval o).run P w = .ok (.value v) w ∧ SRel ρ A w v s

include hT ht hgl hh hg in
theorem evP_ok {o : Oper} {k : S → Prop} (h : evP Γ gd o t hp k) : LookOk P ρ A w a o k := by
  obtain ⟨dst, op, ty, pos, after, guard⟩ := o
  unfold evP at h
  unfold LookOk
  cases op <;> simp only [] at h
  case move x =>
    obtain ⟨s, h, hs⟩ := operand_ok hT ht hgl hg h
    exact ⟨_, s, h, by simp [execOp], hs⟩
  case assign x =>
    obtain ⟨s, h, hs⟩ := operand_ok hT ht hgl hg h
    exact ⟨_, s, h, by simp [execOp], hs⟩
  case pick c x y =>
    replace h := operand_ok hT ht hgl hg h
    obtain ⟨sc, h, hc⟩ := h
    replace h := operand_ok (gd := none) hT ht hgl (by intro b w h; cases h) h
    obtain ⟨sx, h, hx⟩ := h
    replace h := operand_ok (gd := none) hT ht hgl (by intro b w h; cases h) h
    obtain ⟨sy, h, hy⟩ := h
    have fin : ∀ (c' a' b' : Bool), a.eval c = .bool c' → (c' = true → a.eval x = .bool a') → (c' = false → a.eval y = .bool b') → ∀ r : Bool, r = (bif c' then a' else b') →
        (execOp a.eval ⟨dst, .pick c x y, ty, pos, after, guard⟩).run P w = .ok (.value (.bool r)) w := by
      intro c' a' b' h1 h2 h3 r hr
      subst hr
      cases c'
      · simp [execOp, h1, asBool, h3 rfl]
      · simp [execOp, h1, asBool, h2 rfl]
    split at h
    · exact ⟨_, _, h, fin _ _ _ (sdb_inv hc) (fun _ => sdb_inv hx) (fun _ => sdb_inv hy) _ rfl, sdb _⟩
    · replace h := ob_ok hg h
      exact ⟨_, _, h.2, fin _ _ _ (sdb_inv hc) (fun _ => sdb_inv hx) (fun e => sdb_inv (show SRel ρ A w _ (.db _) from hy.1 (h.1 e))) _ rfl, sdb _⟩
    · replace h := ob_ok hg h
      exact ⟨_, _, h.2, fin _ _ _ (sdb_inv hc) (fun e => sdb_inv (show SRel ρ A w _ (.db _) from hx.1 (h.1 e))) (fun _ => sdb_inv hy) _ rfl, sdb _⟩
    · replace h := ob_ok hg h
      obtain ⟨rfl, h⟩ := h
      exact ⟨_, _, h, fin _ false _ (sdb_inv hc) (fun e => by cases e) (fun _ => sdb_inv hy) _ rfl, sdb _⟩
    · replace h := ob_ok hg h
      obtain ⟨rfl, h⟩ := h
      exact ⟨_, _, h, fin _ _ false (sdb_inv hc) (fun _ => sdb_inv hx) (fun e => by cases e) _ rfl, sdb _⟩
    · exact h.elim
  case load T x =>
    replace h := operand_ok hT ht hgl hg h
    obtain ⟨s, h, hs⟩ := h
    obtain ⟨v, s', hk, hrun, hr⟩ := loadK_ok hT hh hg hs h
    exact ⟨v, s', hk, by simp [execOp, hrun], hr⟩
  case nilCheck x =>
    replace h := operand_ok hT ht hgl hg h
    obtain ⟨s, h, hs⟩ := h
    split at h
    · obtain ⟨b, h1, h2⟩ := hs
      exact ⟨_, _, h, by simp [execOp, h2], show CRel ρ A w _ (.ptr _ _) from ⟨b, h1, rfl⟩⟩
    · obtain ⟨b, off, h1, h2⟩ := hs
      exact ⟨_, _, h, by simp [execOp, h1], show CRel ρ A w _ (.pel _) from ⟨b, off, rfl, h2⟩⟩
    · exact (dead_ok hg h).elim
    · exact (dead_ok hg h).elim
    · exact h.elim
  case binOp bop T x y T' =>
    split at h
    · rename_i hc
      simp only [Bool.and_eq_true] at hc
      obtain ⟨⟨hc1, hc2⟩, hc3⟩ := hc
      replace h := operand_ok hT ht hgl hg h
      obtain ⟨s, h, hs⟩ := h
      split at h
      · rename_i c
        have hc : CRel ρ A w (a.eval x) c := hs
        obtain ⟨sz, L, h, a', cap, hv, _, hL⟩ := rowK_ok hh hc h
        obtain ⟨e, esz, eb, ez, hkd⟩ : ∃ e esz eb ez, (Γ.ty T).kd = .sl e esz eb ez := by
          cases hk : (Γ.ty T).kd <;> rw [hk] at hc2 <;> simp [isSl] at hc2
          exact ⟨_, _, _, _, rfl⟩
        obtain ⟨hd, _⟩ := kd_sl hT hkd
        obtain rfl : y = .const (.slice none 0 0) := by
          unfold isNil at hc1
          split at hc1
          · rfl
          · cases hc1
        obtain rfl : bop = .eql := by cases bop <;> simp [isEql] at hc3; rfl
        refine ⟨.bool a'.isNone, _, h, ?_, show CRel ρ A w _ (.nq L.length) from ⟨_, rfl, fun e => ?_⟩⟩
        · have hrun := run_isNil (P := P) (w := w) hd x (.const (.slice none 0 0)) a' L.length cap
          rw [Sem.run_bind] at hrun
          have hy : a.eval (.const (.slice none 0 0)) = .slice none 0 0 := rfl
          simp only [execOp, hv, hy, Sem.run_bind, hrun, Result.andThen_ok, Sem.run_pure]
        · rcases hL with rfl | ⟨b, off, rfl, _⟩
          · rfl
          · cases e
      · exact h.elim
    · replace h := operand_ok hT ht hgl hg h
      obtain ⟨s, h, hs⟩ := h
      replace h := operand_ok hT ht hgl hg h
      obtain ⟨s', h, hs'⟩ := h
      obtain ⟨v, r, hk, hrun, hr⟩ := bin_ok (x := x) (y := y) hT hg hs hs' h
      refine ⟨v, r, hk, ?_, hr⟩
      rw [Sem.run_bind] at hrun
      simp only [execOp, Sem.run_bind, hrun, Result.andThen_ok, Sem.run_pure]
  case unOp uop T x =>
    replace h := operand_ok hT ht hgl hg h
    obtain ⟨s, h, hs⟩ := h
    obtain ⟨v, r, hk, hrun, hr⟩ := un_ok (P := P) hg hs h
    exact ⟨v, r, hk, by simp [execOp, hrun], hr⟩
  case convert src dst x =>
    replace h := operand_ok hT ht hgl hg h
    obtain ⟨s, h, hs⟩ := h
    split at h
    · rename_i ik n jk hkd
      replace h := tt_ok h
      obtain ⟨hsrc, h⟩ := h
      obtain ⟨d, hd, _⟩ := kd_some hT hsrc
      obtain ⟨d', hd', hk'⟩ := kd_some hT (T := dst) (by rw [hkd]; rfl)
      rw [hkd] at hk'
      have hk' : d' = .int jk := hk'
      subst hk'
      have hv := sdi_inv hs
      obtain ⟨r, hk, hr⟩ := sumK_ok (w := w) (ρ := ρ) (A := A) hg h
      exact ⟨_, r, hk, by simp [execOp, hv, convert, run_underlying hd, run_underlying hd', Conv.intToInt], hr⟩
    · rename_i str hkd
      replace h := tt_ok h
      obtain ⟨hsrc, h⟩ := h
      obtain ⟨d, hd, _⟩ := kd_some hT hsrc
      obtain ⟨d', hd', hk'⟩ := kd_some hT (T := dst) (by rw [hkd]; rfl)
      rw [hkd] at hk'
      have hk' : d' = .string := hk'
      subst hk'
      have hv := sstr_inv hs
      refine ⟨.string str, _, h, ?_, show Rd A w _ (.str str) by simp only [Rd]⟩
      cases d <;> simp [execOp, hv, convert, run_underlying hd, run_underlying hd']
    · exact h.elim
  case fieldAddr T x j =>
    replace h := operand_ok hT ht hgl hg h
    obtain ⟨s, h, hs⟩ := h
    split at h
    · rename_i fs hkd
      obtain ⟨fields, hd, hall⟩ := kd_agg hT hkd
      replace h := nthK_ok h
      obtain ⟨⟨o, n, ag⟩, hj, h⟩ := h
      obtain ⟨f, hf, hok⟩ := hall.left hj
      have hf' : fields[j]? = some f := by simpa using hf
      dsimp only at h
      split at h
      · obtain ⟨b, h1, h2⟩ := hs
        exact ⟨_, _, h, by simp [execOp, h2, run_fieldAt hd hf' hok], show CRel ρ A w _ (.ptr _ _) from ⟨b, h1, rfl⟩⟩
      · obtain ⟨b, off, h1, h2, h3⟩ := hs
        replace h := dropK_ok h
        obtain ⟨hl, h⟩ := h
        exact ⟨_, _, h, by simp [execOp, h1, run_fieldAt hd hf' hok], show CRel ρ A w _ (.pel _) from ⟨b, off + o, rfl, h2, h3.drop o⟩⟩
      · obtain ⟨b, off, l, c, h1, h2⟩ := hs
        exact ⟨.pointer (some ⟨b, _, none⟩), _, h, by simp only [execOp, h2, Sem.run_bind, run_fieldAt hd hf' hok]; rfl, show CRel ρ A w _ (.prow _ _ _ _) from ⟨b, off, l, c, h1, by rw [Nat.add_assoc _ _ o]⟩⟩
      · exact (dead_ok hg h).elim
      · exact h.elim
    · exact h.elim
  case field T x j =>
    replace h := operand_ok hT ht hgl hg h
    obtain ⟨s, h, hs⟩ := h
    split at h
    · rename_i fs l hkd
      obtain ⟨fields, hd, hall⟩ := kd_agg hT hkd
      replace h := nthK_ok h
      obtain ⟨⟨o, n, ag⟩, hj, h⟩ := h
      obtain ⟨f, hf, h1, h0, hz⟩ := hall.left hj
      have hf' : fields[j]? = some f := by simpa using hf
      dsimp only at h
      replace h := dropK_ok h
      obtain ⟨hl, h⟩ := h
      obtain ⟨cs, hv, hcs⟩ := hs
      obtain ⟨v, s', hk, hrun, hr⟩ := part_ok hz hcs h
      have h1 : f.offset = o := h1
      exact ⟨v, s', hk, by simp [execOp, hv, Instr.field, run_underlying hd, hf', asAgg, h1, hrun], hr⟩
    · exact h.elim
  case indexAddr T x ix =>
    replace h := operand_ok hT ht hgl hg h
    obtain ⟨s, h, hs⟩ := h
    replace h := operand_ok hT ht hgl hg h
    obtain ⟨si, h, hsi⟩ := h
    split at h
    · rename_i ki i
      have hi := sdi_inv hsi
      split at h
      · rename_i e esz eb ez sz L hkd
        obtain ⟨hd, ie, _, hie, rfl, _⟩ := kd_sl hT hkd
        replace h := tt_ok h
        obtain ⟨hq, e', h⟩ := h
        obtain rfl := Nat.eq_of_beq_eq_true hq
        replace h := ob_ok hg h
        obtain ⟨⟨h0, hL⟩, h⟩ := h
        have hs : Rd A w _ (.sl ie.size L) := hs
        simp only [Rd] at hs
        obtain ⟨a', cap, hv, _, hs⟩ := hs
        have hlt := (List.getElem?_eq_some_iff.1 hL).1
        rcases hs with rfl | ⟨b, off, rfl, hA, hs⟩
        · simp at hL
        · exact ⟨_, _, h, by simp [execOp, hv, hi, run_index_slice hd hie h0 hlt], show CRel ρ A w _ (.pel _) from ⟨b, _, rfl, hA, (hs.get hL).2⟩⟩
      · rename_i e esz eb ez hd' hkd
        obtain ⟨hd, ie, _, hie, rfl, _⟩ := kd_sl hT hkd
        replace h := nthK_ok h
        obtain ⟨R, hR, h⟩ := h
        obtain ⟨v', hv', hRel⟩ := hh _ _ hR
        obtain rfl : v' = a.eval x := by have hv := hs.1; rw [hv'] at hv; exact Option.some.inj hv
        split at h
        · rename_i sz L
          replace h := tt_ok h
          obtain ⟨hq, h⟩ := h
          obtain rfl := Nat.eq_of_beq_eq_true hq
          replace h := ob_ok hg h
          obtain ⟨⟨h0, hL⟩, h⟩ := h
          obtain ⟨a', c', hv, hl, _, hRel⟩ := hRel
          rcases hRel with rfl | ⟨b, off, T', vs, rfl, hb, _⟩
          · omega
          · exact ⟨.pointer (some ⟨b, off + i.toNat * ie.size, none⟩), _, h, by simp [execOp, hv, hi, run_index_slice hd hie h0 hL], show CRel ρ A w _ (.prow _ _ _ _) from ⟨b, off, _, _, by rw [hv', hv], by simp⟩⟩
        · rename_i sz L cs
          replace h := tt_ok h
          obtain ⟨hq, h⟩ := h
          obtain rfl := Nat.eq_of_beq_eq_true hq
          replace h := ob_ok hg h
          obtain ⟨⟨h0, hL⟩, h⟩ := h
          obtain ⟨a', c', hv, hl, _, _, b, off, T', vs, rfl, hb, _⟩ := hRel
          exact ⟨.pointer (some ⟨b, off + i.toNat * ie.size, none⟩), _, h, by simp [execOp, hv, hi, run_index_slice hd hie h0 hL], show CRel ρ A w _ (.prow _ _ _ _) from ⟨b, off, _, _, by rw [hv', hv], by simp⟩⟩
        · rename_i sz L
          replace h := tt_ok h
          obtain ⟨hq, e', h⟩ := h
          obtain rfl := Nat.eq_of_beq_eq_true hq
          replace h := ob_ok hg h
          obtain ⟨⟨h0, hL⟩, h⟩ := h
          have hRel : Rd A w _ (.sl ie.size L) := hRel
          simp only [Rd] at hRel
          obtain ⟨a', cap, hv, _, hRel⟩ := hRel
          have hlt := (List.getElem?_eq_some_iff.1 hL).1
          rcases hRel with rfl | ⟨b, off, rfl, hA, hRel⟩
          · simp at hL
          · exact ⟨_, _, h, by simp [execOp, hv, hi, run_index_slice hd hie h0 hlt], show CRel ρ A w _ (.pel _) from ⟨b, _, rfl, hA, (hRel.get hL).2⟩⟩
        · exact h.elim
      · rename_i e esz eb ez hd' sz lo n hkd
        obtain ⟨hd, ie, _, hie, rfl, _⟩ := kd_sl hT hkd
        replace h := nthK_ok h
        obtain ⟨R, hR, h⟩ := h
        obtain ⟨v', hv', hRel⟩ := hh _ _ hR
        obtain ⟨a0, l0, c0, hρ, hlo, hl0, a', hv, ha'⟩ := hs
        rw [hv'] at hρ; cases hρ
        split at h
        · rename_i sz' L
          replace h := tt_ok h
          obtain ⟨hq, h⟩ := h
          rw [Bool.and_eq_true] at hq
          obtain rfl := Nat.eq_of_beq_eq_true hq.1
          obtain rfl := Nat.eq_of_beq_eq_true hq.2
          replace h := ob_ok hg h
          obtain ⟨⟨h0, hn⟩, h⟩ := h
          obtain ⟨a1, c1, he, _, _, hRel⟩ := hRel
          cases he
          rcases hRel with rfl | ⟨b, off, T', vs, rfl, hb, _⟩
          · omega
          · rcases ha' with e | rfl
            · omega
            · simp only [Option.map_some, Addr.add_lit] at hv
              refine ⟨.pointer (some ⟨b, off + lo * ie.size + i.toNat * ie.size, none⟩), _, h, by simp [execOp, hv, hi, run_index_slice hd hie h0 hn], show CRel ρ A w _ (.prow _ _ _ _) from ⟨b, off, _, _, hv', ?_⟩⟩
              rw [Nat.add_mul, Nat.add_zero, Nat.add_assoc]
        · exact h.elim
      · rename_i len esz ea hd' off hkd
        obtain ⟨e, hd, hz⟩ := kd_arr hT hkd
        replace h := ob_ok hg h
        obtain ⟨⟨h0, hL⟩, h⟩ := h
        obtain ⟨b, h1, h2⟩ := hs
        exact ⟨_, _, h, by simp [execOp, h2, hi, run_index_array hd hz h0 hL], show CRel ρ A w _ (.ptr _ _) from ⟨b, h1, rfl⟩⟩
      · rename_i len esz ea l hkd
        obtain ⟨e, hd, hz⟩ := kd_arr hT hkd
        replace h := ob_ok hg h
        obtain ⟨⟨h0, hL⟩, h⟩ := h
        obtain ⟨b, off, h1, h2, h3⟩ := hs
        replace h := dropK_ok h
        obtain ⟨_, h⟩ := h
        exact ⟨_, _, h, by simp [execOp, h1, hi, run_index_array hd hz h0 hL], show CRel ρ A w _ (.pel _) from ⟨b, _, rfl, h2, h3.drop _⟩⟩
      · rename_i len esz ea hd' sz i' j hkd
        obtain ⟨e, hd, hz⟩ := kd_arr hT hkd
        replace h := ob_ok hg h
        obtain ⟨⟨h0, hL⟩, h⟩ := h
        obtain ⟨b, off, l, c, h1, h2⟩ := hs
        exact ⟨.pointer (some ⟨b, _, none⟩), _, h, by simp only [execOp, h2, hi, Sem.run_bind, run_index_array hd hz h0 hL]; rfl, show CRel ρ A w _ (.prow _ _ _ _) from ⟨b, off, l, c, h1, by rw [Nat.add_assoc _ _ (i.toNat * esz)]⟩⟩
      · exact h.elim
    · exact h.elim
  case index T x ix =>
    replace h := operand_ok hT ht hgl hg h
    obtain ⟨s, h, hs⟩ := h
    replace h := operand_ok hT ht hgl hg h
    obtain ⟨si, h, hsi⟩ := h
    split at h
    · rename_i ki i str
      replace h := tt_ok h
      obtain ⟨hk, b, h⟩ := h
      obtain ⟨d, hd, hkd⟩ := kd_some hT (T := T) (by cases hq : (Γ.ty T).kd <;> simp [hq, isStr] at hk <;> rfl)
      have hkd : d = .string := by cases hq : (Γ.ty T).kd <;> simp [hq, isStr] at hk; rw [hq] at hkd; exact hkd
      subst hkd
      replace h := ob_ok hg h
      obtain ⟨⟨h0, hb⟩, h⟩ := h
      have hi := sdi_inv hsi
      have hv := sstr_inv hs
      exact ⟨_, _, h, by simp [execOp, hv, hi, Instr.index, asIntOf, run_underlying hd, h0, hb], sdi _ _⟩
    · exact h.elim
  case slice T x lo hi mx =>
    cases mx <;> simp only [] at h
    case none =>
      replace h := operand_ok hT ht hgl hg h
      obtain ⟨s, h, hs⟩ := h
      split at h
      · rename_i e esz eb ez c hkd
        obtain ⟨hd, ie, _, hie, hsz, _⟩ := kd_sl hT hkd
        subst hsz
        have hc : CRel ρ A w (a.eval x) c := hs
        obtain ⟨sz, L, hrow, h⟩ := rowK_det h
        replace h := tt_ok h
        obtain ⟨hq, h⟩ := h
        obtain rfl := Nat.eq_of_beq_eq_true hq
        obtain ⟨kl, l, hlo, h⟩ := optK_ok hT ht hgl hg h
        obtain ⟨kh, hi', hhi, h⟩ := optK_ok hT ht hgl hg h
        obtain ⟨v', s', hk, hrun, hr⟩ := cutK_ok hh hg hd hie hc hlo hhi (rowK_mono hrow fun s M e => ⟨e.1.symm, e.1, e.2⟩) h
        exact ⟨v', s', hk, by simp [execOp, hrun], hr⟩
      · exact h.elim
    case some mx =>
      cases lo with
      | some _ => exact h.elim
      | none =>
        cases hi with
        | none => exact h.elim
        | some hi =>
          replace h := operand_ok hT ht hgl hg h
          obtain ⟨s, h, hs⟩ := h
          split at h
          · rename_i e esz eb ez c hkd
            obtain ⟨hd, ie, _, hie, hsz, _⟩ := kd_sl hT hkd
            subst hsz
            have hc : CRel ρ A w (a.eval x) c := hs
            obtain ⟨sz, L, h, a', cap, hv, _, _⟩ := rowK_ok hh hc h
            replace h := tt_ok h
            obtain ⟨hq, h⟩ := h
            obtain ⟨s1, h, hs1⟩ := operand_ok hT ht hgl hg h
            obtain ⟨s2, h, hs2⟩ := operand_ok hT ht hgl hg h
            split at h
            · rename_i k1 n1 k2 n2
              obtain ⟨⟨e3, e4⟩, h9⟩ := ob_ok hg h
              subst e3; subst e4
              have e1 := sdi_inv hs1
              have e2 := sdi_inv hs2
              refine ⟨.slice a' 0 0, _, h9, ?_, show CRel ρ A w _ (.emp sz) from ⟨_, rfl⟩⟩
              simp [execOp, hv, e1, e2, Instr.sliceAt, Instr.slice, Instr.sliceBounds, Instr.sliceBound, run_underlying hd, sizeOf, typeInfo, hie, asIntOf]
            · exact h.elim
          · exact h.elim
  case extract x j =>
    replace h := operand_ok hT ht hgl hg h
    obtain ⟨s, h, hs⟩ := h
    split at h
    · rename_i vs
      replace h := nthK_ok h
      obtain ⟨v, hv, h⟩ := h
      obtain ⟨us, hu, hall⟩ := hs
      obtain ⟨u, hj, hr⟩ := hall.left hv
      have hj' : us[j]? = some u := by simpa using hj
      exact ⟨u, _, h, by simp [execOp, hu, Instr.extract, hj'], hr⟩
    · exact h.elim
  case makeFunc fn first captured =>
    cases fn <;> simp only [] at h
    case func f =>
      split at h
      · rename_i hf
        obtain ⟨cs, h, hcs⟩ := capsK_ok hT ht hgl hg h
        have hf' : first = #[] := by cases first; simp_all
        refine ⟨.func (.func f) #[] (captured.map a.eval), _, h, by simp [execOp, Instr.makeFunc, hf'], show CRel ρ A w _ (.fn f cs) from ⟨_, rfl, by simpa using hcs⟩⟩
      · exact h.elim
  case build T ps =>
    split at h
    · rename_i fs hkd
      replace h := partsK_ok hT ht hgl hg h
      obtain ⟨ss, h, hss⟩ := h
      obtain ⟨it, d, hit, hsz, hd, _, hk, z, hz, hz0, _⟩ := hT T (by rw [hkd]; rfl)
      rw [hkd] at hk
      obtain ⟨fields, rfl, hall⟩ := (hk : ∃ fields, d = .struct fields ∧ _)
      have hpl : ∀ (j : Nat) (x : Nat × Nat × Bool), fs[j]? = some x → ((fs.map fun x => (x.1, x.2.1)).toArray)[j]? = some (x.1, x.2.1) ∧ 0 < x.2.1 := by
        intro j x hx
        obtain ⟨f, _, _, h0, _⟩ := hall.left hx
        exact ⟨by simp [hx], h0⟩
      obtain ⟨cells', cs', hk', hfill, hrel⟩ := fillK_ok (ρ := ρ) (A := A) (w := w) hpl hss (hz0.imp fun _ _ h => ⟨h.1, h.2 _ _ _⟩) h
      refine ⟨.agg cells', _, hk', ?_, show V1Rel ρ A w _ (.ag _) from ⟨cells', rfl, hrel⟩⟩
      have hb : P.built T (ps.toList.map fun (i, x) => (i, a.eval x)) = some cells' := by
        simp only [Program.built, hit, hd, hz, hall.places]
        exact hfill
      have := run_build w T (ps.map fun (i, x) => (i, a.eval x)) cells' (by simpa using hb)
      simp [execOp, this]
    · rename_i len esz ea hkd
      obtain ⟨he, h⟩ := tt_ok h
      replace h := partsK_ok hT ht hgl hg h
      obtain ⟨ss, h, hss⟩ := h
      obtain ⟨it, d, hit, hsz, hd, _, hk, z, hz, hz0, _⟩ := hT T (by rw [hkd]; rfl)
      rw [hkd] at hk
      obtain ⟨e, rfl, ie, de, hie, hes, _⟩ := (hk : ∃ e, d = .array len e ∧ Sized P e esz ea)
      obtain ⟨cells', cs', hk', hfill, hrel⟩ := fillK_ok (ρ := ρ) (A := A) (w := w) (slots_place (Nat.le_of_ble_eq_true he) len) hss (hz0.imp fun _ _ h => ⟨h.1, h.2 _ _ _⟩) h
      refine ⟨.agg cells', _, hk', ?_, show V1Rel ρ A w _ (.ag _) from ⟨cells', rfl, hrel⟩⟩
      have hb : P.built T (ps.toList.map fun (i, x) => (i, a.eval x)) = some cells' := by
        simp only [Program.built, hit, hd, hz, hie, hes]
        exact hfill
      have := run_build w T (ps.map fun (i, x) => (i, a.eval x)) cells' (by simpa using hb)
      simp [execOp, this]
    · exact h.elim
  case call c =>
    obtain ⟨callee, args, argTypes⟩ := c
    cases callee <;> simp only [] at h
    case builtin b =>
      cases b <;> simp only [] at h
      case len =>
        replace h := operands_ok hT ht hgl hg h
        obtain ⟨ss, h, hss⟩ := h
        split at h
        · rename_i c T hT'
          have hT' : argTypes = #[T] := by cases argTypes; simp_all
          subst hT'
          obtain ⟨x, hx⟩ : ∃ x, args = #[x] := by
            have := hss.length
            obtain ⟨l⟩ := args
            cases l with
            | nil => simp at this
            | cons x l => cases l with
              | nil => exact ⟨x, rfl⟩
              | cons _ _ => simp at this
          subst hx
          simp only [List.map_cons, List.map_nil] at hss
          cases hss with
          | cons hc _ =>
          split at h
          · rename_i str hkd
            obtain ⟨d, hd, hk⟩ := kd_some hT (T := T) (by rw [hkd]; rfl)
            rw [hkd] at hk
            have hk : d = .string := hk
            subst hk
            have hv := sstr_inv hc
            exact ⟨_, _, h, by simp [execOp, resolve, invoke, builtin, hv, Builtin.len_, run_underlying hd, goInt], sdi _ _⟩
          · exact (dead_ok hg h).elim
          · rename_i e esz eb ez hkd _
            obtain ⟨hd, _⟩ := kd_sl hT hkd
            obtain ⟨n, h, a', cap, hv⟩ := longK_ok hh hc h
            exact ⟨_, _, h, by simp [execOp, resolve, invoke, builtin, hv, Builtin.len_, run_underlying hd, goInt], sdi _ _⟩
          · rename_i ez hkd
            obtain ⟨kt, et, hd, _⟩ := kd_map hT hkd
            have hM : ∀ {h : Nat} {M : List (Int × D)}, hp[h]? = some (.mapd M) → (CRel ρ A w (a.eval x) (.own h) ∨ CRel ρ A w (a.eval x) (.town h)) → ∃ b es clock, a.eval x = .map (some b) ∧ w.heap[b]? = some (.map es clock) ∧ es.size = M.length := by
              intro h M hr hc
              generalize a.eval x = xv at hc ⊢
              obtain ⟨v, hv, b, es, clock, hv', hb, hM, _⟩ := hh h _ hr
              have hl : es.size = M.length := by rw [← hM.length]; simp
              rcases hc with ⟨h1, h2⟩ | ⟨us, h1, _⟩
              · rw [hv] at h1
                rcases hv' with rfl | ⟨us, rfl, _⟩
                · cases h1; exact ⟨b, es, clock, rfl, hb, hl⟩
                · cases h1; exact absurd rfl (h2.2 _)
              · rw [hv] at h1
                rcases hv' with rfl | ⟨us', rfl, _⟩
                · cases h1
                · cases h1; exact ⟨b, es, clock, rfl, hb, hl⟩
            unfold mapH at h
            split at h
            · obtain ⟨r, hr, h⟩ := nthK_ok h
              split at h
              · obtain ⟨b, es, clock, hv, hb, hl⟩ := hM hr (.inl hc)
                refine ⟨_, _, h, ?_, sdi _ _⟩
                rw [← hl]
                simp [execOp, resolve, invoke, builtin, hv, Builtin.len_, run_underlying hd, goInt, MapKept.run_getObj_map hb]
              · exact h.elim
            · obtain ⟨r, hr, h⟩ := nthK_ok h
              split at h
              · obtain ⟨b, es, clock, hv, hb, hl⟩ := hM hr (.inr hc)
                refine ⟨_, _, h, ?_, sdi _ _⟩
                rw [← hl]
                simp [execOp, resolve, invoke, builtin, hv, Builtin.len_, run_underlying hd, goInt, MapKept.run_getObj_map hb]
              · exact h.elim
            · exact h.elim
          · exact h.elim
        · exact h.elim
      case min =>
        replace h := operands_ok hT ht hgl hg h
        obtain ⟨ss, h, hss⟩ := h
        split at h
        · rename_i i x i' y
          obtain ⟨xa, xb, hx⟩ : ∃ xa xb, args = #[xa, xb] := by
            have := hss.length
            obtain ⟨l⟩ := args
            rcases l with _ | ⟨xa, _ | ⟨xb, _ | ⟨_, _⟩⟩⟩ <;> simp at this
            exact ⟨xa, xb, rfl⟩
          subst hx
          simp only [List.map_cons, List.map_nil] at hss
          cases hss with
          | cons h1 hss =>
          cases hss with
          | cons h2 _ =>
          exact ⟨_, _, h, by simp [execOp, resolve, invoke, builtin, sdi_inv h1, sdi_inv h2, Builtin.min_, Builtin.min2], sdi _ _⟩
        · exact h.elim
      case max =>
        replace h := operands_ok hT ht hgl hg h
        obtain ⟨ss, h, hss⟩ := h
        split at h
        · rename_i i x i' y
          obtain ⟨xa, xb, hx⟩ : ∃ xa xb, args = #[xa, xb] := by
            have := hss.length
            obtain ⟨l⟩ := args
            rcases l with _ | ⟨xa, _ | ⟨xb, _ | ⟨_, _⟩⟩⟩ <;> simp at this
            exact ⟨xa, xb, rfl⟩
          subst hx
          simp only [List.map_cons, List.map_nil] at hss
          cases hss with
          | cons h1 hss =>
          cases hss with
          | cons h2 _ =>
          exact ⟨_, _, h, by simp [execOp, resolve, invoke, builtin, sdi_inv h1, sdi_inv h2, Builtin.max_, Builtin.max2], sdi _ _⟩
        · exact h.elim
end ops
end Go.Proofs.YtphmcgmblkbijaaVY
