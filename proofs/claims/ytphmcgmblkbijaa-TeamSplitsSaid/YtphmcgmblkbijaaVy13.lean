/-
  VY: operations that write, call or make memory come to the same for the same slots. By the session's own hand.
-/
import Derived.Test.YtphmcgmblkbijaaVy12
set_option linter.unusedSectionVars false
set_option linter.unusedVariables false
set_option linter.unusedSimpArgs false
set_option linter.all false
set_option linter.unnecessarySimpa false
set_option linter.deprecated false
namespace Go.Proofs.YtphmcgmblkbijaaVY
section
variable {Γ : Cx} {gd : Option (Bool × Bool)} {t t1 : List S} {hp : List Reg}
theorem SameH.refl (H : List Nat) (hp : List Reg) : SameH H hp hp := fun _ _ _ h => h
theorem rowK_m {c : C} {k k' : Nat → List (List D) → Prop} (hk : ∀ a b, k a b → k' a b) (h : rowK hp c k) : rowK hp c k' := by
  obtain ⟨sz, L, h, g⟩ := rowK_dt (SameH.refl c.hs hp) (fun _ h => h) h
  exact g _ (hk _ _ h)
theorem tt_m {b : Bool} {p q : Prop} (hk : p → q) (h : tt b p) : tt b q := by
  obtain ⟨e, h⟩ := tt_ok h; subst e; exact hk h
theorem ob_m {p q r : Prop} (hk : q → r) (h : ob gd p q) : ob gd p r := by
  cases gd <;> exact ⟨h.1, hk h.2⟩
theorem lenK_m {α : Type} {l : List α} : ∀ {n : Nat} {k k' : Nat → Prop}, (∀ n, k n → k' n) → lenK l n k → lenK l n k' := by
  induction l with
  | nil => intro n k k' hk h; exact hk _ h
  | cons a l ih => intro n k k' hk h; exact ih hk h
theorem Dt.m {α : Type} {F F' : (α → Prop) → Prop} {Pr : α → Prop} (h : Dt F F' Pr) {k k' : α → Prop} (hk : ∀ s, k s → k' s) (hF : F k) : F' k' := by
  obtain ⟨s, _, h1, h2⟩ := h k hF
  exact h2 _ (hk _ h1)
theorem nth_m {α : Type} {l : List α} {n : Nat} {k k' : α → Prop} (hk : ∀ s, k s → k' s) (h : nthK l n k) : nthK l n k' := (Dt.nth fun _ h => h).m hk h
theorem puts_m {α : Type} {l : List α} {n : Nat} {xs : List α} {k k' : List α → Prop} (hk : ∀ s, k s → k' s) (h : putsK l n xs k) : putsK l n xs k' := Dt.puts.m hk h
theorem app_m {α : Type} {l m : List α} {k k' : List α → Prop} (hk : ∀ s, k s → k' s) (h : appK l m k) : appK l m k' := Dt.app.m hk h
theorem viewK_m {c : C} {k k' : D → Lt → Prop} (hk : ∀ a b, k a b → k' a b) (h : viewK hp c k) : viewK hp c k' := by
  cases c <;> simp only [viewK] at h ⊢
  case d => exact hk _ _ h
  case emp => exact hk _ _ h
  case own x => refine nth_m (fun r h => ?_) h; cases r <;> first | exact hk _ _ h | exact h.elim
  case win x => refine nth_m (fun r h => ?_) h; cases r <;> first | exact tt_m (hk _ _) h | exact h.elim
theorem viewsK_m {cs : List C} : ∀ {k k' : List D → Lt → Prop}, (∀ a b, k a b → k' a b) → viewsK hp cs k → viewsK hp cs k' := by
  induction cs with
  | nil => intro k k' hk h; exact hk _ _ h
  | cons c cs ih => intro k k' hk h; exact viewK_m (fun x l h => ih (fun xs l' h => app_m (fun m h => hk _ _ h) h) h) h
theorem chunkK_m {sz : Nat} : ∀ {n : Nat} {l : List D} {k k' : List (List D) → Prop}, (∀ s, k s → k' s) → chunkK sz n l k → chunkK sz n l k'
  | 0, _, _, _, hk, h => hk _ h
  | _ + 1, _, _, _, hk, h => Dt.take.m (fun _ h => Dt.drop.m (fun _ h => chunkK_m (fun _ h => hk _ h) h) h) h
theorem posK_m {x : Nat} {l : List Nat} : ∀ {n : Nat} {k k' : Nat → Prop} {q q' : Prop}, (∀ i, k i → k' i) → (q → q') → posK x l n k q → posK x l n k' q' := by
  induction l with
  | nil => intro n k k' q q' hk hq h; exact hq h
  | cons y l ih =>
    intro n k k' q q' hk hq h
    unfold posK at h ⊢
    split at h
    · exact hk _ h
    · exact ih hk hq h
theorem seeC_m {hs : List Nat} {c : C} {k k' : D → Lt → Prop} (hk : ∀ a b, k a b → k' a b) (h : seeC hp hs c k) : seeC hp hs c k' := by
  cases c <;> simp only [seeC] at h ⊢
  case d => exact hk _ _ h
  case emp => exact hk _ _ h
  case own x => refine posK_m (fun _ h => h) (fun h => nth_m (fun r h => ?_) h) h; cases r <;> first | exact hk _ _ h | exact h.elim
  case win x => refine posK_m (fun _ h => h) (fun h => nth_m (fun r h => ?_) h) h; cases r <;> first | exact tt_m (hk _ _) h | exact h.elim
theorem seeCs_m {hs : List Nat} {cs : List C} : ∀ {k k' : List D → Lt → Prop}, (∀ a b, k a b → k' a b) → seeCs hp hs cs k → seeCs hp hs cs k' := by
  induction cs with
  | nil => intro k k' hk h; exact hk _ _ h
  | cons c cs ih => intro k k' hk h; exact seeC_m (fun a b h => ih (fun a' b' h => app_m (fun m h => hk _ _ h) h) h) h
theorem seeD_m {hs : List Nat} {c : C} {k k' : D → Lt → Prop} (hk : ∀ a b, k a b → k' a b) (h : seeD hp hs c k) : seeD hp hs c k' := by
  cases c <;> simp only [seeD] at h ⊢
  case d => exact seeC_m hk h
  case emp => exact seeC_m hk h
  case win => exact seeC_m hk h
  case own x => refine posK_m (fun _ h => h) (fun h => nth_m (fun r h => ?_) h) h; cases r <;> first | exact hk _ _ h | exact seeCs_m (fun _ _ h => tt_m (hk _ _) h) h | exact h.elim
theorem seeDs_m {hs : List Nat} {cs : List C} : ∀ {k k' : List D → Lt → Prop}, (∀ a b, k a b → k' a b) → seeDs hp hs cs k → seeDs hp hs cs k' := by
  induction cs with
  | nil => intro k k' hk h; exact hk _ _ h
  | cons c cs ih => intro k k' hk h; exact seeD_m (fun x l h => ih (fun xs l' h => app_m (fun m h => hk _ _ h) h) h) h
theorem lendCap_m {hs : List Nat} {em : Bool} {c : Cap} {k k' : Cap → Lt → Prop} (hk : ∀ a b, k a b → k' a b) (h : lendCap hp hs em c k) : lendCap hp hs em c k' := by
  cases c <;> simp only [lendCap] at h ⊢
  case ptr x => refine posK_m (fun _ h => hk _ _ h) (fun h => nth_m (fun r h => ?_) h) h; cases r <;> first | exact seeDs_m (fun _ _ h => hk _ _ h) h | exact h.elim
  case own x => exact posK_m (fun _ h => hk _ _ h) (fun h => seeD_m (fun _ _ h => hk _ _ h) h) h
  case emp => split at h <;> exact hk _ _ h
  all_goals exact hk _ _ h
theorem lendCaps_m {hs : List Nat} {em : Bool} {cs : List Cap} : ∀ {k k' : List Cap → Lt → Prop}, (∀ a b, k a b → k' a b) → lendCaps hp hs em cs k → lendCaps hp hs em cs k' := by
  induction cs with
  | nil => intro k k' hk h; exact hk _ _ h
  | cons c cs ih => intro k k' hk h; exact lendCap_m (fun a b h => ih (fun a' b' h => app_m (fun m h => hk _ _ h) h) h) h
theorem lendC_m {hs : List Nat} {em : Bool} {c : C} {k k' : C → Lt → Prop} (hk : ∀ a b, k a b → k' a b) (h : lendC hp hs em c k) : lendC hp hs em c k' := by
  cases c <;> simp only [lendC] at h ⊢
  case d => exact hk _ _ h
  case emp => split at h <;> exact hk _ _ h
  case pel => exact hk _ _ h
  case junk => exact hk _ _ h
  case fn => exact lendCaps_m (fun _ _ h => hk _ _ h) h
  case own x => exact posK_m (fun _ h => hk _ _ h) (fun h => seeD_m (fun _ _ h => hk _ _ h) h) h
  case win x => exact posK_m (fun _ h => hk _ _ h) (fun h => seeC_m (fun _ _ h => hk _ _ h) h) h
  case ptr x => refine posK_m (fun _ h => hk _ _ h) (fun h => nth_m (fun r h => ?_) h) h; cases r <;> first | exact Dt.drop.m (fun _ h => seeDs_m (fun _ _ h => hk _ _ h) h) h | exact h.elim
  case prow x => exact posK_m (fun _ h => hk _ _ h) (fun h => h) h
  case town x => exact posK_m (fun _ h => hk _ _ h) (fun h => h) h
  case sub x => exact posK_m (fun _ h => hk _ _ h) (fun h => h) h
theorem lendCs_m {hs : List Nat} {em : Bool} {cs : List C} : ∀ {k k' : List C → Lt → Prop}, (∀ a b, k a b → k' a b) → lendCs hp hs em cs k → lendCs hp hs em cs k' := by
  induction cs with
  | nil => intro k k' hk h; exact hk _ _ h
  | cons c cs ih => intro k k' hk h; exact lendC_m (fun a b h => ih (fun a' b' h => app_m (fun m h => hk _ _ h) h) h) h
theorem lendSs_m {hs : List Nat} {em : Bool} {ss : List S} : ∀ {k k' : List S → Lt → Prop}, (∀ a b, k a b → k' a b) → lendSs hp hs em ss k → lendSs hp hs em ss k' := by
  induction ss with
  | nil => intro k k' hk h; exact hk _ _ h
  | cons s ss ih =>
    intro k k' hk h
    cases s with
    | tup l => exact h.elim
    | v x => cases x with
      | c c => exact lendC_m (fun a b h => ih (fun a' b' h => app_m (fun m h => hk _ _ h) h) h) h
      | ag l => exact lendCs_m (fun a b h => ih (fun a' b' h => app_m (fun m h => hk _ _ h) h) h) h
      | cnd _ _ _ => exact h.elim
theorem giveR_m {hs : List Nat} {em : Bool} {i : Nat} {r : Reg} {k k' : Reg → C → Lt → Prop} (hk : ∀ a b c, k a b c → k' a b c) (h : giveR hp hs em i r k) : giveR hp hs em i r k' := by
  cases r <;> simp only [giveR] at h ⊢
  case row => exact hk _ _ _ h
  case mapd => exact hk _ _ _ h
  case mapr => exact hk _ _ _ h
  case box => exact lendCs_m (fun _ _ h => hk _ _ _ h) h
  case rowt => exact lendCs_m (fun _ _ h => hk _ _ _ h) h
theorem giveK_m {hs : List Nat} {em : Bool} {l : List Nat} : ∀ {i : Nat} {k k' : List Reg → List C → Lt → Prop}, (∀ a b c, k a b c → k' a b c) → giveK hp hs em l i k → giveK hp hs em l i k' := by
  induction l with
  | nil => intro i k k' hk h; exact hk _ _ _ h
  | cons x l ih => intro i k k' hk h; exact nth_m (fun r h => giveR_m (fun _ _ _ h => ih (fun _ _ _ h => app_m (fun m h => hk _ _ _ h) h) h) h) h
theorem memK_m {cs : List C} : ∀ {k k' : List Reg → Prop}, (∀ a, k a → k' a) → memK cs k → memK cs k' := by
  induction cs with
  | nil => intro k k' hk h; exact hk _ h
  | cons c cs ih => intro k k' hk h v; exact ih (fun l h => hk _ h) (h v)
theorem lostK_m {hs : List Nat} : ∀ {ms ms' : List Reg} {inv : Option Nat} {k k' : Option Nat → Prop}, (∀ a, k a → k' a) → lostK hs ms ms' inv k → lostK hs ms ms' inv k' := by
  induction hs with
  | nil =>
    intro ms ms' inv k k' hk h
    cases ms with
    | cons _ _ => exact h.elim
    | nil => cases ms' with
      | cons _ _ => exact h.elim
      | nil => exact hk _ h
  | cons x hs ih =>
    intro ms ms' inv k k' hk h
    cases ms with
    | nil => exact h.elim
    | cons m ms0 => cases m with
      | box _ => exact h.elim
      | rowt _ _ _ => exact h.elim
      | row _ _ => exact h.elim
      | frz _ _ => exact h.elim
      | gone => exact h.elim
      | mapd _ => exact h.elim
      | mapr _ _ => exact h.elim
      | mem v c => cases ms' with
        | nil => exact h.elim
        | cons m ms0' => cases m with
          | box _ => exact h.elim
          | rowt _ _ _ => exact h.elim
          | row _ _ => exact h.elim
          | frz _ _ => exact h.elim
          | gone => exact h.elim
          | mapd _ => exact h.elim
          | mapr _ _ => exact h.elim
          | mem v' c' =>
            obtain ⟨h1, h⟩ := h
            refine ⟨h1, ?_⟩
            split at h
            · exact tt_m (fun h => ih hk h) h
            · exact tt_m (fun h => ih hk h) h
            · split at h
              · exact ih hk h
              · exact h.elim
            · exact tt_m (fun h => by
                cases inv with
                | none => exact ih hk h
                | some _ => exact h.elim) h
            · exact h.elim
theorem FreeRs_m {l : List Reg} {p q : Prop} (hk : p → q) (h : FreeRs l p) : FreeRs l q := by
  induction l with
  | nil => exact hk h
  | cons r l ih => exact ⟨h.1, ih h.2⟩
theorem lentK_m {lent : Lt} {fz : Bool} {r : S} {out : List Reg} {k k' : Lt → Prop} (hk : ∀ a, k a → k' a) (h : lentK lent fz r out k) : lentK lent fz r out k' := by
  cases lent with
  | nil => exact hk _ h
  | cons x l => cases fz with
    | true => exact tt_m (hk _) h
    | false => exact tt_m (FreeRs_m (hk _)) h
theorem baseK_m {c : C} {k k' : Option Nat → Nat → List (List D) → Prop} (hk : ∀ a b d, k a b d → k' a b d) (h : baseK hp c k) : baseK hp c k' := by
  cases c <;> simp only [baseK] at h ⊢
  case emp => exact hk _ _ _ h
  case own x => refine nth_m (fun r h => ?_) h; cases r <;> first | exact hk _ _ _ h | exact h.elim
  case win x => refine nth_m (fun r h => ?_) h; cases r <;> first | exact tt_m (hk _ _ _) h | exact h.elim
theorem baseT_m {c : C} {k k' : Nat → Nat → List (List D) → Lt → Prop} (hk : ∀ a b d e, k a b d e → k' a b d e) (h : baseT hp c k) : baseT hp c k' := by
  cases c <;> simp only [baseT] at h ⊢
  refine nth_m (fun r h => ?_) h
  cases r <;> first | exact hk _ _ _ _ h | exact viewsK_m (fun x fr h => tt_m (tt_m (hk _ _ _ _)) h) h | exact h.elim
theorem mapH_m {c : C} {k k' : Nat → Prop} (hk : ∀ x, k x → k' x) (h : mapH c k) : mapH c k' := by
  unfold mapH at h ⊢
  split at h
  · exact hk _ h
  · exact hk _ h
  · exact h.elim
theorem evM_m {o : Oper} (hT : SameT (Oper.sees o) t t1) {k k' : EffK} (hk : ∀ s u n i, k s u n i → k' s u n i) (h : evM Γ gd o t hp k) : evM Γ gd o t1 hp k' := by
  have ho : ∀ {G : TypeId → TI} {T : TypeId} {gd : Option (Bool × Bool)} {x : Operand} {k k' : S → Prop}, x ∈ o.op.operands → (∀ s, k s → k' s) → operand G T gd t x k → operand G T gd t1 x k' := fun hx hk h =>
    (operand_dt (H := (t.map S.hs).flatten) (fun i hi => hT i (sees_mem hx hi)) (fun i hi s hs h hh => List.mem_flatten.2 ⟨_, List.mem_map.2 ⟨s, List.mem_of_getElem? hs, rfl⟩, hh⟩)).m hk h
  have hos : ∀ {G : TypeId → TI} {Ts : List TypeId} {xs : List Operand} {k k' : List S → Prop}, (∀ x ∈ xs, x ∈ o.op.operands) → (∀ s, k s → k' s) → operands G gd t xs Ts k → operands G gd t1 xs Ts k' := fun hx hk h =>
    (operands_dt (H := (t.map S.hs).flatten) (fun x hx' i hi => hT i (sees_mem (hx x hx') hi)) (fun x hx' i hi s hs h hh => List.mem_flatten.2 ⟨_, List.mem_map.2 ⟨s, List.mem_of_getElem? hs, rfl⟩, hh⟩)).m hk h
  obtain ⟨dst, op, ty, pos, after, guard⟩ := o
  unfold evM at h ⊢
  cases op <;> simp only [] at h ⊢
  case alloc T => exact tt_m (lenK_m fun n => hk _ _ _ _) h
  case box T x =>
    refine ho (by simp [Op.operands]) (fun s h => lenK_m (fun n h => ?_) h) h
    split at h
    · exact hk _ _ _ _ h
    · exact h.elim
    · exact hk _ _ _ _ h
    · exact h.elim
  case store T a x =>
    refine ho (by simp [Op.operands]) (fun s h => ho (by simp [Op.operands]) (fun s' h => ?_) h) h
    split at h
    · refine nth_m (fun r h => ?_) h
      cases r with
      | box cs =>
        dsimp only at h ⊢
        split at h
        · exact tt_m (puts_m fun l h => hk _ _ _ _ h) h
        · exact h.elim
        · exact tt_m (puts_m fun l h => hk _ _ _ _ h) h
        · exact h.elim
      | _ => exact h.elim
    · refine nth_m (fun r h => ?_) h
      cases r with
      | row sz L =>
        dsimp only at h ⊢
        refine tt_m (fun h => ?_) h
        obtain ⟨e, h⟩ := h
        refine ⟨e, ob_m (fun h => ?_) h⟩
        split at h
        · exact viewsK_m (fun l fr h => tt_m (tt_m (puts_m fun l h => app_m (fun us h => hk _ _ _ _ h) h)) h) h
        · exact viewK_m (fun l fr h => tt_m (tt_m (puts_m fun l h => app_m (fun us h => hk _ _ _ _ h) h)) h) h
        · exact h.elim
      | rowt sz L cs =>
        dsimp only at h ⊢
        refine tt_m (fun h => ob_m (fun h => ?_) h) h
        split at h
        · exact h.elim
        · exact tt_m (puts_m fun l h => hk _ _ _ _ h) h
        · exact h.elim
      | _ => exact h.elim
    · exact h.elim
  case makeMap T r =>
    split at h
    · exact lenK_m (fun n => hk _ _ _ _) h
    · exact h.elim
  case lookup T m x ok =>
    split at h
    · refine ho (x := m) (by simp [Op.operands]) (fun s h => ho (x := x) (by simp [Op.operands]) (fun s' h => ?_) h) h
      split at h
      · refine mapH_m (fun q h => nth_m (fun r h => ?_) h) h
        cases r <;> first | exact h.elim | skip
        · exact ⟨fun x hx => hk _ _ _ _ (h.1 x hx), fun hn => hk _ _ _ _ (h.2 hn)⟩
        · exact ⟨fun i r hx => ⟨(h.1 i r hx).1, hk _ _ _ _ (h.1 i r hx).2⟩, fun hn => hk _ _ _ _ (h.2 hn)⟩
      · exact h.elim
    · exact h.elim
  case mapUpdate T m x y =>
    split at h
    · refine ho (x := m) (by simp [Op.operands]) (fun s h => ho (x := x) (by simp [Op.operands]) (fun s' h => ho (x := y) (by simp [Op.operands]) (fun s'' h => ?_) h) h) h
      split at h
      · refine mapH_m (fun q h => nth_m (fun r h => ?_) h) h
        cases r <;> first | exact h.elim | skip
        · exact viewK_m (fun d fr h => tt_m (app_m fun us h => hk _ _ _ _ h) h) h
        · dsimp only at h ⊢
          split at h
          · refine nth_m (fun r h => ?_) h
            cases r <;> first | exact h.elim | exact tt_m (hk _ _ _ _) h
          · exact h.elim
      · exact h.elim
    · exact h.elim
  case makeSlice T l c =>
    split at h
    · refine ho (by simp [Op.operands]) (fun s h => ho (by simp [Op.operands]) (fun s' h => ?_) h) h
      split at h
      · exact tt_m (ob_m (lenK_m fun n => hk _ _ _ _)) h
      · exact h.elim
    · exact h.elim
  case buildSlice T n ps =>
    split at h
    · refine tt_m (fun h => ?_) h
      refine (partsK_dt (H := (t.map S.hs).flatten) (fun x hx' i hi => hT i (sees_mem (by simpa [Op.operands] using hx') hi)) (fun x hx' i hi s hs h hh => List.mem_flatten.2 ⟨_, List.mem_map.2 ⟨s, List.mem_of_getElem? hs, rfl⟩, hh⟩)).m (fun ps h => ?_) h
      refine fillK_dt.m (fun cs h => ?_) h
      split at h
      · exact lenK_m (fun n => hk _ _ _ _) h
      refine viewsK_m (fun l fr h => chunkK_m (fun L h => ?_) h) h
      cases L with
      | nil => exact hk _ _ _ _ h
      | cons e L => exact lenK_m (fun n => hk _ _ _ _) h
    · exact h.elim
  case call c =>
    obtain ⟨callee, args, argTypes⟩ := c
    cases callee <;> simp only [] at h ⊢
    case value x =>
      refine ho (by simp [Op.operands, Call.operands]) (fun s h => ?_) h
      split at h
      rotate_left
      · exact h.elim
      refine hos (by intro x hx; simp [Op.operands, Call.operands]; exact .inr (by simpa using hx)) (fun ss h => ?_) h
      split at h
      · exact h.elim
      · obtain ⟨hs, em, fz, h⟩ := h
        refine ⟨hs, em, fz, tt_m (lendSs_m fun ss lent h => lendCaps_m (fun caps l2 h => giveK_m (fun regs cs l3 h => app_m (fun l4 h => app_m (fun l5 h => memK_m (fun mems h => ?_) h) h) h) h) h) h⟩
        obtain ⟨r, out, hR, h⟩ := h
        exact ⟨r, out, hR, lenK_m (fun n h => Dt.take.m (fun outs h => Dt.drop.m (fun rest h => Dt.take.m (fun ms h => Dt.drop.m (fun new h => tt_m (fun h => lostK_m (fun inv h => lentK_m (fun fr h => lenK_m (fun m h => hk _ _ _ _ h) h) h) h) h) h) h) h) h) h⟩
    case builtin b =>
      cases b <;> simp only [] at h ⊢
      case clear =>
        refine hos (by intro x hx; simpa [Op.operands, Call.operands] using hx) (fun ss h => ?_) h
        split at h
        · split at h
          · refine nth_m (fun r h => ?_) h
            cases r <;> first | exact tt_m (hk _ _ _ _) h | exact h.elim
          · exact h.elim
        · exact h.elim
      case append =>
        refine hos (by intro x hx; simpa [Op.operands, Call.operands] using hx) (fun ss h => ?_) h
        split at h
        · split at h
          · refine nth_m (fun r h => ?_) h
            cases r <;> try exact h.elim
            obtain ⟨key, L, h⟩ := h
            exact ⟨key, L, ob_m (fun h => rowK_m (fun sz' M h => tt_m (ob_m fun h => lenK_m (fun n => hk _ _ _ _) h) h) h) h⟩
          · exact h.elim
        · split at h
          · split at h
            · split at h
              · refine nth_m (fun r h => ?_) h
                split at h
                · exact baseT_m (fun x sz L fr h => tt_m (ob_m fun h => app_m (fun us h => hk _ _ _ _ h) h) h) h
                · exact h.elim
              · exact h.elim
            refine baseK_m (fun x sz L h => rowK_m (fun sz' M h => tt_m (ob_m fun h => ?_) h) h) h
            cases x with
            | none => exact lenK_m (fun n => hk _ _ _ _) h
            | some x => exact hk _ _ _ _ h
          · exact h.elim
        · exact h.elim
end
end Go.Proofs.YtphmcgmblkbijaaVY
