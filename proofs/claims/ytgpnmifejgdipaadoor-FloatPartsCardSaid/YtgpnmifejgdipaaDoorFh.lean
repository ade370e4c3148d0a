/-
  The float seat's contracts by VX: types, words. By the session's own hand.
-/
import Derived.Test.YtgpnmifejgdipaaDoorVx16
import Derived.Test.YtgpnmifejgdipaaDoorProg
import Derived.Test.YtgpnmifejgdipaaDoorDf
import Derived.Test.YtgpnmifejgdipaaDoorShelf
import Derived.KernelRfl
import Derived.Below
namespace Go.Proofs.YtgpnmifejgdipaaDoor.Fx
open Go.Proofs.YtgpnmifejgdipaaDoorVX Go.RowKit Go.Proofs.YtgpnmifejgdipaaDoor.My Go.Proofs.YtgpnmifejgdipaaDoorW Go.Proofs.YtgpnmifejgdipaaDoorW.PrintMore
set_option linter.unusedVariables false
set_option linter.unusedSimpArgs false
set_option maxRecDepth 100000
theorem cond_t (c a b : Bool) : ((bif c then a else b) = true) = ((c = true ∧ a = true) ∨ (c = false ∧ b = true)) := by cases c <;> simp
theorem cond_f (c a b : Bool) : ((bif c then a else b) = false) = ((c = true ∧ a = false) ∨ (c = false ∧ b = false)) := by cases c <;> simp
def bytes (l : List Int) : List (List D) := l.map fun n => [.int .u8 n]
theorem bytes_len (l : List Int) : (bytes l).length = l.length := by simp [bytes]
theorem bytes_get {l : List Int} {i : Int} (h : 0 ≤ i) (h' : i < l.length) : (bytes l)[i.toNat]? = some [.int .u8 (PrintWords.rd l i)] := by
  have : i.toNat < l.length := by omega
  simp [bytes, PrintWords.rd, this]
theorem ite_out {c : Prop} [Decidable c] {α : Type} {a b : Option α} {r : α} (h : (if c then a else b) = some r) : (c ∧ a = some r) ∨ (¬ c ∧ b = some r) := by
  by_cases e : c
  · rw [if_pos e] at h; exact .inl ⟨e, h⟩
  · rw [if_neg e] at h; exact .inr ⟨e, h⟩
theorem ite_t {c : Prop} [Decidable c] {α : Type} {a b : Option α} {r : α} (h : (if c then a else b) = some r) (hc : c) : a = some r := by rw [if_pos hc] at h; exact h
theorem ite_f {c : Prop} [Decidable c] {α : Type} {a b : Option α} {r : α} (h : (if c then a else b) = some r) (hc : ¬ c) : b = some r := by rw [if_neg hc] at h; exact h
theorem jstep {α : Type} {f : Nat → Option α} {k : Nat} {r : α} (h : f k = some r) (h0 : f 0 = none) : ∃ m, k = m + 1 := by
  cases k with
  | zero => rw [h0] at h; cases h
  | succ m => exact ⟨m, rfl⟩
theorem cutI {Γ : Cx} {a b : Code} {σ : St} {K : Ex → St → Prop} (i : Nat) (L : List Nat) (nh : Nat) (I : St → Prop) (hb : firstR b = some i) (h : vcCode Γ a σ (fun
      | .normal, σ => σ.keepK L nh I
      | e, σ => K e σ) ∧ ∀ σ, I σ → vcCode Γ b σ K) : ∃ (L : List Nat) (nh : Nat) (I : St → Prop), vcCode Γ a σ (fun
      | .normal, σ => σ.keepK L nh I
      | e, σ => K e σ) ∧ ∀ σ, I σ → vcCode Γ b σ K := ⟨L, nh, I, h⟩
theorem lenpos (n : Nat) : decide ((n : Int) > 0) = decide (0 < n) := by
  by_cases h : 0 < n
  · rw [decide_eq_true h, decide_eq_true (show (n : Int) > 0 by omega)]
  · rw [decide_eq_false h, decide_eq_false (show ¬ (n : Int) > 0 by omega)]
theorem or_fn {a b g : Prop} (h1 : a → g) (h2 : b → g) : a ∨ b → g := fun h => Or.elim h h1 h2
theorem and_fn {a b g : Prop} (h : a → b → g) : a ∧ b → g := fun H => h H.1 H.2
theorem bytes_nil : bytes [] = [] := rfl
theorem bytes_snoc (l : List Int) (v : Int) : bytes l ++ [[.int .u8 v]] = bytes (l ++ [v]) := by simp [bytes]
theorem bytes_cons (l : List Int) (v : Int) : [.int .u8 v] :: bytes l = bytes (v :: l) := rfl
theorem bytes_app (l m : List Int) : bytes l ++ bytes m = bytes (l ++ m) := by simp [bytes]
theorem bytes_rep (n : Nat) (v : Int) : List.replicate n [D.int .u8 v] = bytes (List.replicate n v) := by simp [bytes]
theorem bytes_set (l : List Int) (i : Nat) (v : Int) : (bytes l).set i [.int .u8 v] = bytes (l.set i v) := by simp [bytes, List.map_set]
theorem bytes_take (l : List Int) (i : Nat) : (bytes l).take i = bytes (l.take i) := by simp [bytes]
theorem bytes_drop (l : List Int) (i : Nat) : (bytes l).drop i = bytes (l.drop i) := by simp [bytes]
theorem tmod_256 (a n : Int) : Int.tmod (a % 256) n = a % 256 % n := Int.tmod_eq_emod_of_nonneg (by omega)
theorem tdiv_256 (a n : Int) : Int.tdiv (a % 256) n = a % 256 / n := Int.tdiv_eq_ediv_of_nonneg (by omega)
theorem tmod_64 (a n : Int) : Int.tmod (a % 18446744073709551616) n = a % 18446744073709551616 % n := Int.tmod_eq_emod_of_nonneg (by omega)
theorem tdiv_64 (a n : Int) : Int.tdiv (a % 18446744073709551616) n = a % 18446744073709551616 / n := Int.tdiv_eq_ediv_of_nonneg (by omega)
theorem shr_1 (x : Int) : x / 2 ^ min (Int.toNat 1) IntKind.u64.bits = x / 2 := rfl
theorem shr_32 (x : Int) : x / 2 ^ min (Int.toNat 32) IntKind.u64.bits = x / 4294967296 := rfl
theorem shl_63 (x : Int) : x * 2 ^ min (Int.toNat 63) IntKind.u64.bits = x * 9223372036854775808 := rfl
theorem u8w (n : Int) : IntKind.u8.wrap n = n % 256 := by simp [IntKind.wrap_u8]
theorem bind_detm {α β : Type} {g : Nat → Option α} (m : ∀ k, PrintWords.LeO (g k) (g (k + 1))) {k k2 : Nat} {f : α → Option β} {b : β} {a : α} (h : (g k).bind f = some b) (ho : g k2 = some a) : f a = some b := by
  have up : ∀ (d k : Nat) (x : α), g k = some x → g (k + d) = some x := by
    intro d
    induction d with
    | zero => intro k x h; exact h
    | succ d ih => intro k x h; exact m _ _ (ih k x h)
  obtain ⟨x, hx, h⟩ := Option.bind_eq_some_iff.1 h
  have h1 := up k2 k x hx
  have h2 := up k k2 a ho
  rw [Nat.add_comm] at h2
  rw [h1] at h2
  cases h2
  exact h
theorem sx : (∀ l : List Int, (bytes l).length = l.length) ∧ (∀ l : List UInt8, (ByteArray.mk l.toArray).toList = l) ∧ (∀ x : Int, x / 2 ^ min (Int.toNat 1) IntKind.u64.bits = x / 2) ∧ (∀ x : Int, x / 2 ^ min (Int.toNat 32) IntKind.u64.bits = x / 4294967296) ∧ (∀ x : Int, x * 2 ^ min (Int.toNat 63) IntKind.u64.bits = x * 9223372036854775808) ∧
  (∀ {α : Type} (a : α) (l : List α), (a :: l).length = l.length + 1) ∧ (∀ {α : Type}, ([] : List α).length = 0) ∧ (∀ {α : Type} (l m : List α), (l ++ m).length = l.length + m.length) ∧ (∀ {α : Type} (n : Nat) (a : α), (List.replicate n a).length = n) ∧ (∀ {α : Type} (n : Nat) (l : List α), (l.take n).length = min n l.length) ∧ (∀ {α : Type} (n : Nat) (l : List α), (l.drop n).length = l.length - n) ∧ (∀ {α : Type} (l : List α) (n : Nat) (a : α), (l.set n a).length = l.length) ∧
  (∀ c a b : Bool, ((bif c then a else b) = true) = ((c = true ∧ a = true) ∨ (c = false ∧ b = true))) ∧ (∀ c a b : Bool, ((bif c then a else b) = false) = ((c = true ∧ a = false) ∨ (c = false ∧ b = false))) ∧
  (∀ b : Bool, (¬ b = false) = (b = true)) ∧ (∀ b : Bool, (¬ b = true) = (b = false)) ∧ (∀ {α : Type} [BEq α] [LawfulBEq α] (a b : α), (a == b) = true ↔ a = b) ∧ (∀ {α : Type} [BEq α] [LawfulBEq α] (a b : α), (a != b) = true ↔ a ≠ b) ∧ (∀ {α : Type} (a b : α), (a ≠ b) = ¬ a = b) ∧ (∀ (p : Prop) [Decidable p], (decide p = true) = p) ∧ (∀ (p : Prop) [Decidable p], (decide p = false) ↔ ¬ p) ∧
  (∀ {α : Type} [BEq α] [LawfulBEq α] (a b : α), (a == b) = false ↔ a ≠ b) ∧ (∀ {α : Type} [BEq α] [LawfulBEq α] (a b : α), (a != b) = false ↔ a = b) ∧ (∀ b : Bool, ((!b) = true) = (b = false)) ∧ (∀ b : Bool, ((!b) = false) = (b = true)) ∧ (∀ a b : Bool, ((a && b) = true) = (a = true ∧ b = true)) ∧ (∀ a b : Bool, ((a || b) = true) = (a = true ∨ b = true)) ∧
  (∀ a b : Int, (a ≥ b) ↔ b ≤ a) ∧ (∀ a b : Int, (a > b) ↔ b < a) ∧ (∀ a b : Nat, (a ≥ b) ↔ b ≤ a) ∧ (∀ a b : Nat, (a > b) ↔ b < a) ∧ (∀ a b : Int, (¬ a < b) ↔ b ≤ a) ∧ (∀ a b : Int, (¬ a ≤ b) ↔ b < a) ∧ (∀ p : Prop, (¬ ¬ p) ↔ p) :=
  ⟨bytes_len, ByteArray.toList_mk, shr_1, shr_32, shl_63, fun _ _ => List.length_cons, List.length_nil, fun _ _ => List.length_append, fun _ _ => List.length_replicate, fun _ _ => List.length_take, fun _ _ => List.length_drop, fun _ _ _ => List.length_set, cond_t, cond_f, Bool.not_eq_false, Bool.not_eq_true, fun _ _ => beq_iff_eq, fun _ _ => bne_iff_ne, fun _ _ => rfl, fun _ _ => decide_eq_true_eq, fun _ _ => decide_eq_false_iff_not, fun _ _ => beq_eq_false_iff_ne, fun _ _ => bne_eq_false_iff_eq, Bool.not_eq_true', Bool.not_eq_false', Bool.and_eq_true, Bool.or_eq_true, fun _ _ => Iff.rfl, fun _ _ => Iff.rfl, fun _ _ => Iff.rfl, fun _ _ => Iff.rfl, fun _ _ => Int.not_lt, fun _ _ => Int.not_le, fun _ => Classical.not_not⟩
theorem bx : (wrap64 (16 + 8) = 16 + 8) ∧ (∀ l : List Int, (bytes l).length = l.length) ∧ (∀ n : Nat, (n : Int).toNat = n) ∧ (∀ {α : Type} (l : List α), l.take l.length = l) ∧ (∀ {α : Type} (a : α) (l m : List α), (a :: l) ++ m = a :: (l ++ m)) ∧ (∀ {α : Type} (l : List α), [] ++ l = l) ∧ (∀ (l : List Int) (v : Int), bytes l ++ [[.int .u8 v]] = bytes (l ++ [v])) ∧ (∀ (l : List Int) (v : Int), [.int .u8 v] :: bytes l = bytes (v :: l)) ∧ (∀ l m : List Int, bytes l ++ bytes m = bytes (l ++ m)) ∧ (∀ (n : Nat) (v : Int), List.replicate n [D.int .u8 v] = bytes (List.replicate n v)) ∧ (∀ (l : List Int) (i : Nat) (v : Int), (bytes l).set i [.int .u8 v] = bytes (l.set i v)) ∧ (∀ (l : List Int) (i : Nat), (bytes l).take i = bytes (l.take i)) ∧ (∀ (l : List Int) (i : Nat), (bytes l).drop i = bytes (l.drop i)) ∧ bytes [] = [] :=
  ⟨by simp [wrap64], bytes_len, Int.toNat_natCast, fun _ => List.take_length, fun _ _ _ => List.cons_append, List.nil_append, bytes_snoc, bytes_cons, bytes_app, bytes_rep, bytes_set, bytes_take, bytes_drop, bytes_nil⟩
theorem ax : (∀ a n : Int, Int.tmod (a % 256) n = a % 256 % n) ∧ (∀ a n : Int, Int.tdiv (a % 256) n = a % 256 / n) ∧ (∀ a n : Int, Int.tmod (a % 18446744073709551616) n = a % 18446744073709551616 % n) ∧ (∀ a n : Int, Int.tdiv (a % 18446744073709551616) n = a % 18446744073709551616 / n) ∧ (∀ x : Int, x / 2 ^ min (Int.toNat 1) IntKind.u64.bits = x / 2) ∧ (∀ x : Int, x / 2 ^ min (Int.toNat 32) IntKind.u64.bits = x / 4294967296) ∧ (∀ x : Int, x * 2 ^ min (Int.toNat 63) IntKind.u64.bits = x * 9223372036854775808) ∧ (∀ n : Int, IntKind.u8.wrap n = n % 256) := ⟨tmod_256, tdiv_256, tmod_64, tdiv_64, shr_1, shr_32, shl_63, u8w⟩
theorem sub_lo (x y c : Int) : 0 ≤ subB x y c := by unfold subB; omega
theorem sub_hi (x y c : Int) : subB x y c ≤ 1 := by unfold subB; split <;> simp
theorem HpRel_nil (X : Nat → Prop) (w : World) : HpRel X [] [] w := ⟨rfl, fun _ _ _ h => by simp at h, fun _ _ _ _ _ _ _ h => by simp at h, fun b ⟨_, _, _, h, _⟩ => by simp at h⟩
/-- a contract of the shelf -/
theorem shelved {f : Nat} {R : Ct} (he : enterB Tryd.prog f = true) (h : ∀ ss r new, R ss r new → new = [] ∧ ∃ v : Value, (∀ ρ A w, SRel ρ A w v r) ∧ ∀ (X : Nat → Prop) (w : World) (args : Array Value), All2 (SRel [] X w) args.toList ss → Calls Tryd.prog f args w fun e w' => e = .returned v ∧ w' = w) : VSound Tryd.prog (f, R) := by
  refine .inl ⟨fun X w args ss r new hG hX ha hR => ?_, enterB_ok he⟩
  obtain ⟨rfl, v, hv, hc⟩ := h ss r new hR
  refine (hc X w args ha).mono ?_
  rintro e w' ⟨rfl, rfl⟩
  exact ⟨v, [], rfl, hv _ _ _, HpRel_nil X _, Nat.le_refl _, Str.refl _, fun _ _ => rfl, fun b ⟨_, _, _, h, _⟩ => by simp at h⟩
theorem bind_det {α β : Type} {o : Option α} {f : α → Option β} {b : β} {a : α} (h : o.bind f = some b) (ho : o = some a) : f a = some b := by subst ho; exact h
theorem bS11 {α0 α1 α2 α3 α4 α5 α6 α7 α8 α9 α10 β : Type} {o : Option (α0 × α1 × α2 × α3 × α4 × α5 × α6 × α7 × α8 × α9 × α10)} {f : α0 × α1 × α2 × α3 × α4 × α5 × α6 × α7 × α8 × α9 × α10 → Option β} {b : β} (h : o.bind f = some b) : ∃ x0 x1 x2 x3 x4 x5 x6 x7 x8 x9 x10, o = some (x0, x1, x2, x3, x4, x5, x6, x7, x8, x9, x10) ∧ f (x0, x1, x2, x3, x4, x5, x6, x7, x8, x9, x10) = some b := by
  obtain ⟨⟨x0, x1, x2, x3, x4, x5, x6, x7, x8, x9, x10⟩, h1, h2⟩ := Option.bind_eq_some_iff.1 h
  exact ⟨_, _, _, _, _, _, _, _, _, _, _, h1, h2⟩
theorem bS5 {α0 α1 α2 α3 α4 β : Type} {o : Option (α0 × α1 × α2 × α3 × α4)} {f : α0 × α1 × α2 × α3 × α4 → Option β} {b : β} (h : o.bind f = some b) : ∃ x0 x1 x2 x3 x4, o = some (x0, x1, x2, x3, x4) ∧ f (x0, x1, x2, x3, x4) = some b := by
  obtain ⟨⟨x0, x1, x2, x3, x4⟩, h1, h2⟩ := Option.bind_eq_some_iff.1 h
  exact ⟨_, _, _, _, _, h1, h2⟩
theorem bS4 {α0 α1 α2 α3 β : Type} {o : Option (α0 × α1 × α2 × α3)} {f : α0 × α1 × α2 × α3 → Option β} {b : β} (h : o.bind f = some b) : ∃ x0 x1 x2 x3, o = some (x0, x1, x2, x3) ∧ f (x0, x1, x2, x3) = some b := by
  obtain ⟨⟨x0, x1, x2, x3⟩, h1, h2⟩ := Option.bind_eq_some_iff.1 h
  exact ⟨_, _, _, _, h1, h2⟩
theorem bS3 {α0 α1 α2 β : Type} {o : Option (α0 × α1 × α2)} {f : α0 × α1 × α2 → Option β} {b : β} (h : o.bind f = some b) : ∃ x0 x1 x2, o = some (x0, x1, x2) ∧ f (x0, x1, x2) = some b := by
  obtain ⟨⟨x0, x1, x2⟩, h1, h2⟩ := Option.bind_eq_some_iff.1 h
  exact ⟨_, _, _, h1, h2⟩
theorem bS2 {α0 α1 β : Type} {o : Option (α0 × α1)} {f : α0 × α1 → Option β} {b : β} (h : o.bind f = some b) : ∃ x0 x1, o = some (x0, x1) ∧ f (x0, x1) = some b := by
  obtain ⟨⟨x0, x1⟩, h1, h2⟩ := Option.bind_eq_some_iff.1 h
  exact ⟨_, _, h1, h2⟩
def ty : List (Nat × TI) := [
  (1, ⟨.sca none, 1, [(C.d (.val .nilFunc))]⟩),
  (2, ⟨.sca (some .i64), 1, [(C.d (.int .i64 0))]⟩),
  (3, ⟨.sca (some .i64), 1, [(C.d (.int .i64 0))]⟩),
  (4, ⟨.bool, 1, [(C.d (.bool false))]⟩),
  (5, ⟨.sca (some .u8), 1, [(C.d (.int .u8 0))]⟩),
  (6, ⟨.sca (some .u8), 1, [(C.d (.int .u8 0))]⟩),
  (7, ⟨.agg [(0, 1, false), (1, 1, false), (2, 1, false), (3, 1, false)], 4, [(C.d (.int .i64 0)), (C.d (.int .i64 0)), (C.d (.bool false)), (C.d (.int .u8 0))]⟩),
  (8, ⟨.agg [(0, 1, false), (1, 1, false), (2, 1, false), (3, 1, false)], 4, [(C.d (.int .i64 0)), (C.d (.int .i64 0)), (C.d (.bool false)), (C.d (.int .u8 0))]⟩),
  (9, ⟨.str, 1, [(C.d (.str ByteArray.empty))]⟩),
  (10, ⟨.str, 1, [(C.d (.str ByteArray.empty))]⟩),
  (11, ⟨.str, 1, [(C.d (.str ByteArray.empty))]⟩),
  (12, ⟨.sca (some .u64), 1, [(C.d (.int .u64 0))]⟩),
  (13, ⟨.agg [(0, 1, false), (1, 1, false)], 2, [(C.d (.str ByteArray.empty)), (C.d (.int .u64 0))]⟩),
  (14, ⟨.agg [(0, 1, false), (1, 1, false)], 2, [(C.d (.str ByteArray.empty)), (C.d (.int .u64 0))]⟩),
  (15, ⟨.sca none, 1, [(C.d (.val (.pointer none)))]⟩),
  (16, ⟨.sca none, 1, [(C.d (.val (.pointer none)))]⟩),
  (17, ⟨.sca none, 1, [(C.d (.val (.pointer none)))]⟩),
  (18, ⟨.agg [(0, 1, false)], 1, [(C.d (.val (.pointer none)))]⟩),
  (19, ⟨.agg [(0, 1, false)], 1, [(C.d (.val (.pointer none)))]⟩),
  (20, ⟨.sca none, 1, [(C.d (.val .nilIface))]⟩),
  (21, ⟨.sca (some .i32), 1, [(C.d (.int .i32 0))]⟩),
  (22, ⟨.sca (some .i64), 1, [(C.d (.int .i64 0))]⟩),
  (24, ⟨.sca none, 1, [(C.d (.val .nilFunc))]⟩),
  (26, ⟨.sca none, 1, [(C.d (.val .nilFunc))]⟩),
  (27, ⟨.sca none, 1, [(C.d (.val .nilFunc))]⟩),
  (28, ⟨.sca none, 1, [(C.d (.val .nilFunc))]⟩),
  (29, ⟨.sca none, 1, [(C.d (.val .nilFunc))]⟩),
  (31, ⟨.sca none, 1, [(C.d (.val .nilFunc))]⟩),
  (32, ⟨.sca none, 1, [(C.d (.val .nilFunc))]⟩),
  (33, ⟨.sca none, 1, [(C.d (.val .nilFunc))]⟩),
  (34, ⟨.agg [(0, 1, false), (1, 1, false)], 2, [(C.d (.int .i64 0)), (C.d (.int .i64 0))]⟩),
  (35, ⟨.agg [(0, 1, false), (1, 1, false)], 2, [(C.d (.int .i64 0)), (C.d (.int .i64 0))]⟩),
  (36, ⟨.sca (some .u64), 1, [(C.d (.int .u64 0))]⟩),
  (37, ⟨.agg [(0, 1, false), (1, 1, false), (2, 1, false), (3, 1, false)], 4, [(C.d (.int .i64 0)), (C.d (.int .i64 0)), (C.d (.int .u64 0)), (C.d (.int .i64 0))]⟩),
  (38, ⟨.agg [(0, 1, false), (1, 1, false), (2, 1, false), (3, 1, false)], 4, [(C.d (.int .i64 0)), (C.d (.int .i64 0)), (C.d (.int .u64 0)), (C.d (.int .i64 0))]⟩),
  (40, ⟨.sca none, 1, [(C.d (.val .nilFunc))]⟩),
  (41, ⟨.sca none, 1, [(C.d (.val .nilFunc))]⟩),
  (42, ⟨.sl 5 1 1 [(.int .u8 0)], 1, [(.emp 1)]⟩),
  (43, ⟨.sl 5 1 1 [(.int .u8 0)], 1, [(.emp 1)]⟩),
  (44, ⟨.agg [(0, 1, false), (1, 1, false), (2, 1, false), (3, 1, false)], 4, [(C.d (.str ByteArray.empty)), (C.d (.int .i64 0)), (.emp 1), (C.d (.int .i64 0))]⟩),
  (45, ⟨.agg [(0, 1, false), (1, 1, false), (2, 1, false), (3, 1, false)], 4, [(C.d (.str ByteArray.empty)), (C.d (.int .i64 0)), (.emp 1), (C.d (.int .i64 0))]⟩),
  (46, ⟨.sca none, 1, [(C.d (.val .nilFunc))]⟩),
  (47, ⟨.sca none, 1, [(C.d (.val .nilFunc))]⟩),
  (48, ⟨.sca none, 1, [(C.d (.val .nilFunc))]⟩),
  (49, ⟨.sca none, 1, [(C.d (.val .nilFunc))]⟩),
  (50, ⟨.sca none, 1, [(C.d (.val .nilFunc))]⟩),
  (59, ⟨.agg [(0, 1, false), (1, 1, false), (2, 1, false), (3, 1, false)], 4, [(C.d (.int .u64 0)), (C.d (.int .u64 0)), (C.d (.int .i64 0)), (C.d (.bool false))]⟩)]
theorem tyOk : (ty.all fun x => chkTI Tryd.prog x.1 x.2) = true := by kernel_rfl
theorem mix : Tryd.prog.follows .mixedOrders = true := by kernel_rfl
theorem law_row {f : Nat} {R : Ct} (h : VSound Tryd.prog (f, R)) (he : enterB Tryd.prog f = true) {W : World} {args : Array Value} {ss : List S} (hG : GP (fun _ => False) W) (ha : All2 (SRel [] (fun _ => False) W) args.toList ss) (hR : R ss (.db true) []) :
    Calls Tryd.prog f args W fun e W' => e = .returned (.bool true) ∧ Below W.heap.size W W' := by
  rcases h with ⟨ho, _⟩ | hx
  · refine (ho (fun _ => False) W args ss (.db true) [] hG (fun _ h => h.elim) ha hR).mono ?_
    rintro e w' ⟨v, ρ, rfl, hs, hh, hg, hst, hsame, _⟩
    exact ⟨by rw [sdb_inv hs], hst.os, hst.tape, hst.output, hg, hsame⟩
  · obtain ⟨v, ρ, w', hrun, _⟩ := hx (fun _ => False) W args ss (.db true) [] hG (fun _ h => h.elim) ha hR
    rw [run_enter (enterB_ok he) args] at hrun
    cases hrun
end Go.Proofs.YtgpnmifejgdipaaDoor.Fx
