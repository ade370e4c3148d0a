import Derived.Test.YtahdihhhankhdaaVy17
import Derived.Test.YtahdihhhankhdaaProg
import Derived.KernelRfl
set_option linter.unusedVariables false
set_option linter.unusedSimpArgs false
set_option maxRecDepth 100000
set_option linter.all false
set_option linter.unnecessarySimpa false
set_option linter.deprecated false
namespace Go.Proofs.Ytahdihhhankhdaa.V
open Go.Proofs.YtahdihhhankhdaaVY Go.RowKit
def ty : List (Nat × TI) := [
  (1, ⟨.sca none, 1, [(C.d (.val .nilFunc))]⟩),
  (2, ⟨.sca (some .i64), 1, [(C.d (.int .i64 0))]⟩),
  (3, ⟨.sca (some .i64), 1, [(C.d (.int .i64 0))]⟩),
  (4, ⟨.bool, 1, [(C.d (.bool false))]⟩),
  (5, ⟨.sca (some .u8), 1, [(C.d (.int .u8 0))]⟩),
  (6, ⟨.sca (some .u8), 1, [(C.d (.int .u8 0))]⟩),
  (7, ⟨.agg [(0, 1, false), (1, 1, false), (2, 1, false), (3, 1, false)], 4, [(C.d (.int .i64 0)), (C.d (.int .i64 0)), (C.d (.bool false)), (C.d (.int .u8 0))]⟩),
  (8, ⟨.agg [(0, 1, false), (1, 1, false), (2, 1, false), (3, 1, false)], 4, [(C.d (.int .i64 0)), (C.d (.int .i64 0)), (C.d (.bool false)), (C.d (.int .u8 0))]⟩),
  (9, ⟨.str, 1, [(C.d (.str ByteArray.empty))]⟩),
  (10, ⟨.str, 1, [(C.d (.str ByteArray.empty))]⟩),
  (11, ⟨.str, 1, [(C.d (.str ByteArray.empty))]⟩),
  (12, ⟨.sca (some .u64), 1, [(C.d (.int .u64 0))]⟩),
  (13, ⟨.agg [(0, 1, false), (1, 1, false)], 2, [(C.d (.str ByteArray.empty)), (C.d (.int .u64 0))]⟩),
  (14, ⟨.agg [(0, 1, false), (1, 1, false)], 2, [(C.d (.str ByteArray.empty)), (C.d (.int .u64 0))]⟩),
  (15, ⟨.sca none, 1, [(C.d (.val (.pointer none)))]⟩),
  (16, ⟨.sca none, 1, [(C.d (.val (.pointer none)))]⟩),
  (17, ⟨.sca none, 1, [(C.d (.val (.pointer none)))]⟩),
  (18, ⟨.agg [(0, 1, false)], 1, [(C.d (.val (.pointer none)))]⟩),
  (19, ⟨.agg [(0, 1, false)], 1, [(C.d (.val (.pointer none)))]⟩),
  (20, ⟨.sca none, 1, [(C.d (.val .nilIface))]⟩),
  (21, ⟨.sca (some .i32), 1, [(C.d (.int .i32 0))]⟩),
  (22, ⟨.sl 3 1 8 [(.int .i64 0)], 1, [(.emp 1)]⟩),
  (23, ⟨.sl 76 11 160 [(.int .i64 0), (.int .i64 0), (D.sl 1 []), (D.sl 7 []), (.str ByteArray.empty), (.int .i64 0), (.int .i64 0), (.int .i64 0), (.int .i64 0), (D.sl 1 []), (D.sl 7 [])], 1, [(.emp 11)]⟩),
  (24, ⟨.agg [(0, 1, false), (1, 1, false)], 2, [(.emp 1), (.emp 11)]⟩),
  (25, ⟨.agg [(0, 1, false), (1, 1, false)], 2, [(.emp 1), (.emp 11)]⟩),
  (26, ⟨.sca (some .i64), 1, [(C.d (.int .i64 0))]⟩),
  (28, ⟨.sca none, 1, [(C.d (.val .nilFunc))]⟩),
  (29, ⟨.sca none, 1, [(C.d (.val .nilFunc))]⟩),
  (30, ⟨.sca none, 1, [(C.d (.val .nilFunc))]⟩),
  (31, ⟨.sca none, 1, [(C.d (.val .nilFunc))]⟩),
  (33, ⟨.sca none, 1, [(C.d (.val .nilFunc))]⟩),
  (34, ⟨.sl 4 1 1 [(.bool false)], 1, [(.emp 1)]⟩),
  (36, ⟨.sca none, 1, [(C.d (.val .nilFunc))]⟩),
  (37, ⟨.sca none, 1, [(C.d (.val .nilFunc))]⟩),
  (38, ⟨.sca none, 1, [(C.d (.val .nilFunc))]⟩),
  (39, ⟨.sl 22 1 24 [(D.sl 1 [])], 1, [(.emp 1)]⟩),
  (41, ⟨.sca none, 1, [(C.d (.val .nilFunc))]⟩),
  (42, ⟨.sca none, 1, [(C.d (.val .nilFunc))]⟩),
  (43, ⟨.sl 85 10 104 [(.str ByteArray.empty), (.int .i64 0), (.int .i64 0), (.int .i64 0), (.int .i64 0), (.int .i64 0), (.int .i64 0), (.int .i64 0), (.int .i64 0), (D.sl 1 [])], 1, [(.emp 10)]⟩),
  (45, ⟨.sca none, 1, [(C.d (.val .nilFunc))]⟩),
  (46, ⟨.sca none, 1, [(C.d (.val .nilFunc))]⟩),
  (47, ⟨.sca none, 1, [(C.d (.val .nilFunc))]⟩),
  (48, ⟨.sca none, 1, [(C.d (.val .nilFunc))]⟩),
  (49, ⟨.agg [(0, 1, false), (1, 1, false), (2, 1, false)], 3, [(.emp 1), (.emp 1), (.emp 1)]⟩),
  (50, ⟨.agg [(0, 1, false), (1, 1, false), (2, 1, false)], 3, [(.emp 1), (.emp 1), (.emp 1)]⟩),
  (51, ⟨.sca none, 1, [(C.d (.val .nilFunc))]⟩),
  (52, ⟨.sca none, 1, [(C.d (.val .nilFunc))]⟩),
  (53, ⟨.sca none, 1, [(C.d (.val .nilFunc))]⟩),
  (61, ⟨.sl 25 2 48 [(D.sl 1 []), (D.sl 11 [])], 1, [(.emp 2)]⟩),
  (71, ⟨.agg [(0, 1, false), (1, 1, false), (2, 1, false)], 3, [(C.d (.int .i64 0)), (C.d (.int .i64 0)), (.emp 1)]⟩),
  (72, ⟨.sl 74 7 96 [(.str ByteArray.empty), (.int .i64 0), (.int .i64 0), (.int .i64 0), (.int .i64 0), (D.sl 1 []), (D.sl 7 [])], 1, [(.emp 7)]⟩),
  (74, ⟨.agg [(0, 1, false), (1, 1, false), (2, 1, false), (3, 3, true), (6, 1, false)], 7, [(C.d (.str ByteArray.empty)), (C.d (.int .i64 0)), (C.d (.int .i64 0)), (C.d (.int .i64 0)), (C.d (.int .i64 0)), (.emp 1), (.emp 7)]⟩),
  (76, ⟨.agg [(0, 3, true), (3, 1, false), (4, 7, true)], 11, [(C.d (.int .i64 0)), (C.d (.int .i64 0)), (.emp 1), (.emp 7), (C.d (.str ByteArray.empty)), (C.d (.int .i64 0)), (C.d (.int .i64 0)), (C.d (.int .i64 0)), (C.d (.int .i64 0)), (.emp 1), (.emp 7)]⟩),
  (77, ⟨.sca none, 1, [(C.d (.val .nilFunc))]⟩),
  (81, ⟨.sca none, 1, [(C.d (.val (.pointer none)))]⟩),
  (83, ⟨.agg [(0, 1, false), (1, 1, false)], 2, [(.emp 10), (C.d (.int .i64 0))]⟩),
  (85, ⟨.agg [(0, 1, false), (1, 1, false), (2, 1, false), (3, 1, false), (4, 1, false), (5, 1, false), (6, 1, false), (7, 3, true)], 10, [(C.d (.str ByteArray.empty)), (C.d (.int .i64 0)), (C.d (.int .i64 0)), (C.d (.int .i64 0)), (C.d (.int .i64 0)), (C.d (.int .i64 0)), (C.d (.int .i64 0)), (C.d (.int .i64 0)), (C.d (.int .i64 0)), (.emp 1)]⟩),
  (101, ⟨.sl 71 3 40 [(.int .i64 0), (.int .i64 0), (D.sl 1 [])], 1, [(.emp 3)]⟩),
  (105, ⟨.sca none, 1, [(C.d (.val .nilFunc))]⟩),
  (109, ⟨.sca none, 1, [(C.d (.val (.pointer none)))]⟩),
  (111, ⟨.agg [(0, 1, false), (1, 1, false)], 2, [(.emp 10), (C.d (.int .i64 0))]⟩),
  (112, ⟨.arr 3 1 false, 3, [(C.d (.int .i64 0)), (C.d (.int .i64 0)), (C.d (.int .i64 0))]⟩),
  (114, ⟨.sca none, 1, [(C.d (.val .nilFunc))]⟩),
  (115, ⟨.sca none, 1, [(C.d (.val .nilFunc))]⟩),
  (118, ⟨.map (C.d (.bool false)), 1, [.junk]⟩),
  (130, ⟨.sl 131 2 16 [(.int .i64 0), (.int .i64 0)], 1, [(.emp 2)]⟩),
  (131, ⟨.arr 2 1 false, 2, [(C.d (.int .i64 0)), (C.d (.int .i64 0))]⟩),
  (133, ⟨.sca none, 1, [(C.d (.val .nilFunc))]⟩),
  (150, ⟨.sca (some .u64), 1, [(C.d (.int .u64 0))]⟩),
  (152, ⟨.map (.emp 1), 1, [.junk]⟩),
  (155, ⟨.sca (some .i64), 1, [(C.d (.int .i64 0))]⟩),
  (164, ⟨.sca (some .u32), 1, [(C.d (.int .u32 0))]⟩),
  (166, ⟨.sca (some .u64), 1, [(C.d (.int .u64 0))]⟩),
  (167, ⟨.sca (some .u64), 1, [(C.d (.int .u64 0))]⟩),
  (171, ⟨.sca none, 1, [(C.d (.val (.pointer none)))]⟩),
  (173, ⟨.sca none, 1, [(C.d (.val (.pointer none)))]⟩)]
theorem tyOk : (ty.all fun x => chkTI Try.prog x.1 x.2) = true := by kernel_rfl
theorem mix : Try.prog.follows .mixedOrders = true := by kernel_rfl
theorem bif_t (c a b : Bool) : ((bif c then a else b) = true) = ((c = true ∧ a = true) ∨ (c = false ∧ b = true)) := by cases c <;> simp
theorem bif_f (c a b : Bool) : ((bif c then a else b) = false) = ((c = true ∧ a = false) ∨ (c = false ∧ b = false)) := by cases c <;> simp
/-- ints, bools, as rows -/
def ints (l : List Int) : List (List D) := l.map fun n => [.int .i64 n]
def bools (l : List Bool) : List (List D) := l.map fun b => [.bool b]
theorem ints_len (l : List Int) : (ints l).length = l.length := by simp [ints]
theorem bools_len (l : List Bool) : (bools l).length = l.length := by simp [bools]
theorem ints_get {l : List Int} {i : Int} (h : 0 ≤ i) (h' : i < l.length) : (ints l)[i.toNat]? = some [.int .i64 (l.getD i.toNat 0)] := by
  have : i.toNat < l.length := by omega
  simp [ints, this]
theorem bools_get {l : List Bool} {i : Int} (h : 0 ≤ i) (h' : i < l.length) : (bools l)[i.toNat]? = some [.bool (l.getD i.toNat false)] := by
  have : i.toNat < l.length := by omega
  simp [bools, this]
theorem ints_snoc (l : List Int) (v : Int) : ints l ++ [[.int .i64 v]] = ints (l ++ [v]) := by simp [ints]
theorem ints_app (l m : List Int) : ints l ++ ints m = ints (l ++ m) := by simp [ints]
theorem ints_nil : ints [] = [] := rfl
theorem ints_set (l : List Int) (i : Nat) (v : Int) : (ints l).set i [.int .i64 v] = ints (l.set i v) := by simp [ints, List.map_set]
theorem ints_take (l : List Int) (i : Nat) : (ints l).take i = ints (l.take i) := by simp [ints]
theorem ints_drop (l : List Int) (i : Nat) : (ints l).drop i = ints (l.drop i) := by simp [ints]
theorem ints_free (l : List Int) : ∀ e ∈ ints l, ∀ x ∈ e, nslB x = true := by
  intro e he x hx
  simp only [ints, List.mem_map] at he
  obtain ⟨n, _, rfl⟩ := he
  simp at hx; subst hx; rfl
/-- captured by value, or only read -/
def capFree : Cap → Bool
  | .pel _ | .d _ | .fn0 _ | .junk => true
  | _ => false
theorem lendCaps_id {hp : List Reg} {hs : List Nat} {em : Bool} {caps : List Cap} : ∀ {k : List Cap → Lt → Prop}, caps.all capFree = true → k caps [] → lendCaps hp hs em caps k := by
  induction caps with
  | nil => intro k _ hk; exact hk
  | cons c cs ih =>
    intro k h hk
    simp only [List.all_cons, Bool.and_eq_true] at h
    obtain ⟨h1, h2⟩ := h
    cases c <;> first | exact ih h2 hk | (cases h1; done)
theorem under_fn {f n : Nat} {caps : List Cap} (h : caps.all capFree = true) : S.under n (S.one (C.fn f caps)) = true := by
  show caps.all (Cap.under n) = true
  rw [List.all_eq_true] at h ⊢
  intro c hc
  have := h c hc
  cases c <;> first | rfl | (cases this; done)
theorem findF_self {f : Nat} {R : Ct} {l : List (Nat × Ct)} : findF ((f, R) :: l) f = some R := by
  show (match Nat.beq f f with | true => some R | false => findF l f) = some R
  rw [Nat.beq_refl]
def idx {α : Type} (p : α → Bool) : List α → Int
  | [] => -1
  | x :: l => if p x then 0 else if idx p l < 0 then -1 else idx p l + 1
theorem idx_nn {α : Type} (p : α → Bool) : ∀ l : List α, idx p l = -1 ∨ 0 ≤ idx p l
  | [] => .inl rfl
  | x :: l => by
    unfold idx
    rcases idx_nn p l with h | h <;> split <;> simp_all <;> (try omega)
theorem idx_any {α : Type} (p : α → Bool) : ∀ l : List α, decide (0 ≤ idx p l) = l.any p
  | [] => rfl
  | x :: l => by
    have := idx_any p l
    have h2 := idx_nn p l
    unfold idx
    rw [List.any_cons, ← this]
    by_cases hx : p x = true
    · simp [hx]
    · have hx' : p x = false := by simpa using hx
      rw [hx']
      simp only [Bool.false_eq_true, if_false, Bool.false_or]
      rcases h2 with h | h
      · rw [h]; simp
      · rw [if_neg (by omega)]
        simp only [decide_eq_decide]; omega
theorem idx_at {α : Type} {p : α → Bool} {l : List α} {i : Nat} {x : α} (hx : l[i]? = some x) (hp : p x = true) (hb : ∀ j < i, ∀ y, l[j]? = some y → p y = false) : idx p l = i := by
  induction l generalizing i with
  | nil => simp at hx
  | cons y l ih =>
    unfold idx
    cases i with
    | zero => simp at hx; subst hx; simp [hp]
    | succ i =>
      have h0 := hb 0 (by omega) y (by simp)
      have := ih (i := i) (by simpa using hx) fun j hj z hz => hb (j + 1) (by omega) z (by simpa using hz)
      rw [if_neg (by simp [h0]), this, if_neg (by omega)]
      push_cast; rfl
theorem idx_none {α : Type} {p : α → Bool} {l : List α} (hb : ∀ y ∈ l, p y = false) : idx p l = -1 := by
  induction l with
  | nil => rfl
  | cons y l ih =>
    unfold idx
    rw [if_neg (by simp [hb y (List.mem_cons_self ..)]), ih fun z hz => hb z (List.mem_cons_of_mem _ hz)]
    simp
/-! what the programs' types read as -/
structure Ref where
  arr : Int
  base : Int
  str : List Int
def Ref.c (r : Ref) : List D := [.int .i64 r.arr, .int .i64 r.base, .sl 1 (ints r.str)]
inductive Tree where
  | mk (op : ByteArray) (kind n : Int) (ref : Ref) (kids : List Tree)
mutual
def Tree.c : Tree → List D
  | .mk op kind n ref kids => [.str op, .int .i64 kind, .int .i64 n, .int .i64 ref.arr, .int .i64 ref.base, .sl 1 (ints ref.str), .sl 7 (treesC kids)]
def treesC : List Tree → List (List D)
  | [] => []
  | t :: l => t.c :: treesC l
end
theorem treesC_map : ∀ l : List Tree, treesC l = l.map Tree.c
  | [] => rfl
  | t :: l => by rw [treesC, treesC_map l]; rfl
structure ASet where
  to : Ref
  mask : List Tree
  val : Tree
def ASet.c (s : ASet) : List D := s.to.c ++ [.sl 7 (s.mask.map Tree.c)] ++ s.val.c
structure Kern where
  ext : List Int
  sets : List ASet
def Kern.c (k : Kern) : List D := [.sl 1 (ints k.ext), .sl 11 (k.sets.map ASet.c)]
def prC (p : Int × Int) : List D := [.int .i64 p.1, .int .i64 p.2]
abbrev inC (n : Int) : List D := [.int .i64 n]
abbrev boC (b : Bool) : List D := [.bool b]
theorem enc_get {α : Type} {enc : α → List D} {l : List α} {i : Nat} {x : α} (h : l[i]? = some x) : (l.map enc)[(i : Int).toNat]? = some (enc x) := by
  rw [show (i : Int).toNat = i from rfl, List.getElem?_map, h]; rfl
theorem get_lt {α : Type} {l : List α} {i : Nat} (h : i < l.length) : ∃ x, l[i]? = some x := ⟨l[i], by simp [h]⟩
theorem map_len {α : Type} {enc : α → List D} (l : List α) : (l.map enc).length = l.length := List.length_map ..

end Go.Proofs.Ytahdihhhankhdaa.V
