/-
  V: contracts of functions, texts of the session's own hand, in one file.
-/
import Derived.Test.YtahdihhhankhdaaGreatVy17
import Derived.Test.YtahdihhhankhdaaGreatProg
import Derived.KernelRfl
import Derived.Shelf.Sort.Plain
import Derived.Ground.Names2Prog
import Derived.Shelf.Slices.In.SortNone
set_option linter.unusedVariables false
set_option linter.unusedSimpArgs false
set_option maxRecDepth 100000
set_option linter.all false
set_option linter.unnecessarySimpa false
set_option linter.deprecated false
-- Vh
namespace Go.Proofs.YtahdihhhankhdaaGreat.V
open Go.Proofs.YtahdihhhankhdaaGreatVY Go.RowKit
def ty : List (Nat × TI) := [
  (1, ⟨.sca none, 1, [(C.d (.val .nilFunc))]⟩),
  (2, ⟨.sca (some .i64), 1, [(C.d (.int .i64 0))]⟩),
  (3, ⟨.sca (some .i64), 1, [(C.d (.int .i64 0))]⟩),
  (4, ⟨.bool, 1, [(C.d (.bool false))]⟩),
  (5, ⟨.sca (some .u8), 1, [(C.d (.int .u8 0))]⟩),
  (6, ⟨.sca (some .u8), 1, [(C.d (.int .u8 0))]⟩),
  (7, ⟨.agg [(0, 1, false), (1, 1, false), (2, 1, false), (3, 1, false)], 4, [(C.d (.int .i64 0)), (C.d (.int .i64 0)), (C.d (.bool false)), (C.d (.int .u8 0))]⟩),
  (8, ⟨.agg [(0, 1, false), (1, 1, false), (2, 1, false), (3, 1, false)], 4, [(C.d (.int .i64 0)), (C.d (.int .i64 0)), (C.d (.bool false)), (C.d (.int .u8 0))]⟩),
  (9, ⟨.str, 1, [(C.d (.str ByteArray.empty))]⟩),
  (10, ⟨.str, 1, [(C.d (.str ByteArray.empty))]⟩),
  (11, ⟨.str, 1, [(C.d (.str ByteArray.empty))]⟩),
  (12, ⟨.sca (some .u64), 1, [(C.d (.int .u64 0))]⟩),
  (13, ⟨.agg [(0, 1, false), (1, 1, false)], 2, [(C.d (.str ByteArray.empty)), (C.d (.int .u64 0))]⟩),
  (14, ⟨.agg [(0, 1, false), (1, 1, false)], 2, [(C.d (.str ByteArray.empty)), (C.d (.int .u64 0))]⟩),
  (15, ⟨.sca none, 1, [(C.d (.val (.pointer none)))]⟩),
  (16, ⟨.sca none, 1, [(C.d (.val (.pointer none)))]⟩),
  (17, ⟨.sca none, 1, [(C.d (.val (.pointer none)))]⟩),
  (18, ⟨.agg [(0, 1, false)], 1, [(C.d (.val (.pointer none)))]⟩),
  (19, ⟨.agg [(0, 1, false)], 1, [(C.d (.val (.pointer none)))]⟩),
  (20, ⟨.sca none, 1, [(C.d (.val .nilIface))]⟩),
  (21, ⟨.sca (some .i32), 1, [(C.d (.int .i32 0))]⟩),
  (22, ⟨.sl 3 1 8 [(.int .i64 0)], 1, [(.emp 1)]⟩),
  (23, ⟨.sl 46 11 160 [(.int .i64 0), (.int .i64 0), (D.sl 1 []), (D.sl 7 []), (.str ByteArray.empty), (.int .i64 0), (.int .i64 0), (.int .i64 0), (.int .i64 0), (D.sl 1 []), (D.sl 7 [])], 1, [(.emp 11)]⟩),
  (24, ⟨.agg [(0, 1, false), (1, 1, false)], 2, [(.emp 1), (.emp 11)]⟩),
  (25, ⟨.agg [(0, 1, false), (1, 1, false)], 2, [(.emp 1), (.emp 11)]⟩),
  (26, ⟨.sca none, 1, [(C.d (.val .nilFunc))]⟩),
  (27, ⟨.sca none, 1, [(C.d (.val .nilFunc))]⟩),
  (28, ⟨.sca (some .i64), 1, [(C.d (.int .i64 0))]⟩),
  (30, ⟨.sca none, 1, [(C.d (.val .nilFunc))]⟩),
  (32, ⟨.sca none, 1, [(C.d (.val .nilFunc))]⟩),
  (33, ⟨.sl 39 3 40 [(.int .i64 0), (.int .i64 0), (D.sl 1 [])], 1, [(.emp 3)]⟩),
  (35, ⟨.sca none, 1, [(C.d (.val .nilFunc))]⟩),
  (36, ⟨.sca none, 1, [(C.d (.val .nilFunc))]⟩),
  (37, ⟨.sca none, 1, [(C.d (.val .nilFunc))]⟩),
  (38, ⟨.agg [(0, 1, false), (1, 1, false), (2, 1, false)], 3, [(C.d (.int .i64 0)), (C.d (.int .i64 0)), (.emp 1)]⟩),
  (39, ⟨.agg [(0, 1, false), (1, 1, false), (2, 1, false)], 3, [(C.d (.int .i64 0)), (C.d (.int .i64 0)), (.emp 1)]⟩),
  (40, ⟨.sca none, 1, [(C.d (.val .nilFunc))]⟩),
  (41, ⟨.sca none, 1, [(C.d (.val .nilFunc))]⟩),
  (42, ⟨.sl 44 7 96 [(.str ByteArray.empty), (.int .i64 0), (.int .i64 0), (.int .i64 0), (.int .i64 0), (D.sl 1 []), (D.sl 7 [])], 1, [(.emp 7)]⟩),
  (43, ⟨.agg [(0, 1, false), (1, 1, false), (2, 1, false), (3, 3, true), (6, 1, false)], 7, [(C.d (.str ByteArray.empty)), (C.d (.int .i64 0)), (C.d (.int .i64 0)), (C.d (.int .i64 0)), (C.d (.int .i64 0)), (.emp 1), (.emp 7)]⟩),
  (44, ⟨.agg [(0, 1, false), (1, 1, false), (2, 1, false), (3, 3, true), (6, 1, false)], 7, [(C.d (.str ByteArray.empty)), (C.d (.int .i64 0)), (C.d (.int .i64 0)), (C.d (.int .i64 0)), (C.d (.int .i64 0)), (.emp 1), (.emp 7)]⟩),
  (45, ⟨.agg [(0, 3, true), (3, 1, false), (4, 7, true)], 11, [(C.d (.int .i64 0)), (C.d (.int .i64 0)), (.emp 1), (.emp 7), (C.d (.str ByteArray.empty)), (C.d (.int .i64 0)), (C.d (.int .i64 0)), (C.d (.int .i64 0)), (C.d (.int .i64 0)), (.emp 1), (.emp 7)]⟩),
  (46, ⟨.agg [(0, 3, true), (3, 1, false), (4, 7, true)], 11, [(C.d (.int .i64 0)), (C.d (.int .i64 0)), (.emp 1), (.emp 7), (C.d (.str ByteArray.empty)), (C.d (.int .i64 0)), (C.d (.int .i64 0)), (C.d (.int .i64 0)), (C.d (.int .i64 0)), (.emp 1), (.emp 7)]⟩),
  (47, ⟨.sl 56 3 56 [(.int .i64 0), (D.sl 1 []), (D.sl 1 [])], 1, [(.emp 3)]⟩),
  (49, ⟨.sca none, 1, [(C.d (.val .nilFunc))]⟩),
  (50, ⟨.agg [(0, 1, false), (1, 1, false), (2, 1, false), (3, 1, false)], 4, [(C.d (.int .i64 0)), (C.d (.int .i64 0)), (C.d (.int .i64 0)), (C.d (.int .i64 0))]⟩),
  (51, ⟨.agg [(0, 1, false), (1, 1, false), (2, 1, false), (3, 1, false)], 4, [(C.d (.int .i64 0)), (C.d (.int .i64 0)), (C.d (.int .i64 0)), (C.d (.int .i64 0))]⟩),
  (53, ⟨.sca none, 1, [(C.d (.val .nilFunc))]⟩),
  (54, ⟨.sl 4 1 1 [(.bool false)], 1, [(.emp 1)]⟩),
  (55, ⟨.agg [(0, 1, false), (1, 1, false), (2, 1, false)], 3, [(C.d (.int .i64 0)), (.emp 1), (.emp 1)]⟩),
  (56, ⟨.agg [(0, 1, false), (1, 1, false), (2, 1, false)], 3, [(C.d (.int .i64 0)), (.emp 1), (.emp 1)]⟩),
  (58, ⟨.sca none, 1, [(C.d (.val .nilFunc))]⟩),
  (59, ⟨.sca none, 1, [(C.d (.val .nilFunc))]⟩),
  (60, ⟨.map (C.d (.bool false)), 1, [.junk]⟩),
  (61, ⟨.sca none, 1, [(C.d (.val .nilFunc))]⟩),
  (62, ⟨.sca none, 1, [(C.d (.val .nilFunc))]⟩),
  (63, ⟨.sca none, 1, [(C.d (.val .nilFunc))]⟩),
  (71, ⟨.sca none, 1, [(C.d (.val (.pointer none)))]⟩),
  (74, ⟨.agg [(0, 1, false), (1, 2, true), (3, 4, true), (7, 1, false)], 8, [(.emp 3), (.emp 1), (.emp 11), (C.d (.int .i64 0)), (C.d (.int .i64 0)), (C.d (.int .i64 0)), (C.d (.int .i64 0)), (C.d (.bool false))]⟩),
  (81, ⟨.sca none, 1, [(C.d (.val .nilFunc))]⟩),
  (91, ⟨.sl 93 2 16 [(.int .i64 0), (.int .i64 0)], 1, [(.emp 2)]⟩),
  (93, ⟨.agg [(0, 1, false), (1, 1, false)], 2, [(C.d (.int .i64 0)), (C.d (.int .i64 0))]⟩),
  (98, ⟨.sca none, 1, [(C.d (.val .nilFunc))]⟩),
  (100, ⟨.sl 103 2 16 [(.int .i64 0), (.int .i64 0)], 1, [(.emp 2)]⟩),
  (103, ⟨.arr 2 1 false, 2, [(C.d (.int .i64 0)), (C.d (.int .i64 0))]⟩),
  (109, ⟨.sca none, 1, [(C.d (.val .nilFunc))]⟩),
  (114, ⟨.map (.emp 1), 1, [.junk]⟩),
  (117, ⟨.sca (some .u64), 1, [(C.d (.int .u64 0))]⟩),
  (125, ⟨.sl 9 1 16 [(.str ByteArray.empty)], 1, [(.emp 1)]⟩),
  (130, ⟨.sca (some .i64), 1, [(C.d (.int .i64 0))]⟩),
  (138, ⟨.sca (some .u32), 1, [(C.d (.int .u32 0))]⟩),
  (140, ⟨.sca (some .u64), 1, [(C.d (.int .u64 0))]⟩),
  (141, ⟨.sca none, 1, [(C.d (.val .nilFunc))]⟩),
  (148, ⟨.sca (some .u64), 1, [(C.d (.int .u64 0))]⟩),
  (152, ⟨.sca none, 1, [(C.d (.val (.pointer none)))]⟩),
  (155, ⟨.agg [(0, 1, false), (1, 1, false)], 2, [(C.d (.int .i64 0)), (C.d (.int .i64 0))]⟩),
  (159, ⟨.agg [(0, 1, false), (1, 1, false), (2, 1, false), (3, 1, false)], 4, [(C.d (.int .i64 0)), (C.d (.int .i64 0)), (C.d (.int .u64 0)), (C.d (.int .i64 0))]⟩),
  (168, ⟨.sca none, 1, [(C.d (.val (.pointer none)))]⟩),
  (171, ⟨.sca none, 1, [(C.d (.val .nilFunc))]⟩),
  (182, ⟨.agg [(0, 1, false), (1, 1, false), (2, 1, false), (3, 1, false)], 4, [(C.d (.int .u64 0)), (C.d (.int .u64 0)), (C.d (.int .i64 0)), (C.d (.bool false))]⟩),
  (196, ⟨.sca none, 1, [(C.d (.val .nilIface))]⟩)]
theorem tyOk : (ty.all fun x => chkTI Tryz.prog x.1 x.2) = true := by kernel_rfl
theorem mix : Tryz.prog.follows .mixedOrders = true := by kernel_rfl
/-! the rules by which conditions are read, under short names -/
abbrev zv0 := @Bool.not_false
abbrev zv1 := @Bool.not_true
abbrev zv2 := @List.length_map
abbrev zv3 := @decide_eq_true_eq
abbrev zv4 := @decide_eq_false_iff_not
abbrev zv5 := @Bool.not_eq_true'
abbrev zv6 := @Bool.not_eq_false'
abbrev zv7 := @Bool.and_eq_true
abbrev zv8 := @Bool.or_eq_true
abbrev zv9 := @Bool.and_eq_false_iff
abbrev zv10 := @Bool.or_eq_false_iff
abbrev zv11 := @beq_iff_eq
abbrev zv12 := @bne_iff_ne
abbrev zv13 := @beq_eq_false_iff_ne
abbrev zv14 := @bne_eq_false_iff_eq
abbrev zv15 := @Int.not_lt
abbrev zv16 := @Int.not_le
abbrev zv17 := @ge_iff_le
abbrev zv18 := @gt_iff_lt
abbrev zv19 := @not_or
abbrev zv20 := @not_and
abbrev zv21 := @Bool.cond_true_right
abbrev zv22 := @Bool.cond_true_left
abbrev zv23 := @Bool.cond_false_right
abbrev zv24 := @Bool.cond_false_left
theorem bif_t (c a b : Bool) : ((bif c then a else b) = true) = ((c = true ∧ a = true) ∨ (c = false ∧ b = true)) := by cases c <;> simp
theorem bif_f (c a b : Bool) : ((bif c then a else b) = false) = ((c = true ∧ a = false) ∨ (c = false ∧ b = false)) := by cases c <;> simp
/-- ints, bools, as rows -/
def ints (l : List Int) : List (List D) := l.map fun n => [.int .i64 n]
def bools (l : List Bool) : List (List D) := l.map fun b => [.bool b]
theorem ints_len (l : List Int) : (ints l).length = l.length := by simp [ints]
theorem bools_len (l : List Bool) : (bools l).length = l.length := by simp [bools]
theorem ints_get {l : List Int} {i : Int} (h : 0 ≤ i) (h' : i < l.length) : (ints l)[i.toNat]? = some [.int .i64 (l.getD i.toNat 0)] := by
  have : i.toNat < l.length := by omega
  simp [ints, this]
theorem bools_get {l : List Bool} {i : Int} (h : 0 ≤ i) (h' : i < l.length) : (bools l)[i.toNat]? = some [.bool (l.getD i.toNat false)] := by
  have : i.toNat < l.length := by omega
  simp [bools, this]
theorem ints_snoc (l : List Int) (v : Int) : ints l ++ [[.int .i64 v]] = ints (l ++ [v]) := by simp [ints]
theorem ints_app (l m : List Int) : ints l ++ ints m = ints (l ++ m) := by simp [ints]
theorem ints_nil : ints [] = [] := rfl
theorem ints_set (l : List Int) (i : Nat) (v : Int) : (ints l).set i [.int .i64 v] = ints (l.set i v) := by simp [ints, List.map_set]
theorem ints_take (l : List Int) (i : Nat) : (ints l).take i = ints (l.take i) := by simp [ints]
theorem ints_drop (l : List Int) (i : Nat) : (ints l).drop i = ints (l.drop i) := by simp [ints]
theorem ints_free (l : List Int) : ∀ e ∈ ints l, ∀ x ∈ e, nslB x = true := by
  intro e he x hx
  simp only [ints, List.mem_map] at he
  obtain ⟨n, _, rfl⟩ := he
  simp at hx; subst hx; rfl
/-- captured by value, or only read -/
def capFree : Cap → Bool
  | .pel _ | .d _ | .fn0 _ | .junk => true
  | _ => false
theorem lendCaps_id {hp : List Reg} {hs : List Nat} {em : Bool} {caps : List Cap} : ∀ {k : List Cap → Lt → Prop}, caps.all capFree = true → k caps [] → lendCaps hp hs em caps k := by
  induction caps with
  | nil => intro k _ hk; exact hk
  | cons c cs ih =>
    intro k h hk
    simp only [List.all_cons, Bool.and_eq_true] at h
    obtain ⟨h1, h2⟩ := h
    cases c <;> first | exact ih h2 hk | (cases h1; done)
theorem under_fn {f n : Nat} {caps : List Cap} (h : caps.all capFree = true) : S.under n (S.one (C.fn f caps)) = true := by
  show caps.all (Cap.under n) = true
  rw [List.all_eq_true] at h ⊢
  intro c hc
  have := h c hc
  cases c <;> first | rfl | (cases this; done)
theorem findF_self {f : Nat} {R : Ct} {l : List (Nat × Ct)} : findF ((f, R) :: l) f = some R := by
  show (match Nat.beq f f with | true => some R | false => findF l f) = some R
  rw [Nat.beq_refl]
def idx {α : Type} (p : α → Bool) : List α → Int
  | [] => -1
  | x :: l => if p x then 0 else if idx p l < 0 then -1 else idx p l + 1
theorem idx_nn {α : Type} (p : α → Bool) : ∀ l : List α, idx p l = -1 ∨ 0 ≤ idx p l
  | [] => .inl rfl
  | x :: l => by
    unfold idx
    rcases idx_nn p l with h | h <;> split <;> simp_all <;> (try omega)
theorem idx_any {α : Type} (p : α → Bool) : ∀ l : List α, decide (0 ≤ idx p l) = l.any p
  | [] => rfl
  | x :: l => by
    have := idx_any p l
    have h2 := idx_nn p l
    unfold idx
    rw [List.any_cons, ← this]
    by_cases hx : p x = true
    · simp [hx]
    · have hx' : p x = false := by simpa using hx
      rw [hx']
      simp only [Bool.false_eq_true, if_false, Bool.false_or]
      rcases h2 with h | h
      · rw [h]; simp
      · rw [if_neg (by omega)]
        simp only [decide_eq_decide]; omega
theorem idx_at {α : Type} {p : α → Bool} {l : List α} {i : Nat} {x : α} (hx : l[i]? = some x) (hp : p x = true) (hb : ∀ j < i, ∀ y, l[j]? = some y → p y = false) : idx p l = i := by
  induction l generalizing i with
  | nil => simp at hx
  | cons y l ih =>
    unfold idx
    cases i with
    | zero => simp at hx; subst hx; simp [hp]
    | succ i =>
      have h0 := hb 0 (by omega) y (by simp)
      have := ih (i := i) (by simpa using hx) fun j hj z hz => hb (j + 1) (by omega) z (by simpa using hz)
      rw [if_neg (by simp [h0]), this, if_neg (by omega)]
      push_cast; rfl
theorem idx_none {α : Type} {p : α → Bool} {l : List α} (hb : ∀ y ∈ l, p y = false) : idx p l = -1 := by
  induction l with
  | nil => rfl
  | cons y l ih =>
    unfold idx
    rw [if_neg (by simp [hb y (List.mem_cons_self ..)]), ih fun z hz => hb z (List.mem_cons_of_mem _ hz)]
    simp
/-! what the programs' types read as -/
structure Ref where
  arr : Int
  base : Int
  str : List Int
def Ref.c (r : Ref) : List D := [.int .i64 r.arr, .int .i64 r.base, .sl 1 (ints r.str)]
inductive Tree where
  | mk (op : ByteArray) (kind n : Int) (ref : Ref) (kids : List Tree)
mutual
def Tree.c : Tree → List D
  | .mk op kind n ref kids => [.str op, .int .i64 kind, .int .i64 n, .int .i64 ref.arr, .int .i64 ref.base, .sl 1 (ints ref.str), .sl 7 (treesC kids)]
def treesC : List Tree → List (List D)
  | [] => []
  | t :: l => t.c :: treesC l
end
theorem treesC_map : ∀ l : List Tree, treesC l = l.map Tree.c
  | [] => rfl
  | t :: l => by rw [treesC, treesC_map l]; rfl
structure ASet where
  to : Ref
  mask : List Tree
  val : Tree
def ASet.c (s : ASet) : List D := s.to.c ++ [.sl 7 (s.mask.map Tree.c)] ++ s.val.c
structure Kern where
  ext : List Int
  sets : List ASet
def Kern.c (k : Kern) : List D := [.sl 1 (ints k.ext), .sl 11 (k.sets.map ASet.c)]
def prC (p : Int × Int) : List D := [.int .i64 p.1, .int .i64 p.2]
abbrev inC (n : Int) : List D := [.int .i64 n]
abbrev boC (b : Bool) : List D := [.bool b]
theorem enc_get {α : Type} {enc : α → List D} {l : List α} {i : Nat} {x : α} (h : l[i]? = some x) : (l.map enc)[(i : Int).toNat]? = some (enc x) := by
  rw [show (i : Int).toNat = i from rfl, List.getElem?_map, h]; rfl
theorem get_lt {α : Type} {l : List α} {i : Nat} (h : i < l.length) : ∃ x, l[i]? = some x := ⟨l[i], by simp [h]⟩
theorem map_len {α : Type} {enc : α → List D} (l : List α) : (l.map enc).length = l.length := List.length_map ..

end Go.Proofs.YtahdihhhankhdaaGreat.V
-- Va
namespace Go.Proofs.YtahdihhhankhdaaGreat.V
open Go.Proofs.YtahdihhhankhdaaGreatVY Go.RowKit
def R54 : Ct := fun ss hp r out => ∃ n : Int, ss = [.di .i64 n] ∧ hp = [] ∧ r = .db (decide (n < 0 ∨ 400 < n)) ∧ out = []
set_option maxHeartbeats 4000000 in
theorem ok54 : VSound Tryz.prog (54, R54) := by
  refine vsound (T := ty) (F := []) (pl := []) (nw := true) (cuts := []) mix tyOk .nil Tryz.func54 (by kernel_rfl) (by kernel_rfl) ?_
  rintro _ _ _ _ ⟨n, rfl, rfl, rfl, rfl⟩
  conv => whnf
  (repeat' (first | ((with_reducible refine And.intro (fun (e : (_ : Bool) = true) => ?_) (fun (e : (_ : Bool) = false) => ?_)) <;> (try simp only [reduceCtorEq, ints_len, bools_len, bif_t, bif_f, zv0, zv1, zv2, zv3, zv4, zv5, zv6, zv7, zv8, zv9, zv10, zv11, zv12, zv13, zv14, zv15, zv16, zv17, zv18, zv19, zv20, zv21, zv22, zv23, zv24] at e) <;> (conv => whnf)) | (refine And.intro ?_ ?_; ((first | (with_reducible assumption) | (intro _; with_reducible assumption) | omega | (simp only [reduceCtorEq, ints_len, bools_len, bif_t, bif_f, zv0, zv1, zv2, zv3, zv4, zv5, zv6, zv7, zv8, zv9, zv10, zv11, zv12, zv13, zv14, zv15, zv16, zv17, zv18, zv19, zv20, zv21, zv22, zv23, zv24] at *; omega) | (intro hg; (try simp only [reduceCtorEq, ints_len, bools_len, bif_t, bif_f, zv0, zv1, zv2, zv3, zv4, zv5, zv6, zv7, zv8, zv9, zv10, zv11, zv12, zv13, zv14, zv15, zv16, zv17, zv18, zv19, zv20, zv21, zv22, zv23, zv24] at hg); first | (with_reducible assumption) | omega | (simp only [reduceCtorEq, ints_len, bools_len, bif_t, bif_f, zv0, zv1, zv2, zv3, zv4, zv5, zv6, zv7, zv8, zv9, zv10, zv11, zv12, zv13, zv14, zv15, zv16, zv17, zv18, zv19, zv20, zv21, zv22, zv23, zv24] at *; omega) | (refine ⟨?_, ?_⟩ <;> omega)) | (refine ⟨?_, ?_⟩ <;> omega) | (simp [*]; done) | grind)); (conv => whnf))))
  (refine ⟨[], ?_⟩; (conv => whnf); refine ⟨[], .nil, .nil, ?_⟩; (conv => whnf))
  congr 1
  simp only [reduceCtorEq, ints_len, bools_len, bif_t, bif_f, zv0, zv1, zv2, zv3, zv4, zv5, zv6, zv7, zv8, zv9, zv10, zv11, zv12, zv13, zv14, zv15, zv16, zv17, zv18, zv19, zv20, zv21, zv22, zv23, zv24]
  grind
def R55 : Ct := fun ss hp r out => ∃ n : Int, ss = [.di .i64 n] ∧ hp = [] ∧ r = .db (decide (-1000000 ≤ n ∧ n ≤ 1000000)) ∧ out = []
set_option maxHeartbeats 4000000 in
theorem ok55 : VSound Tryz.prog (55, R55) := by
  refine vsound (T := ty) (F := []) (pl := []) (nw := true) (cuts := []) mix tyOk .nil Tryz.func55 (by kernel_rfl) (by kernel_rfl) ?_
  rintro _ _ _ _ ⟨n, rfl, rfl, rfl, rfl⟩
  conv => whnf
  (repeat' (first | ((with_reducible refine And.intro (fun (e : (_ : Bool) = true) => ?_) (fun (e : (_ : Bool) = false) => ?_)) <;> (try simp only [reduceCtorEq, ints_len, bools_len, bif_t, bif_f, zv0, zv1, zv2, zv3, zv4, zv5, zv6, zv7, zv8, zv9, zv10, zv11, zv12, zv13, zv14, zv15, zv16, zv17, zv18, zv19, zv20, zv21, zv22, zv23, zv24] at e) <;> (conv => whnf)) | (refine And.intro ?_ ?_; ((first | (with_reducible assumption) | (intro _; with_reducible assumption) | omega | (simp only [reduceCtorEq, ints_len, bools_len, bif_t, bif_f, zv0, zv1, zv2, zv3, zv4, zv5, zv6, zv7, zv8, zv9, zv10, zv11, zv12, zv13, zv14, zv15, zv16, zv17, zv18, zv19, zv20, zv21, zv22, zv23, zv24] at *; omega) | (intro hg; (try simp only [reduceCtorEq, ints_len, bools_len, bif_t, bif_f, zv0, zv1, zv2, zv3, zv4, zv5, zv6, zv7, zv8, zv9, zv10, zv11, zv12, zv13, zv14, zv15, zv16, zv17, zv18, zv19, zv20, zv21, zv22, zv23, zv24] at hg); first | (with_reducible assumption) | omega | (simp only [reduceCtorEq, ints_len, bools_len, bif_t, bif_f, zv0, zv1, zv2, zv3, zv4, zv5, zv6, zv7, zv8, zv9, zv10, zv11, zv12, zv13, zv14, zv15, zv16, zv17, zv18, zv19, zv20, zv21, zv22, zv23, zv24] at *; omega) | (refine ⟨?_, ?_⟩ <;> omega)) | (refine ⟨?_, ?_⟩ <;> omega) | (simp [*]; done) | grind)); (conv => whnf))))
  (refine ⟨[], ?_⟩; (conv => whnf); refine ⟨[], .nil, .nil, ?_⟩; (conv => whnf))
  congr 1
  grind
def R56 : Ct := fun ss hp r out => ∃ n : Int, ss = [.di .i64 n] ∧ hp = [] ∧ r = .db (!decide (-1000000 ≤ n ∧ n ≤ 1000000)) ∧ out = []
set_option maxHeartbeats 4000000 in
theorem ok56 : VSound Tryz.prog (56, R56) := by
  refine vsound (T := ty) (F := [(55, R55)]) (pl := []) (nw := true) (cuts := []) mix tyOk (.cons (ok55) .nil) Tryz.func56 (by kernel_rfl) (by kernel_rfl) ?_
  rintro _ _ _ _ ⟨n, rfl, rfl, rfl, rfl⟩
  conv => whnf
  refine ⟨[], false, false, ?_⟩
  conv => whnf
  refine ⟨_, _, ⟨_, rfl, rfl, rfl, rfl⟩, ?_⟩
  conv => whnf
  (repeat' (first | ((with_reducible refine And.intro (fun (e : (_ : Bool) = true) => ?_) (fun (e : (_ : Bool) = false) => ?_)) <;> (try simp only [reduceCtorEq, ints_len, bools_len, bif_t, bif_f, zv0, zv1, zv2, zv3, zv4, zv5, zv6, zv7, zv8, zv9, zv10, zv11, zv12, zv13, zv14, zv15, zv16, zv17, zv18, zv19, zv20, zv21, zv22, zv23, zv24] at e) <;> (conv => whnf)) | (refine And.intro ?_ ?_; ((first | (with_reducible assumption) | (intro _; with_reducible assumption) | omega | (simp only [reduceCtorEq, ints_len, bools_len, bif_t, bif_f, zv0, zv1, zv2, zv3, zv4, zv5, zv6, zv7, zv8, zv9, zv10, zv11, zv12, zv13, zv14, zv15, zv16, zv17, zv18, zv19, zv20, zv21, zv22, zv23, zv24] at *; omega) | (intro hg; (try simp only [reduceCtorEq, ints_len, bools_len, bif_t, bif_f, zv0, zv1, zv2, zv3, zv4, zv5, zv6, zv7, zv8, zv9, zv10, zv11, zv12, zv13, zv14, zv15, zv16, zv17, zv18, zv19, zv20, zv21, zv22, zv23, zv24] at hg); first | (with_reducible assumption) | omega | (simp only [reduceCtorEq, ints_len, bools_len, bif_t, bif_f, zv0, zv1, zv2, zv3, zv4, zv5, zv6, zv7, zv8, zv9, zv10, zv11, zv12, zv13, zv14, zv15, zv16, zv17, zv18, zv19, zv20, zv21, zv22, zv23, zv24] at *; omega) | (refine ⟨?_, ?_⟩ <;> omega)) | (refine ⟨?_, ?_⟩ <;> omega) | (simp [*]; done) | grind)); (conv => whnf))))
  (refine ⟨[], ?_⟩; (conv => whnf); refine ⟨[], .nil, .nil, ?_⟩; (conv => whnf))
end Go.Proofs.YtahdihhhankhdaaGreat.V
-- Vb
namespace Go.Proofs.YtahdihhhankhdaaGreat.V
open Go.Proofs.YtahdihhhankhdaaGreatVY Go.RowKit
def R73 (f : Nat) (Rf : Ct) : Ct := fun ss hp r out => ∃ (l : List Int) (caps : List Cap) (p : Int → Bool), ss = [.one (.d (.sl 1 (l.map inC))), .one (.fn f caps)] ∧ hp = [] ∧ l.length < 4611686018427387904 ∧ caps.all capFree = true ∧ (∀ x ∈ l, Rf (.di .i64 x :: caps.map fun c => .one c.toC) [] (.db (p x)) []) ∧ r = .di .i64 (idx p l) ∧ out = []
set_option maxHeartbeats 4000000 in
theorem ok73 (f : Nat) (Rf : Ct) (hf : VSound Tryz.prog (f, Rf)) : VSound Tryz.prog (73, R73 f Rf) := by
  refine vsound (T := ty) (F := [(f, Rf)]) (pl := []) (nw := true) (cuts := []) mix tyOk (.cons (hf) .nil) Tryz.func73 (by kernel_rfl) (by kernel_rfl) ?_
  rintro _ _ _ _ ⟨l, caps, p, rfl, rfl, hl, hc, hp, rfl, rfl⟩
  conv => whnf
  refine ⟨[], [0, 1, 7, 8], 0, fun n σ => ∃ i : Nat, i ≤ l.length ∧ n = l.length - i ∧ (∀ j < i, ∀ y, l[j]? = some y → p y = false) ∧ σ = (⟨[.one (.d (.sl 1 (l.map inC))), .one (.fn f caps), .junk, .junk, .junk, .junk, .junk, .di .i64 l.length, .di .i64 i, .junk, .junk, .junk, .junk, .junk, .junk, .junk, .junk, .junk, .junk], []⟩ : St), ?_, ?_⟩
  · refine ⟨l.length, ?_⟩
    conv => whnf
    rw [under_fn hc]
    conv => whnf
    exact ⟨0, by omega, by omega, by omega, by rw [map_len]; rfl⟩
  · rintro n _ ⟨i, hi, rfl, hb, rfl⟩
    conv => whnf
    ((with_reducible refine And.intro (fun (e : (_ : Bool) = true) => ?_) (fun (e : (_ : Bool) = false) => ?_)) <;> (try simp only [reduceCtorEq, ints_len, bools_len, bif_t, bif_f, zv0, zv1, zv2, zv3, zv4, zv5, zv6, zv7, zv8, zv9, zv10, zv11, zv12, zv13, zv14, zv15, zv16, zv17, zv18, zv19, zv20, zv21, zv22, zv23, zv24] at e) <;> (conv => whnf))
    · have hlt : i < l.length := by omega
      obtain ⟨x, hget⟩ := get_lt hlt
      refine ⟨_, And.intro ⟨?_, enc_get hget⟩ ?_⟩
      · omega
      obtain x := x
      conv => whnf
      rw [show (cx ty [(f, Rf)] []).fns f = some Rf from findF_self]
      conv => whnf
      refine ⟨[], false, false, ?_⟩
      conv => whnf
      refine lendCaps_id hc ?_
      conv => whnf
      refine ⟨_, _, hp _ (List.mem_of_getElem? hget), ?_⟩
      conv => whnf
      ((with_reducible refine And.intro (fun (e : (_ : Bool) = true) => ?_) (fun (e : (_ : Bool) = false) => ?_)) <;> (try simp only [reduceCtorEq, ints_len, bools_len, bif_t, bif_f, zv0, zv1, zv2, zv3, zv4, zv5, zv6, zv7, zv8, zv9, zv10, zv11, zv12, zv13, zv14, zv15, zv16, zv17, zv18, zv19, zv20, zv21, zv22, zv23, zv24] at e) <;> (conv => whnf))
      · (refine ⟨[], ?_⟩; (conv => whnf); refine ⟨[], .nil, .nil, ?_⟩; (conv => whnf))
        congr 1
        exact (idx_at hget e hb).symm
      · have he := e
        (refine And.intro ?_ ?_; ((first | (with_reducible assumption) | (intro _; with_reducible assumption) | omega | (simp only [reduceCtorEq, ints_len, bools_len, bif_t, bif_f, zv0, zv1, zv2, zv3, zv4, zv5, zv6, zv7, zv8, zv9, zv10, zv11, zv12, zv13, zv14, zv15, zv16, zv17, zv18, zv19, zv20, zv21, zv22, zv23, zv24] at *; omega) | (intro hg; (try simp only [reduceCtorEq, ints_len, bools_len, bif_t, bif_f, zv0, zv1, zv2, zv3, zv4, zv5, zv6, zv7, zv8, zv9, zv10, zv11, zv12, zv13, zv14, zv15, zv16, zv17, zv18, zv19, zv20, zv21, zv22, zv23, zv24] at hg); first | (with_reducible assumption) | omega | (simp only [reduceCtorEq, ints_len, bools_len, bif_t, bif_f, zv0, zv1, zv2, zv3, zv4, zv5, zv6, zv7, zv8, zv9, zv10, zv11, zv12, zv13, zv14, zv15, zv16, zv17, zv18, zv19, zv20, zv21, zv22, zv23, zv24] at *; omega) | (refine ⟨?_, ?_⟩ <;> omega)) | (refine ⟨?_, ?_⟩ <;> omega) | (simp [*]; done) | grind)); (conv => whnf))
        refine ⟨l.length - (i + 1), by omega, [], ?_⟩
        conv => whnf
        rw [under_fn hc]
        conv => whnf
        refine ⟨i + 1, by omega, rfl, fun j hj y hy => ?_, rfl⟩
        by_cases ej : j = i
        · subst ej; rw [hget] at hy; cases hy; exact he
        · exact hb j (by omega) y hy
    · (refine ⟨[], ?_⟩; (conv => whnf); refine ⟨[], .nil, .nil, ?_⟩; (conv => whnf))
      congr 1
      refine (idx_none fun y hy => ?_).symm
      obtain ⟨j, hj⟩ := List.getElem?_of_mem hy
      have := (List.getElem?_eq_some_iff.1 hj).1
      exact hb j (by omega) y hj
def R53 (f : Nat) (Rf : Ct) : Ct := fun ss hp r out => ∃ (l : List Int) (caps : List Cap) (p : Int → Bool), ss = [.one (.d (.sl 1 (l.map inC))), .one (.fn f caps)] ∧ hp = [] ∧ l.length < 4611686018427387904 ∧ caps.all capFree = true ∧ (∀ x ∈ l, Rf (.di .i64 x :: caps.map fun c => .one c.toC) [] (.db (p x)) []) ∧ r = .db (l.any p) ∧ out = []
set_option maxHeartbeats 4000000 in
theorem ok53 (f : Nat) (Rf : Ct) (hf : VSound Tryz.prog (f, Rf)) : VSound Tryz.prog (53, R53 f Rf) := by
  refine vsound (T := ty) (F := [(73, R73 f Rf)]) (pl := []) (nw := true) (cuts := []) mix tyOk (.cons (ok73 f Rf hf) .nil) Tryz.func53 (by kernel_rfl) (by kernel_rfl) ?_
  rintro _ _ _ _ ⟨l, caps, p, rfl, rfl, hl, hc, hp, rfl, rfl⟩
  conv => whnf
  refine ⟨[], false, false, ?_⟩
  conv => whnf
  refine lendCaps_id hc ?_
  conv => whnf
  refine ⟨_, _, ⟨l, caps, p, rfl, rfl, hl, hc, hp, rfl, rfl⟩, ?_⟩
  conv => whnf
  (refine ⟨[], ?_⟩; (conv => whnf); refine ⟨[], .nil, .nil, ?_⟩; (conv => whnf))
  congr 1
  exact idx_any p l
def R57 (f : Nat) (Rf : Ct) : Ct := fun ss hp r out => ∃ (l : List Ref) (caps : List Cap) (p : Ref → Bool), ss = [.one (.d (.sl 3 (l.map Ref.c))), .one (.fn f caps)] ∧ hp = [] ∧ l.length < 4611686018427387904 ∧ caps.all capFree = true ∧ (∀ x ∈ l, Rf (.v (.ag (x.c.map .d)) :: caps.map fun c => .one c.toC) [] (.db (p x)) []) ∧ r = .di .i64 (idx p l) ∧ out = []
set_option maxHeartbeats 4000000 in
theorem ok57 (f : Nat) (Rf : Ct) (hf : VSound Tryz.prog (f, Rf)) : VSound Tryz.prog (57, R57 f Rf) := by
  refine vsound (T := ty) (F := [(f, Rf)]) (pl := []) (nw := true) (cuts := []) mix tyOk (.cons (hf) .nil) Tryz.func57 (by kernel_rfl) (by kernel_rfl) ?_
  rintro _ _ _ _ ⟨l, caps, p, rfl, rfl, hl, hc, hp, rfl, rfl⟩
  conv => whnf
  refine ⟨[], [0, 1, 7, 8], 0, fun n σ => ∃ i : Nat, i ≤ l.length ∧ n = l.length - i ∧ (∀ j < i, ∀ y, l[j]? = some y → p y = false) ∧ σ = (⟨[.one (.d (.sl 3 (l.map Ref.c))), .one (.fn f caps), .junk, .junk, .junk, .junk, .junk, .di .i64 l.length, .di .i64 i, .junk, .junk, .junk, .junk, .junk, .junk, .junk, .junk, .junk, .junk], []⟩ : St), ?_, ?_⟩
  · refine ⟨l.length, ?_⟩
    conv => whnf
    rw [under_fn hc]
    conv => whnf
    exact ⟨0, by omega, by omega, by omega, by rw [map_len]; rfl⟩
  · rintro n _ ⟨i, hi, rfl, hb, rfl⟩
    conv => whnf
    ((with_reducible refine And.intro (fun (e : (_ : Bool) = true) => ?_) (fun (e : (_ : Bool) = false) => ?_)) <;> (try simp only [reduceCtorEq, ints_len, bools_len, bif_t, bif_f, zv0, zv1, zv2, zv3, zv4, zv5, zv6, zv7, zv8, zv9, zv10, zv11, zv12, zv13, zv14, zv15, zv16, zv17, zv18, zv19, zv20, zv21, zv22, zv23, zv24] at e) <;> (conv => whnf))
    · have hlt : i < l.length := by omega
      obtain ⟨x, hget⟩ := get_lt hlt
      refine ⟨_, And.intro ⟨?_, enc_get hget⟩ ?_⟩
      · omega
      obtain ⟨xa, xb, xs⟩ := x
      conv => whnf
      rw [show (cx ty [(f, Rf)] []).fns f = some Rf from findF_self]
      conv => whnf
      refine ⟨[], false, false, ?_⟩
      conv => whnf
      refine lendCaps_id hc ?_
      conv => whnf
      refine ⟨_, _, hp _ (List.mem_of_getElem? hget), ?_⟩
      conv => whnf
      ((with_reducible refine And.intro (fun (e : (_ : Bool) = true) => ?_) (fun (e : (_ : Bool) = false) => ?_)) <;> (try simp only [reduceCtorEq, ints_len, bools_len, bif_t, bif_f, zv0, zv1, zv2, zv3, zv4, zv5, zv6, zv7, zv8, zv9, zv10, zv11, zv12, zv13, zv14, zv15, zv16, zv17, zv18, zv19, zv20, zv21, zv22, zv23, zv24] at e) <;> (conv => whnf))
      · (refine ⟨[], ?_⟩; (conv => whnf); refine ⟨[], .nil, .nil, ?_⟩; (conv => whnf))
        congr 1
        exact (idx_at hget e hb).symm
      · have he := e
        (refine And.intro ?_ ?_; ((first | (with_reducible assumption) | (intro _; with_reducible assumption) | omega | (simp only [reduceCtorEq, ints_len, bools_len, bif_t, bif_f, zv0, zv1, zv2, zv3, zv4, zv5, zv6, zv7, zv8, zv9, zv10, zv11, zv12, zv13, zv14, zv15, zv16, zv17, zv18, zv19, zv20, zv21, zv22, zv23, zv24] at *; omega) | (intro hg; (try simp only [reduceCtorEq, ints_len, bools_len, bif_t, bif_f, zv0, zv1, zv2, zv3, zv4, zv5, zv6, zv7, zv8, zv9, zv10, zv11, zv12, zv13, zv14, zv15, zv16, zv17, zv18, zv19, zv20, zv21, zv22, zv23, zv24] at hg); first | (with_reducible assumption) | omega | (simp only [reduceCtorEq, ints_len, bools_len, bif_t, bif_f, zv0, zv1, zv2, zv3, zv4, zv5, zv6, zv7, zv8, zv9, zv10, zv11, zv12, zv13, zv14, zv15, zv16, zv17, zv18, zv19, zv20, zv21, zv22, zv23, zv24] at *; omega) | (refine ⟨?_, ?_⟩ <;> omega)) | (refine ⟨?_, ?_⟩ <;> omega) | (simp [*]; done) | grind)); (conv => whnf))
        refine ⟨l.length - (i + 1), by omega, [], ?_⟩
        conv => whnf
        rw [under_fn hc]
        conv => whnf
        refine ⟨i + 1, by omega, rfl, fun j hj y hy => ?_, rfl⟩
        by_cases ej : j = i
        · subst ej; rw [hget] at hy; cases hy; exact he
        · exact hb j (by omega) y hy
    · (refine ⟨[], ?_⟩; (conv => whnf); refine ⟨[], .nil, .nil, ?_⟩; (conv => whnf))
      congr 1
      refine (idx_none fun y hy => ?_).symm
      obtain ⟨j, hj⟩ := List.getElem?_of_mem hy
      have := (List.getElem?_eq_some_iff.1 hj).1
      exact hb j (by omega) y hj
def R37 (f : Nat) (Rf : Ct) : Ct := fun ss hp r out => ∃ (l : List Ref) (caps : List Cap) (p : Ref → Bool), ss = [.one (.d (.sl 3 (l.map Ref.c))), .one (.fn f caps)] ∧ hp = [] ∧ l.length < 4611686018427387904 ∧ caps.all capFree = true ∧ (∀ x ∈ l, Rf (.v (.ag (x.c.map .d)) :: caps.map fun c => .one c.toC) [] (.db (p x)) []) ∧ r = .db (l.any p) ∧ out = []
set_option maxHeartbeats 4000000 in
theorem ok37 (f : Nat) (Rf : Ct) (hf : VSound Tryz.prog (f, Rf)) : VSound Tryz.prog (37, R37 f Rf) := by
  refine vsound (T := ty) (F := [(57, R57 f Rf)]) (pl := []) (nw := true) (cuts := []) mix tyOk (.cons (ok57 f Rf hf) .nil) Tryz.func37 (by kernel_rfl) (by kernel_rfl) ?_
  rintro _ _ _ _ ⟨l, caps, p, rfl, rfl, hl, hc, hp, rfl, rfl⟩
  conv => whnf
  refine ⟨[], false, false, ?_⟩
  conv => whnf
  refine lendCaps_id hc ?_
  conv => whnf
  refine ⟨_, _, ⟨l, caps, p, rfl, rfl, hl, hc, hp, rfl, rfl⟩, ?_⟩
  conv => whnf
  (refine ⟨[], ?_⟩; (conv => whnf); refine ⟨[], .nil, .nil, ?_⟩; (conv => whnf))
  congr 1
  exact idx_any p l
def R9142 (f : Nat) (Rf : Ct) : Ct := fun ss hp r out => ∃ (l : List (Int × Int)) (caps : List Cap) (p : (Int × Int) → Bool), ss = [.one (.d (.sl 2 (l.map prC))), .one (.fn f caps)] ∧ hp = [] ∧ l.length < 4611686018427387904 ∧ caps.all capFree = true ∧ (∀ x ∈ l, Rf (.v (.ag [.d (.int .i64 x.1), .d (.int .i64 x.2)]) :: caps.map fun c => .one c.toC) [] (.db (p x)) []) ∧ r = .di .i64 (idx p l) ∧ out = []
def R9123 (f : Nat) (Rf : Ct) : Ct := fun ss hp r out => ∃ (l : List (Int × Int)) (caps : List Cap) (p : (Int × Int) → Bool), ss = [.one (.d (.sl 2 (l.map prC))), .one (.fn f caps)] ∧ hp = [] ∧ l.length < 4611686018427387904 ∧ caps.all capFree = true ∧ (∀ x ∈ l, Rf (.v (.ag [.d (.int .i64 x.1), .d (.int .i64 x.2)]) :: caps.map fun c => .one c.toC) [] (.db (p x)) []) ∧ r = .db (l.any p) ∧ out = []
def R9114 (f : Nat) (Rf : Ct) : Ct := fun ss hp r out => ∃ (l : List Kern) (caps : List Cap) (p : Kern → Bool), ss = [.one (.d (.sl 2 (l.map Kern.c))), .one (.fn f caps)] ∧ hp = [] ∧ l.length < 4611686018427387904 ∧ caps.all capFree = true ∧ (∀ x ∈ l, Rf (.v (.ag (x.c.map .d)) :: caps.map fun c => .one c.toC) [] (.db (p x)) []) ∧ r = .di .i64 (idx p l) ∧ out = []
def R9088 (f : Nat) (Rf : Ct) : Ct := fun ss hp r out => ∃ (l : List Kern) (caps : List Cap) (p : Kern → Bool), ss = [.one (.d (.sl 2 (l.map Kern.c))), .one (.fn f caps)] ∧ hp = [] ∧ l.length < 4611686018427387904 ∧ caps.all capFree = true ∧ (∀ x ∈ l, Rf (.v (.ag (x.c.map .d)) :: caps.map fun c => .one c.toC) [] (.db (p x)) []) ∧ r = .db (l.any p) ∧ out = []
end Go.Proofs.YtahdihhhankhdaaGreat.V
-- Vc
namespace Go.Proofs.YtahdihhhankhdaaGreat.V
open Go.Proofs.YtahdihhhankhdaaGreatVY Go.RowKit
def R22 : Ct := fun ss hp r out => ∃ (l : List Int), ss = [.one (.d (.sl 1 (l.map inC)))] ∧ hp = [] ∧ l.length ≤ 4194304 ∧ r = .one (.own 0) ∧ out = [.row 1 (l.map inC)]
set_option maxHeartbeats 4000000 in
theorem ok22 : VSound Tryz.prog (22, R22) := by
  refine vsound (T := ty) (F := []) (pl := []) (nw := true) (cuts := []) mix tyOk .nil Tryz.func22 (by kernel_rfl) (by kernel_rfl) ?_
  rintro _ _ _ _ ⟨l, rfl, rfl, hl, rfl, rfl⟩
  conv => whnf
  refine ⟨fun h0 => ?_, ?_⟩
  · conv => whnf
    refine ⟨[.slot 2 true], ?_⟩
    conv => whnf
    have : l = [] := by simpa using h0
    subst this
    exact ⟨[0], by simp, .cons ⟨_, rfl, rfl, rfl⟩ .nil, rfl⟩
  · conv => whnf
    refine ⟨?_, ?_⟩
    · simp; omega
    conv => whnf
    refine ⟨[], ?_⟩
    conv => whnf
    exact ⟨[0], by simp, .cons ⟨_, rfl, rfl, rfl⟩ .nil, rfl⟩
end Go.Proofs.YtahdihhhankhdaaGreat.V
-- Vd
namespace Go.Proofs.YtahdihhhankhdaaGreat.V
open Go.Proofs.YtahdihhhankhdaaGreatVY Go.RowKit
def prod : List Int → Int
  | [] => 1
  | x :: l => x * prod l
def many (l : List Int) : Int := if l.length < 1 ∨ 3 < l.length ∨ l.any (fun n => decide (n < 0 ∨ 400 < n)) = true then -1 else if 400 < prod l then -1 else prod l
theorem prod_snoc (l : List Int) (x : Int) : prod (l ++ [x]) = prod l * x := by
  induction l with
  | nil => simp [prod]
  | cons y l ih => simp only [List.cons_append, prod, ih, Int.mul_assoc]
theorem prod_take {l : List Int} {i : Nat} {x : Int} (h : l[i]? = some x) : prod (l.take (i + 1)) = prod (l.take i) * x := by
  rw [List.take_add_one, h]; exact prod_snoc ..
theorem prod_bd : ∀ l : List Int, l.any (fun n => decide (n < 0 ∨ 400 < n)) = false → 0 ≤ prod l ∧ prod l ≤ ((400 ^ l.length : Nat) : Int)
  | [], _ => by decide
  | x :: l, h => by
    rw [List.any_cons, Bool.or_eq_false_iff] at h
    obtain ⟨h1, h2⟩ := prod_bd l h.2
    have hx := of_decide_eq_false h.1
    refine ⟨Int.mul_nonneg (by omega) h1, ?_⟩
    show x * prod l ≤ _
    rw [List.length_cons, Nat.pow_succ, Nat.mul_comm]
    push_cast
    exact Int.mul_le_mul (by omega) (by simpa using h2) h1 (by decide)
theorem prod_bd3 {l : List Int} (h : l.any (fun n => decide (n < 0 ∨ 400 < n)) = false) (hl : (l.length : Int) ≤ 3) (i : Nat) : 0 ≤ prod (l.take i) ∧ prod (l.take i) ≤ 64000000 := by
  have h2 : (l.take i).any (fun n => decide (n < 0 ∨ 400 < n)) = false := by
    rw [List.any_eq_false] at h ⊢
    exact fun x hx => h x (List.mem_of_mem_take hx)
  obtain ⟨a, b⟩ := prod_bd _ h2
  have hl3 : (l.take i).length ≤ 3 := by rw [List.length_take]; omega
  have : (400 : Nat) ^ (l.take i).length ≤ 400 ^ 3 := Nat.pow_le_pow_right (by decide) hl3
  exact ⟨a, Int.le_trans b (by have h3 : (400 : Nat) ^ 3 = 64000000 := by decide
                               omega)⟩
def R34 : Ct := fun ss hp r out => ∃ l : List Int, ss = [.one (.d (.sl 1 (l.map inC)))] ∧ hp = [] ∧ l.length < 4611686018427387904 ∧ r = .di .i64 (many l) ∧ out = []
set_option maxHeartbeats 4000000 in
theorem ok34 : VSound Tryz.prog (34, R34) := by
  refine vsound (T := ty) (F := [(53, R53 54 R54)]) (pl := []) (nw := true) (cuts := []) mix tyOk (.cons (ok53 54 R54 ok54) .nil) Tryz.func34 (by kernel_rfl) (by kernel_rfl) ?_
  rintro _ _ _ _ ⟨l, rfl, rfl, hl, rfl, rfl⟩
  conv => whnf
  (repeat' (first | ((with_reducible refine And.intro (fun (e : (_ : Bool) = true) => ?_) (fun (e : (_ : Bool) = false) => ?_)) <;> (try simp only [reduceCtorEq, ints_len, bools_len, bif_t, bif_f, zv0, zv1, zv2, zv3, zv4, zv5, zv6, zv7, zv8, zv9, zv10, zv11, zv12, zv13, zv14, zv15, zv16, zv17, zv18, zv19, zv20, zv21, zv22, zv23, zv24] at e) <;> (conv => whnf)) | (refine And.intro ?_ ?_; ((first | (with_reducible assumption) | (intro _; with_reducible assumption) | omega | (simp only [reduceCtorEq, ints_len, bools_len, bif_t, bif_f, zv0, zv1, zv2, zv3, zv4, zv5, zv6, zv7, zv8, zv9, zv10, zv11, zv12, zv13, zv14, zv15, zv16, zv17, zv18, zv19, zv20, zv21, zv22, zv23, zv24] at *; omega) | (intro hg; (try simp only [reduceCtorEq, ints_len, bools_len, bif_t, bif_f, zv0, zv1, zv2, zv3, zv4, zv5, zv6, zv7, zv8, zv9, zv10, zv11, zv12, zv13, zv14, zv15, zv16, zv17, zv18, zv19, zv20, zv21, zv22, zv23, zv24] at hg); first | (with_reducible assumption) | omega | (simp only [reduceCtorEq, ints_len, bools_len, bif_t, bif_f, zv0, zv1, zv2, zv3, zv4, zv5, zv6, zv7, zv8, zv9, zv10, zv11, zv12, zv13, zv14, zv15, zv16, zv17, zv18, zv19, zv20, zv21, zv22, zv23, zv24] at *; omega) | (refine ⟨?_, ?_⟩ <;> omega)) | (refine ⟨?_, ?_⟩ <;> omega) | (simp [*]; done) | grind)); (conv => whnf))))
  refine ⟨fun e => ?_, fun e => ?_⟩
  · simp only [reduceCtorEq, ints_len, bools_len, bif_t, bif_f, zv0, zv1, zv2, zv3, zv4, zv5, zv6, zv7, zv8, zv9, zv10, zv11, zv12, zv13, zv14, zv15, zv16, zv17, zv18, zv19, zv20, zv21, zv22, zv23, zv24] at e
    conv => whnf
    (repeat' (first | ((with_reducible refine And.intro (fun (e : (_ : Bool) = true) => ?_) (fun (e : (_ : Bool) = false) => ?_)) <;> (try simp only [reduceCtorEq, ints_len, bools_len, bif_t, bif_f, zv0, zv1, zv2, zv3, zv4, zv5, zv6, zv7, zv8, zv9, zv10, zv11, zv12, zv13, zv14, zv15, zv16, zv17, zv18, zv19, zv20, zv21, zv22, zv23, zv24] at e) <;> (conv => whnf)) | (refine And.intro ?_ ?_; ((first | (with_reducible assumption) | (intro _; with_reducible assumption) | omega | (simp only [reduceCtorEq, ints_len, bools_len, bif_t, bif_f, zv0, zv1, zv2, zv3, zv4, zv5, zv6, zv7, zv8, zv9, zv10, zv11, zv12, zv13, zv14, zv15, zv16, zv17, zv18, zv19, zv20, zv21, zv22, zv23, zv24] at *; omega) | (intro hg; (try simp only [reduceCtorEq, ints_len, bools_len, bif_t, bif_f, zv0, zv1, zv2, zv3, zv4, zv5, zv6, zv7, zv8, zv9, zv10, zv11, zv12, zv13, zv14, zv15, zv16, zv17, zv18, zv19, zv20, zv21, zv22, zv23, zv24] at hg); first | (with_reducible assumption) | omega | (simp only [reduceCtorEq, ints_len, bools_len, bif_t, bif_f, zv0, zv1, zv2, zv3, zv4, zv5, zv6, zv7, zv8, zv9, zv10, zv11, zv12, zv13, zv14, zv15, zv16, zv17, zv18, zv19, zv20, zv21, zv22, zv23, zv24] at *; omega) | (refine ⟨?_, ?_⟩ <;> omega)) | (refine ⟨?_, ?_⟩ <;> omega) | (simp [*]; done) | grind)); (conv => whnf))))
    refine ⟨[], false, false, ?_⟩
    conv => whnf
    refine ⟨_, _, ⟨l, [], fun n => decide (n < 0 ∨ 400 < n), rfl, rfl, hl, rfl, fun x _ => ⟨x, rfl, rfl, rfl, rfl⟩, rfl, rfl⟩, ?_⟩
    conv => whnf
    (repeat' (first | ((with_reducible refine And.intro (fun (e : (_ : Bool) = true) => ?_) (fun (e : (_ : Bool) = false) => ?_)) <;> (try simp only [reduceCtorEq, ints_len, bools_len, bif_t, bif_f, zv0, zv1, zv2, zv3, zv4, zv5, zv6, zv7, zv8, zv9, zv10, zv11, zv12, zv13, zv14, zv15, zv16, zv17, zv18, zv19, zv20, zv21, zv22, zv23, zv24] at e) <;> (conv => whnf)) | (refine And.intro ?_ ?_; ((first | (with_reducible assumption) | (intro _; with_reducible assumption) | omega | (simp only [reduceCtorEq, ints_len, bools_len, bif_t, bif_f, zv0, zv1, zv2, zv3, zv4, zv5, zv6, zv7, zv8, zv9, zv10, zv11, zv12, zv13, zv14, zv15, zv16, zv17, zv18, zv19, zv20, zv21, zv22, zv23, zv24] at *; omega) | (intro hg; (try simp only [reduceCtorEq, ints_len, bools_len, bif_t, bif_f, zv0, zv1, zv2, zv3, zv4, zv5, zv6, zv7, zv8, zv9, zv10, zv11, zv12, zv13, zv14, zv15, zv16, zv17, zv18, zv19, zv20, zv21, zv22, zv23, zv24] at hg); first | (with_reducible assumption) | omega | (simp only [reduceCtorEq, ints_len, bools_len, bif_t, bif_f, zv0, zv1, zv2, zv3, zv4, zv5, zv6, zv7, zv8, zv9, zv10, zv11, zv12, zv13, zv14, zv15, zv16, zv17, zv18, zv19, zv20, zv21, zv22, zv23, zv24] at *; omega) | (refine ⟨?_, ?_⟩ <;> omega)) | (refine ⟨?_, ?_⟩ <;> omega) | (simp [*]; done) | grind)); (conv => whnf))))
    · (refine ⟨[], ?_⟩; (conv => whnf); refine ⟨[], .nil, .nil, ?_⟩; (conv => whnf))
      congr 1
      unfold many
      rw [if_pos]
      rcases e with e | e
      · omega
      · exact .inr (.inr e)
    · obtain ⟨⟨g1, g2⟩, g3⟩ := e
      refine ⟨[], [3, 18, 19, 20], 0, fun n σ => ∃ i : Nat, i ≤ l.length ∧ n = l.length - i ∧ σ = (⟨[.junk, .junk, .junk, .di .i64 (prod (l.take i)), .junk, .junk, .junk, .junk, .junk, .junk, .junk, .junk, .junk, .junk, .junk, .junk, .junk, .junk, .one (.d (.sl 1 (l.map inC))), .di .i64 l.length, .di .i64 i, .junk, .junk, .junk, .junk, .junk, .junk, .junk, .junk, .junk, .junk], []⟩ : St), ?_, ?_⟩
      · refine ⟨l.length, ?_⟩
        conv => whnf
        exact ⟨0, by omega, by omega, by rw [map_len]; rfl⟩
      · rintro n _ ⟨i, hi, rfl, rfl⟩
        conv => whnf
        ((with_reducible refine And.intro (fun (e : (_ : Bool) = true) => ?_) (fun (e : (_ : Bool) = false) => ?_)) <;> (try simp only [reduceCtorEq, ints_len, bools_len, bif_t, bif_f, zv0, zv1, zv2, zv3, zv4, zv5, zv6, zv7, zv8, zv9, zv10, zv11, zv12, zv13, zv14, zv15, zv16, zv17, zv18, zv19, zv20, zv21, zv22, zv23, zv24] at e) <;> (conv => whnf))
        · have hlt : i < l.length := by omega
          obtain ⟨x, hget⟩ := get_lt hlt
          have p1 := prod_take hget
          have p2 := prod_bd3 g3 g2 (i + 1)
          rw [p1] at p2
          refine ⟨_, And.intro ⟨?_, enc_get hget⟩ ?_⟩
          · omega
          conv => whnf
          (refine And.intro ?_ ?_; ((first | (with_reducible assumption) | (intro _; with_reducible assumption) | omega | (simp only [reduceCtorEq, ints_len, bools_len, bif_t, bif_f, zv0, zv1, zv2, zv3, zv4, zv5, zv6, zv7, zv8, zv9, zv10, zv11, zv12, zv13, zv14, zv15, zv16, zv17, zv18, zv19, zv20, zv21, zv22, zv23, zv24] at *; omega) | (intro hg; (try simp only [reduceCtorEq, ints_len, bools_len, bif_t, bif_f, zv0, zv1, zv2, zv3, zv4, zv5, zv6, zv7, zv8, zv9, zv10, zv11, zv12, zv13, zv14, zv15, zv16, zv17, zv18, zv19, zv20, zv21, zv22, zv23, zv24] at hg); first | (with_reducible assumption) | omega | (simp only [reduceCtorEq, ints_len, bools_len, bif_t, bif_f, zv0, zv1, zv2, zv3, zv4, zv5, zv6, zv7, zv8, zv9, zv10, zv11, zv12, zv13, zv14, zv15, zv16, zv17, zv18, zv19, zv20, zv21, zv22, zv23, zv24] at *; omega) | (refine ⟨?_, ?_⟩ <;> omega)) | (refine ⟨?_, ?_⟩ <;> omega) | (simp [*]; done) | grind)); (conv => whnf))
          (refine And.intro ?_ ?_; ((first | (with_reducible assumption) | (intro _; with_reducible assumption) | omega | (simp only [reduceCtorEq, ints_len, bools_len, bif_t, bif_f, zv0, zv1, zv2, zv3, zv4, zv5, zv6, zv7, zv8, zv9, zv10, zv11, zv12, zv13, zv14, zv15, zv16, zv17, zv18, zv19, zv20, zv21, zv22, zv23, zv24] at *; omega) | (intro hg; (try simp only [reduceCtorEq, ints_len, bools_len, bif_t, bif_f, zv0, zv1, zv2, zv3, zv4, zv5, zv6, zv7, zv8, zv9, zv10, zv11, zv12, zv13, zv14, zv15, zv16, zv17, zv18, zv19, zv20, zv21, zv22, zv23, zv24] at hg); first | (with_reducible assumption) | omega | (simp only [reduceCtorEq, ints_len, bools_len, bif_t, bif_f, zv0, zv1, zv2, zv3, zv4, zv5, zv6, zv7, zv8, zv9, zv10, zv11, zv12, zv13, zv14, zv15, zv16, zv17, zv18, zv19, zv20, zv21, zv22, zv23, zv24] at *; omega) | (refine ⟨?_, ?_⟩ <;> omega)) | (refine ⟨?_, ?_⟩ <;> omega) | (simp [*]; done) | grind)); (conv => whnf))
          refine ⟨l.length - (i + 1), by omega, [], ?_⟩
          conv => whnf
          exact ⟨i + 1, by omega, rfl, by rw [p1]; rfl⟩
        · have hi' : i = l.length := by omega
          subst hi'
          rw [List.take_length]
          have h1 : ¬ (l.length < 1 ∨ 3 < l.length ∨ l.any (fun n => decide (n < 0 ∨ 400 < n)) = true) := by
            rintro (h | h | h)
            · omega
            · omega
            · rw [g3] at h; cases h
          unfold many
          rw [if_neg h1]
          ((with_reducible refine And.intro (fun (e : (_ : Bool) = true) => ?_) (fun (e : (_ : Bool) = false) => ?_)) <;> (try simp only [reduceCtorEq, ints_len, bools_len, bif_t, bif_f, zv0, zv1, zv2, zv3, zv4, zv5, zv6, zv7, zv8, zv9, zv10, zv11, zv12, zv13, zv14, zv15, zv16, zv17, zv18, zv19, zv20, zv21, zv22, zv23, zv24] at e) <;> (conv => whnf))
          · (refine ⟨[], ?_⟩; (conv => whnf); refine ⟨[], .nil, .nil, ?_⟩; (conv => whnf))
            congr 1
            rw [if_pos e]
          · (refine ⟨[], ?_⟩; (conv => whnf); refine ⟨[], .nil, .nil, ?_⟩; (conv => whnf))
            congr 1
            rw [if_neg (by omega)]
  · simp only [reduceCtorEq, ints_len, bools_len, bif_t, bif_f, zv0, zv1, zv2, zv3, zv4, zv5, zv6, zv7, zv8, zv9, zv10, zv11, zv12, zv13, zv14, zv15, zv16, zv17, zv18, zv19, zv20, zv21, zv22, zv23, zv24] at e
    conv => whnf
    (repeat' (first | ((with_reducible refine And.intro (fun (e : (_ : Bool) = true) => ?_) (fun (e : (_ : Bool) = false) => ?_)) <;> (try simp only [reduceCtorEq, ints_len, bools_len, bif_t, bif_f, zv0, zv1, zv2, zv3, zv4, zv5, zv6, zv7, zv8, zv9, zv10, zv11, zv12, zv13, zv14, zv15, zv16, zv17, zv18, zv19, zv20, zv21, zv22, zv23, zv24] at e) <;> (conv => whnf)) | (refine And.intro ?_ ?_; ((first | (with_reducible assumption) | (intro _; with_reducible assumption) | omega | (simp only [reduceCtorEq, ints_len, bools_len, bif_t, bif_f, zv0, zv1, zv2, zv3, zv4, zv5, zv6, zv7, zv8, zv9, zv10, zv11, zv12, zv13, zv14, zv15, zv16, zv17, zv18, zv19, zv20, zv21, zv22, zv23, zv24] at *; omega) | (intro hg; (try simp only [reduceCtorEq, ints_len, bools_len, bif_t, bif_f, zv0, zv1, zv2, zv3, zv4, zv5, zv6, zv7, zv8, zv9, zv10, zv11, zv12, zv13, zv14, zv15, zv16, zv17, zv18, zv19, zv20, zv21, zv22, zv23, zv24] at hg); first | (with_reducible assumption) | omega | (simp only [reduceCtorEq, ints_len, bools_len, bif_t, bif_f, zv0, zv1, zv2, zv3, zv4, zv5, zv6, zv7, zv8, zv9, zv10, zv11, zv12, zv13, zv14, zv15, zv16, zv17, zv18, zv19, zv20, zv21, zv22, zv23, zv24] at *; omega) | (refine ⟨?_, ?_⟩ <;> omega)) | (refine ⟨?_, ?_⟩ <;> omega) | (simp [*]; done) | grind)); (conv => whnf))))
    · (refine ⟨[], ?_⟩; (conv => whnf); refine ⟨[], .nil, .nil, ?_⟩; (conv => whnf))
      congr 1
      unfold many
      rw [if_pos]
      rename_i e2
      omega
end Go.Proofs.YtahdihhhankhdaaGreat.V
-- Ve
namespace Go.Proofs.YtahdihhhankhdaaGreat.V
open Go.Proofs.YtahdihhhankhdaaGreatVY Go.RowKit
def isNum (n : Int) : Bool := decide (-1000000 ≤ n ∧ n ≤ 1000000)
def refOk (l : List Int) (x : Ref) : Bool := decide (0 ≤ many l) && (decide (x.str.length = l.length) && (isNum x.base && !(x.str.any fun n => !isNum n)))
def R36 : Ct := fun ss hp r out => ∃ (l : List Int) (x : Ref), ss = [.one (.d (.sl 1 (l.map inC))), .v (.ag (x.c.map .d))] ∧ hp = [] ∧ l.length < 4611686018427387904 ∧ x.str.length < 4611686018427387904 ∧ r = .db (refOk l x) ∧ out = []
set_option maxHeartbeats 4000000 in
theorem ok36 : VSound Tryz.prog (36, R36) := by
  refine vsound (T := ty) (F := [(34, R34), (53, R53 56 R56), (55, R55)]) (pl := []) (nw := true) (cuts := []) mix tyOk (.cons (ok34) (.cons (ok53 56 R56 ok56) (.cons (ok55) .nil))) Tryz.func36 (by kernel_rfl) (by kernel_rfl) ?_
  rintro _ _ _ _ ⟨l, ⟨xa, xb, xs⟩, rfl, rfl, hl, hx, rfl, rfl⟩
  conv => whnf
  refine ⟨[], false, false, ?_⟩
  conv => whnf
  refine ⟨_, _, ⟨l, rfl, rfl, hl, rfl, rfl⟩, ?_⟩
  conv => whnf
  (repeat' (first | ((with_reducible refine And.intro (fun (e : (_ : Bool) = true) => ?_) (fun (e : (_ : Bool) = false) => ?_)) <;> (try simp only [reduceCtorEq, ints_len, bools_len, bif_t, bif_f, zv0, zv1, zv2, zv3, zv4, zv5, zv6, zv7, zv8, zv9, zv10, zv11, zv12, zv13, zv14, zv15, zv16, zv17, zv18, zv19, zv20, zv21, zv22, zv23, zv24] at e) <;> (conv => whnf)) | (refine And.intro ?_ ?_; ((first | (with_reducible assumption) | (intro _; with_reducible assumption) | omega | (simp only [reduceCtorEq, ints_len, bools_len, bif_t, bif_f, zv0, zv1, zv2, zv3, zv4, zv5, zv6, zv7, zv8, zv9, zv10, zv11, zv12, zv13, zv14, zv15, zv16, zv17, zv18, zv19, zv20, zv21, zv22, zv23, zv24] at *; omega) | (intro hg; (try simp only [reduceCtorEq, ints_len, bools_len, bif_t, bif_f, zv0, zv1, zv2, zv3, zv4, zv5, zv6, zv7, zv8, zv9, zv10, zv11, zv12, zv13, zv14, zv15, zv16, zv17, zv18, zv19, zv20, zv21, zv22, zv23, zv24] at hg); first | (with_reducible assumption) | omega | (simp only [reduceCtorEq, ints_len, bools_len, bif_t, bif_f, zv0, zv1, zv2, zv3, zv4, zv5, zv6, zv7, zv8, zv9, zv10, zv11, zv12, zv13, zv14, zv15, zv16, zv17, zv18, zv19, zv20, zv21, zv22, zv23, zv24] at *; omega) | (refine ⟨?_, ?_⟩ <;> omega)) | (refine ⟨?_, ?_⟩ <;> omega) | (simp [*]; done) | grind)); (conv => whnf))))
  · have g1 := e
    refine ⟨[], false, false, ?_⟩
    conv => whnf
    refine ⟨_, _, ⟨_, rfl, rfl, rfl, rfl⟩, ?_⟩
    conv => whnf
    (repeat' (first | ((with_reducible refine And.intro (fun (e : (_ : Bool) = true) => ?_) (fun (e : (_ : Bool) = false) => ?_)) <;> (try simp only [reduceCtorEq, ints_len, bools_len, bif_t, bif_f, zv0, zv1, zv2, zv3, zv4, zv5, zv6, zv7, zv8, zv9, zv10, zv11, zv12, zv13, zv14, zv15, zv16, zv17, zv18, zv19, zv20, zv21, zv22, zv23, zv24] at e) <;> (conv => whnf)) | (refine And.intro ?_ ?_; ((first | (with_reducible assumption) | (intro _; with_reducible assumption) | omega | (simp only [reduceCtorEq, ints_len, bools_len, bif_t, bif_f, zv0, zv1, zv2, zv3, zv4, zv5, zv6, zv7, zv8, zv9, zv10, zv11, zv12, zv13, zv14, zv15, zv16, zv17, zv18, zv19, zv20, zv21, zv22, zv23, zv24] at *; omega) | (intro hg; (try simp only [reduceCtorEq, ints_len, bools_len, bif_t, bif_f, zv0, zv1, zv2, zv3, zv4, zv5, zv6, zv7, zv8, zv9, zv10, zv11, zv12, zv13, zv14, zv15, zv16, zv17, zv18, zv19, zv20, zv21, zv22, zv23, zv24] at hg); first | (with_reducible assumption) | omega | (simp only [reduceCtorEq, ints_len, bools_len, bif_t, bif_f, zv0, zv1, zv2, zv3, zv4, zv5, zv6, zv7, zv8, zv9, zv10, zv11, zv12, zv13, zv14, zv15, zv16, zv17, zv18, zv19, zv20, zv21, zv22, zv23, zv24] at *; omega) | (refine ⟨?_, ?_⟩ <;> omega)) | (refine ⟨?_, ?_⟩ <;> omega) | (simp [*]; done) | grind)); (conv => whnf))))
    · have g2 := e
      refine ⟨[], false, false, ?_⟩
      conv => whnf
      refine ⟨_, _, ⟨xs, [], fun n => !isNum n, rfl, rfl, hx, rfl, fun x _ => ⟨x, rfl, rfl, rfl, rfl⟩, rfl, rfl⟩, ?_⟩
      conv => whnf
      (repeat' (first | ((with_reducible refine And.intro (fun (e : (_ : Bool) = true) => ?_) (fun (e : (_ : Bool) = false) => ?_)) <;> (try simp only [reduceCtorEq, ints_len, bools_len, bif_t, bif_f, zv0, zv1, zv2, zv3, zv4, zv5, zv6, zv7, zv8, zv9, zv10, zv11, zv12, zv13, zv14, zv15, zv16, zv17, zv18, zv19, zv20, zv21, zv22, zv23, zv24] at e) <;> (conv => whnf)) | (refine And.intro ?_ ?_; ((first | (with_reducible assumption) | (intro _; with_reducible assumption) | omega | (simp only [reduceCtorEq, ints_len, bools_len, bif_t, bif_f, zv0, zv1, zv2, zv3, zv4, zv5, zv6, zv7, zv8, zv9, zv10, zv11, zv12, zv13, zv14, zv15, zv16, zv17, zv18, zv19, zv20, zv21, zv22, zv23, zv24] at *; omega) | (intro hg; (try simp only [reduceCtorEq, ints_len, bools_len, bif_t, bif_f, zv0, zv1, zv2, zv3, zv4, zv5, zv6, zv7, zv8, zv9, zv10, zv11, zv12, zv13, zv14, zv15, zv16, zv17, zv18, zv19, zv20, zv21, zv22, zv23, zv24] at hg); first | (with_reducible assumption) | omega | (simp only [reduceCtorEq, ints_len, bools_len, bif_t, bif_f, zv0, zv1, zv2, zv3, zv4, zv5, zv6, zv7, zv8, zv9, zv10, zv11, zv12, zv13, zv14, zv15, zv16, zv17, zv18, zv19, zv20, zv21, zv22, zv23, zv24] at *; omega) | (refine ⟨?_, ?_⟩ <;> omega)) | (refine ⟨?_, ?_⟩ <;> omega) | (simp [*]; done) | grind)); (conv => whnf))))
      (refine ⟨[], ?_⟩; (conv => whnf); refine ⟨[], .nil, .nil, ?_⟩; (conv => whnf))
      congr 1
      have h1 : decide (xs.length = l.length) = true := decide_eq_true (by omega)
      simp [refOk, isNum, g2.1.1, ints_len, g2.1.2, g2.2.1, g2.2.2, h1]
    · (refine ⟨[], ?_⟩; (conv => whnf); refine ⟨[], .nil, .nil, ?_⟩; (conv => whnf))
      congr 1
      rcases e with (e | e) | e
      · simp [refOk, isNum]; omega
      · simp [refOk, isNum]; omega
      · simp [refOk, isNum]; omega
  · (refine ⟨[], ?_⟩; (conv => whnf); refine ⟨[], .nil, .nil, ?_⟩; (conv => whnf))
    congr 1
    rename_i e2
    rcases e2 with e | e
    · simp [refOk, isNum]; omega
    · simp [refOk, isNum]; omega
end Go.Proofs.YtahdihhhankhdaaGreat.V
-- Vt
namespace Go.Proofs.YtahdihhhankhdaaGreat.V
open Go.Proofs.YtahdihhhankhdaaGreatVY Go.RowKit
def R9062 : Ct := fun ss hp r out => ∃ n : Int, ss = [.di .i64 n] ∧ hp = [] ∧ r = .db (decide (1 ≤ n ∧ n ≤ 64)) ∧ out = []
def R62 : Ct := fun ss hp r out => ∃ n : Int, ss = [.di .i64 n] ∧ hp = [] ∧ r = .db (isNum n) ∧ out = []
set_option maxHeartbeats 4000000 in
theorem ok62 : VSound Tryz.prog (62, R62) := by
  refine vsound (T := ty) (F := []) (pl := []) (nw := true) (cuts := []) mix tyOk .nil Tryz.func62 (by kernel_rfl) (by kernel_rfl) ?_
  rintro _ _ _ _ ⟨n, rfl, rfl, rfl, rfl⟩
  conv => whnf
  (repeat' (first | ((with_reducible refine And.intro (fun (e : (_ : Bool) = true) => ?_) (fun (e : (_ : Bool) = false) => ?_)) <;> (try simp only [reduceCtorEq, ints_len, bools_len, bif_t, bif_f, zv0, zv1, zv2, zv3, zv4, zv5, zv6, zv7, zv8, zv9, zv10, zv11, zv12, zv13, zv14, zv15, zv16, zv17, zv18, zv19, zv20, zv21, zv22, zv23, zv24] at e) <;> (conv => whnf)) | ((with_reducible refine And.intro (fun (e : (_ : Bool) = false) => ?_) (fun (e : (_ : Bool) = true) => ?_)) <;> (try simp only [reduceCtorEq, ints_len, bools_len, bif_t, bif_f, zv0, zv1, zv2, zv3, zv4, zv5, zv6, zv7, zv8, zv9, zv10, zv11, zv12, zv13, zv14, zv15, zv16, zv17, zv18, zv19, zv20, zv21, zv22, zv23, zv24] at e) <;> (conv => whnf)) | (refine And.intro ?_ ?_; ((first | (with_reducible assumption) | (intro _; with_reducible assumption) | omega | (simp only [reduceCtorEq, ints_len, bools_len, bif_t, bif_f, zv0, zv1, zv2, zv3, zv4, zv5, zv6, zv7, zv8, zv9, zv10, zv11, zv12, zv13, zv14, zv15, zv16, zv17, zv18, zv19, zv20, zv21, zv22, zv23, zv24] at *; omega) | (intro hg; (try simp only [reduceCtorEq, ints_len, bools_len, bif_t, bif_f, zv0, zv1, zv2, zv3, zv4, zv5, zv6, zv7, zv8, zv9, zv10, zv11, zv12, zv13, zv14, zv15, zv16, zv17, zv18, zv19, zv20, zv21, zv22, zv23, zv24] at hg); first | (with_reducible assumption) | omega | (simp only [reduceCtorEq, ints_len, bools_len, bif_t, bif_f, zv0, zv1, zv2, zv3, zv4, zv5, zv6, zv7, zv8, zv9, zv10, zv11, zv12, zv13, zv14, zv15, zv16, zv17, zv18, zv19, zv20, zv21, zv22, zv23, zv24] at *; omega) | (refine ⟨?_, ?_⟩ <;> omega)) | (refine ⟨?_, ?_⟩ <;> omega) | (simp [*]; done) | grind)); (conv => whnf))))
  (refine ⟨[], ?_⟩; (conv => whnf); refine ⟨[], .nil, .nil, ?_⟩; (conv => whnf))
  congr 1
  unfold isNum
  grind
theorem prod_zero : ∀ {l : List Int}, l.any (fun n => decide (n = 0)) = true → prod l = 0
  | x :: l, h => by
    rw [List.any_cons, Bool.or_eq_true] at h
    rcases h with h | h
    · have := of_decide_eq_true h; subst this; rw [prod, Int.zero_mul]
    · rw [prod, prod_zero h, Int.mul_zero]
theorem prod_ge : ∀ {l : List Int}, (∀ n ∈ l, 1 ≤ n) → 1 ≤ prod l
  | [], _ => by decide
  | x :: l, h => by
    have h1 := h x (List.mem_cons_self ..)
    have h2 := prod_ge fun n hn => h n (List.mem_cons_of_mem _ hn)
    rw [prod]
    have := Int.mul_le_mul h1 h2 (by decide) (by omega)
    omega
theorem any_take {α : Type} {p : α → Bool} {l : List α} {i : Nat} {x : α} (h : l[i]? = some x) : (l.take (i + 1)).any p = ((l.take i).any p || p x) := by
  rw [List.take_add_one, h, List.any_append]; simp
def R61 : Ct := fun ss hp r out => ∃ l : List Int, ss = [.one (.d (.sl 1 (l.map inC)))] ∧ hp = [] ∧ l.length < 4611686018427387904 ∧ r = .di .i64 (many l) ∧ out = []
set_option maxHeartbeats 4000000 in
theorem ok61 : VSound Tryz.prog (61, R61) := by
  refine vsound (T := ty) (F := []) (pl := []) (nw := true) (cuts := []) mix tyOk .nil Tryz.func61 (by kernel_rfl) (by kernel_rfl) ?_
  rintro _ _ _ _ ⟨l, rfl, rfl, hl, rfl, rfl⟩
  conv => whnf
  (repeat' (first | ((with_reducible refine And.intro (fun (e : (_ : Bool) = true) => ?_) (fun (e : (_ : Bool) = false) => ?_)) <;> (try simp only [reduceCtorEq, ints_len, bools_len, bif_t, bif_f, zv0, zv1, zv2, zv3, zv4, zv5, zv6, zv7, zv8, zv9, zv10, zv11, zv12, zv13, zv14, zv15, zv16, zv17, zv18, zv19, zv20, zv21, zv22, zv23, zv24] at e) <;> (conv => whnf)) | ((with_reducible refine And.intro (fun (e : (_ : Bool) = false) => ?_) (fun (e : (_ : Bool) = true) => ?_)) <;> (try simp only [reduceCtorEq, ints_len, bools_len, bif_t, bif_f, zv0, zv1, zv2, zv3, zv4, zv5, zv6, zv7, zv8, zv9, zv10, zv11, zv12, zv13, zv14, zv15, zv16, zv17, zv18, zv19, zv20, zv21, zv22, zv23, zv24] at e) <;> (conv => whnf)) | (refine And.intro ?_ ?_; ((first | (with_reducible assumption) | (intro _; with_reducible assumption) | omega | (simp only [reduceCtorEq, ints_len, bools_len, bif_t, bif_f, zv0, zv1, zv2, zv3, zv4, zv5, zv6, zv7, zv8, zv9, zv10, zv11, zv12, zv13, zv14, zv15, zv16, zv17, zv18, zv19, zv20, zv21, zv22, zv23, zv24] at *; omega) | (intro hg; (try simp only [reduceCtorEq, ints_len, bools_len, bif_t, bif_f, zv0, zv1, zv2, zv3, zv4, zv5, zv6, zv7, zv8, zv9, zv10, zv11, zv12, zv13, zv14, zv15, zv16, zv17, zv18, zv19, zv20, zv21, zv22, zv23, zv24] at hg); first | (with_reducible assumption) | omega | (simp only [reduceCtorEq, ints_len, bools_len, bif_t, bif_f, zv0, zv1, zv2, zv3, zv4, zv5, zv6, zv7, zv8, zv9, zv10, zv11, zv12, zv13, zv14, zv15, zv16, zv17, zv18, zv19, zv20, zv21, zv22, zv23, zv24] at *; omega) | (refine ⟨?_, ?_⟩ <;> omega)) | (refine ⟨?_, ?_⟩ <;> omega) | (simp [*]; done) | grind)); (conv => whnf))))
  · have e1 := e
    (refine ⟨[], ?_⟩; (conv => whnf); refine ⟨[], .nil, .nil, ?_⟩; (conv => whnf))
    congr 1
    unfold many
    rw [if_pos (by omega)]
  · have e1 := e
    refine ⟨[], [0, 3, 4], 0, fun n σ => ∃ i : Nat, i ≤ l.length ∧ n = l.length - i ∧ (∀ j < i, ∀ y, l[j]? = some y → 0 ≤ y ∧ y ≤ 400) ∧ σ = (⟨[.one (.d (.sl 1 (l.map inC))), .junk, .junk, .di .i64 (if (l.take i).any (fun n => decide (n = 0)) then 0 else 1), .di .i64 i, .junk, .junk, .junk, .junk, .junk, .junk, .junk, .junk, .junk, .junk, .junk, .junk, .junk, .junk, .junk, .junk, .junk, .junk, .junk, .junk, .junk, .junk, .junk, .junk, .junk, .junk, .junk, .junk, .junk, .junk, .junk, .junk, .junk, .junk, .junk, .junk, .junk, .junk, .junk, .junk, .junk, .junk, .junk, .junk, .junk, .junk, .junk, .junk, .junk, .junk, .junk], []⟩ : St), ?_, ?_⟩
    · refine ⟨l.length, ?_⟩
      conv => whnf
      exact ⟨0, by omega, by omega, by omega, rfl⟩
    · rintro n _ ⟨i, hi, rfl, hall, rfl⟩
      conv => whnf
      ((with_reducible refine And.intro (fun (e : (_ : Bool) = true) => ?_) (fun (e : (_ : Bool) = false) => ?_)) <;> (try simp only [reduceCtorEq, ints_len, bools_len, bif_t, bif_f, zv0, zv1, zv2, zv3, zv4, zv5, zv6, zv7, zv8, zv9, zv10, zv11, zv12, zv13, zv14, zv15, zv16, zv17, zv18, zv19, zv20, zv21, zv22, zv23, zv24] at e) <;> (conv => whnf))
      · obtain ⟨x, hx⟩ := get_lt (l := l) (i := i) (by omega)
        have ha := any_take (p := fun n : Int => decide (n = 0)) hx
        (refine ⟨_, And.intro ⟨by omega, enc_get hx⟩ ?_⟩; (conv => whnf))
        (repeat (refine And.intro ?_ ?_; ((first | (with_reducible assumption) | (intro _; with_reducible assumption) | omega | (simp only [reduceCtorEq, ints_len, bools_len, bif_t, bif_f, zv0, zv1, zv2, zv3, zv4, zv5, zv6, zv7, zv8, zv9, zv10, zv11, zv12, zv13, zv14, zv15, zv16, zv17, zv18, zv19, zv20, zv21, zv22, zv23, zv24] at *; omega) | (intro hg; (try simp only [reduceCtorEq, ints_len, bools_len, bif_t, bif_f, zv0, zv1, zv2, zv3, zv4, zv5, zv6, zv7, zv8, zv9, zv10, zv11, zv12, zv13, zv14, zv15, zv16, zv17, zv18, zv19, zv20, zv21, zv22, zv23, zv24] at hg); first | (with_reducible assumption) | omega | (simp only [reduceCtorEq, ints_len, bools_len, bif_t, bif_f, zv0, zv1, zv2, zv3, zv4, zv5, zv6, zv7, zv8, zv9, zv10, zv11, zv12, zv13, zv14, zv15, zv16, zv17, zv18, zv19, zv20, zv21, zv22, zv23, zv24] at *; omega) | (refine ⟨?_, ?_⟩ <;> omega)) | (refine ⟨?_, ?_⟩ <;> omega) | (simp [*]; done) | grind)); (conv => whnf)))
        (refine ⟨_, And.intro (fun _ => ⟨by omega, enc_get hx⟩) ?_⟩; (conv => whnf))
        (repeat (refine And.intro ?_ ?_; ((first | (with_reducible assumption) | (intro _; with_reducible assumption) | omega | (simp only [reduceCtorEq, ints_len, bools_len, bif_t, bif_f, zv0, zv1, zv2, zv3, zv4, zv5, zv6, zv7, zv8, zv9, zv10, zv11, zv12, zv13, zv14, zv15, zv16, zv17, zv18, zv19, zv20, zv21, zv22, zv23, zv24] at *; omega) | (intro hg; (try simp only [reduceCtorEq, ints_len, bools_len, bif_t, bif_f, zv0, zv1, zv2, zv3, zv4, zv5, zv6, zv7, zv8, zv9, zv10, zv11, zv12, zv13, zv14, zv15, zv16, zv17, zv18, zv19, zv20, zv21, zv22, zv23, zv24] at hg); first | (with_reducible assumption) | omega | (simp only [reduceCtorEq, ints_len, bools_len, bif_t, bif_f, zv0, zv1, zv2, zv3, zv4, zv5, zv6, zv7, zv8, zv9, zv10, zv11, zv12, zv13, zv14, zv15, zv16, zv17, zv18, zv19, zv20, zv21, zv22, zv23, zv24] at *; omega) | (refine ⟨?_, ?_⟩ <;> omega)) | (refine ⟨?_, ?_⟩ <;> omega) | (simp [*]; done) | grind)); (conv => whnf)))
        ((with_reducible refine And.intro (fun (e : (_ : Bool) = true) => ?_) (fun (e : (_ : Bool) = false) => ?_)) <;> (try simp only [reduceCtorEq, ints_len, bools_len, bif_t, bif_f, zv0, zv1, zv2, zv3, zv4, zv5, zv6, zv7, zv8, zv9, zv10, zv11, zv12, zv13, zv14, zv15, zv16, zv17, zv18, zv19, zv20, zv21, zv22, zv23, zv24] at e) <;> (conv => whnf))
        · have e2 := e
          (refine ⟨[], ?_⟩; (conv => whnf); refine ⟨[], .nil, .nil, ?_⟩; (conv => whnf))
          congr 1
          unfold many
          rw [if_pos]
          refine .inr (.inr (List.any_eq_true.2 ⟨x, List.mem_of_getElem? hx, ?_⟩))
          exact decide_eq_true (by omega)
        · have e2 := e
          (refine ⟨_, And.intro ⟨by omega, enc_get hx⟩ ?_⟩; (conv => whnf))
          ((with_reducible refine And.intro (fun (e : (_ : Bool) = true) => ?_) (fun (e : (_ : Bool) = false) => ?_)) <;> (try simp only [reduceCtorEq, ints_len, bools_len, bif_t, bif_f, zv0, zv1, zv2, zv3, zv4, zv5, zv6, zv7, zv8, zv9, zv10, zv11, zv12, zv13, zv14, zv15, zv16, zv17, zv18, zv19, zv20, zv21, zv22, zv23, zv24] at e) <;> (conv => whnf))
          · have e3 := e
            (refine And.intro ?_ ?_; ((first | (with_reducible assumption) | (intro _; with_reducible assumption) | omega | (simp only [reduceCtorEq, ints_len, bools_len, bif_t, bif_f, zv0, zv1, zv2, zv3, zv4, zv5, zv6, zv7, zv8, zv9, zv10, zv11, zv12, zv13, zv14, zv15, zv16, zv17, zv18, zv19, zv20, zv21, zv22, zv23, zv24] at *; omega) | (intro hg; (try simp only [reduceCtorEq, ints_len, bools_len, bif_t, bif_f, zv0, zv1, zv2, zv3, zv4, zv5, zv6, zv7, zv8, zv9, zv10, zv11, zv12, zv13, zv14, zv15, zv16, zv17, zv18, zv19, zv20, zv21, zv22, zv23, zv24] at hg); first | (with_reducible assumption) | omega | (simp only [reduceCtorEq, ints_len, bools_len, bif_t, bif_f, zv0, zv1, zv2, zv3, zv4, zv5, zv6, zv7, zv8, zv9, zv10, zv11, zv12, zv13, zv14, zv15, zv16, zv17, zv18, zv19, zv20, zv21, zv22, zv23, zv24] at *; omega) | (refine ⟨?_, ?_⟩ <;> omega)) | (refine ⟨?_, ?_⟩ <;> omega) | (simp [*]; done) | grind)); (conv => whnf))
            refine ⟨l.length - (i + 1), by omega, [], ?_⟩
            conv => whnf
            refine ⟨i + 1, by omega, rfl, fun j hj y hy => ?_, ?_⟩
            · by_cases ej : j = i
              · subst ej; rw [hx] at hy; cases hy; omega
              · exact hall j (by omega) y hy
            · rw [ha, show decide (x = 0) = true from decide_eq_true e3, Bool.or_true]; rfl
          · have e3 := e
            (refine And.intro ?_ ?_; ((first | (with_reducible assumption) | (intro _; with_reducible assumption) | omega | (simp only [reduceCtorEq, ints_len, bools_len, bif_t, bif_f, zv0, zv1, zv2, zv3, zv4, zv5, zv6, zv7, zv8, zv9, zv10, zv11, zv12, zv13, zv14, zv15, zv16, zv17, zv18, zv19, zv20, zv21, zv22, zv23, zv24] at *; omega) | (intro hg; (try simp only [reduceCtorEq, ints_len, bools_len, bif_t, bif_f, zv0, zv1, zv2, zv3, zv4, zv5, zv6, zv7, zv8, zv9, zv10, zv11, zv12, zv13, zv14, zv15, zv16, zv17, zv18, zv19, zv20, zv21, zv22, zv23, zv24] at hg); first | (with_reducible assumption) | omega | (simp only [reduceCtorEq, ints_len, bools_len, bif_t, bif_f, zv0, zv1, zv2, zv3, zv4, zv5, zv6, zv7, zv8, zv9, zv10, zv11, zv12, zv13, zv14, zv15, zv16, zv17, zv18, zv19, zv20, zv21, zv22, zv23, zv24] at *; omega) | (refine ⟨?_, ?_⟩ <;> omega)) | (refine ⟨?_, ?_⟩ <;> omega) | (simp [*]; done) | grind)); (conv => whnf))
            refine ⟨l.length - (i + 1), by omega, [], ?_⟩
            conv => whnf
            refine ⟨i + 1, by omega, rfl, fun j hj y hy => ?_, ?_⟩
            · by_cases ej : j = i
              · subst ej; rw [hx] at hy; cases hy; omega
              · exact hall j (by omega) y hy
            · rw [ha, show decide (x = 0) = false from decide_eq_false e3, Bool.or_false]; rfl
      · have hi' : i = l.length := by omega
        subst hi'
        rw [List.take_length]
        have hok : l.any (fun n => decide (n < 0 ∨ 400 < n)) = false := by
          rw [List.any_eq_false]
          intro y hy
          obtain ⟨j, hj⟩ := List.getElem?_of_mem hy
          have := hall j ((List.getElem?_eq_some_iff.1 hj).1) y hj
          simp; omega
        have hm : many l = if 400 < prod l then -1 else prod l := by
          unfold many
          rw [if_neg]
          rintro (h | h | h)
          · omega
          · omega
          · rw [hok] at h; cases h
        have hb3 := prod_bd3 hok (by omega)
        rw [hm]
        cases hz : l.any (fun n => decide (n = 0)) with
        | true =>
          have hp0 := prod_zero hz
          refine ⟨[], [0, 3, 5], 0, fun n σ => n = 0 ∧ σ = (⟨[.one (.d (.sl 1 (l.map inC))), .junk, .junk, .di .i64 0, .junk, .di .i64 0, .junk, .junk, .junk, .junk, .junk, .junk, .junk, .junk, .junk, .junk, .junk, .junk, .junk, .junk, .junk, .junk, .junk, .junk, .junk, .junk, .junk, .junk, .junk, .junk, .junk, .junk, .junk, .junk, .junk, .junk, .junk, .junk, .junk, .junk, .junk, .junk, .junk, .junk, .junk, .junk, .junk, .junk, .junk, .junk, .junk, .junk, .junk, .junk, .junk, .junk], []⟩ : St), ?_, ?_⟩
          · refine ⟨0, ?_⟩
            conv => whnf
            exact ⟨rfl, rfl⟩
          · rintro n _ ⟨rfl, rfl⟩
            conv => whnf
            (repeat (refine And.intro ?_ ?_; ((first | (with_reducible assumption) | (intro _; with_reducible assumption) | omega | (simp only [reduceCtorEq, ints_len, bools_len, bif_t, bif_f, zv0, zv1, zv2, zv3, zv4, zv5, zv6, zv7, zv8, zv9, zv10, zv11, zv12, zv13, zv14, zv15, zv16, zv17, zv18, zv19, zv20, zv21, zv22, zv23, zv24] at *; omega) | (intro hg; (try simp only [reduceCtorEq, ints_len, bools_len, bif_t, bif_f, zv0, zv1, zv2, zv3, zv4, zv5, zv6, zv7, zv8, zv9, zv10, zv11, zv12, zv13, zv14, zv15, zv16, zv17, zv18, zv19, zv20, zv21, zv22, zv23, zv24] at hg); first | (with_reducible assumption) | omega | (simp only [reduceCtorEq, ints_len, bools_len, bif_t, bif_f, zv0, zv1, zv2, zv3, zv4, zv5, zv6, zv7, zv8, zv9, zv10, zv11, zv12, zv13, zv14, zv15, zv16, zv17, zv18, zv19, zv20, zv21, zv22, zv23, zv24] at *; omega) | (refine ⟨?_, ?_⟩ <;> omega)) | (refine ⟨?_, ?_⟩ <;> omega) | (simp [*]; done) | grind)); (conv => whnf)))
            intro e
            conv => whnf
            (repeat (refine And.intro ?_ ?_; ((first | (with_reducible assumption) | (intro _; with_reducible assumption) | omega | (simp only [reduceCtorEq, ints_len, bools_len, bif_t, bif_f, zv0, zv1, zv2, zv3, zv4, zv5, zv6, zv7, zv8, zv9, zv10, zv11, zv12, zv13, zv14, zv15, zv16, zv17, zv18, zv19, zv20, zv21, zv22, zv23, zv24] at *; omega) | (intro hg; (try simp only [reduceCtorEq, ints_len, bools_len, bif_t, bif_f, zv0, zv1, zv2, zv3, zv4, zv5, zv6, zv7, zv8, zv9, zv10, zv11, zv12, zv13, zv14, zv15, zv16, zv17, zv18, zv19, zv20, zv21, zv22, zv23, zv24] at hg); first | (with_reducible assumption) | omega | (simp only [reduceCtorEq, ints_len, bools_len, bif_t, bif_f, zv0, zv1, zv2, zv3, zv4, zv5, zv6, zv7, zv8, zv9, zv10, zv11, zv12, zv13, zv14, zv15, zv16, zv17, zv18, zv19, zv20, zv21, zv22, zv23, zv24] at *; omega) | (refine ⟨?_, ?_⟩ <;> omega)) | (refine ⟨?_, ?_⟩ <;> omega) | (simp [*]; done) | grind)); (conv => whnf)))
            intro e
            conv => whnf
            (refine ⟨[], ?_⟩; (conv => whnf); refine ⟨[], .nil, .nil, ?_⟩; (conv => whnf))
            congr 1
            rw [hp0]; decide
        | false =>
          have hge : ∀ i, 1 ≤ prod (l.take i) := fun i => prod_ge fun n hn => by
            have hn' := List.mem_of_mem_take hn
            obtain ⟨j, hj⟩ := List.getElem?_of_mem hn'
            have := hall j ((List.getElem?_eq_some_iff.1 hj).1) n hj
            have h0 := List.any_eq_false.1 hz n hn'
            simp at h0
            omega
          refine ⟨[], [0, 3, 5], 0, fun n σ => ∃ i : Nat, i ≤ l.length ∧ n = l.length - i ∧ σ = (⟨[.one (.d (.sl 1 (l.map inC))), .junk, .junk, .di .i64 (prod (l.take i)), .junk, .di .i64 i, .junk, .junk, .junk, .junk, .junk, .junk, .junk, .junk, .junk, .junk, .junk, .junk, .junk, .junk, .junk, .junk, .junk, .junk, .junk, .junk, .junk, .junk, .junk, .junk, .junk, .junk, .junk, .junk, .junk, .junk, .junk, .junk, .junk, .junk, .junk, .junk, .junk, .junk, .junk, .junk, .junk, .junk, .junk, .junk, .junk, .junk, .junk, .junk, .junk, .junk], []⟩ : St), ?_, ?_⟩
          · refine ⟨l.length, ?_⟩
            conv => whnf
            exact ⟨0, by omega, by omega, rfl⟩
          · rintro n _ ⟨i, hi, rfl, rfl⟩
            have hgi := hge i
            have hbi := hb3 i
            conv => whnf
            (repeat (refine And.intro ?_ ?_; ((first | (with_reducible assumption) | (intro _; with_reducible assumption) | omega | (simp only [reduceCtorEq, ints_len, bools_len, bif_t, bif_f, zv0, zv1, zv2, zv3, zv4, zv5, zv6, zv7, zv8, zv9, zv10, zv11, zv12, zv13, zv14, zv15, zv16, zv17, zv18, zv19, zv20, zv21, zv22, zv23, zv24] at *; omega) | (intro hg; (try simp only [reduceCtorEq, ints_len, bools_len, bif_t, bif_f, zv0, zv1, zv2, zv3, zv4, zv5, zv6, zv7, zv8, zv9, zv10, zv11, zv12, zv13, zv14, zv15, zv16, zv17, zv18, zv19, zv20, zv21, zv22, zv23, zv24] at hg); first | (with_reducible assumption) | omega | (simp only [reduceCtorEq, ints_len, bools_len, bif_t, bif_f, zv0, zv1, zv2, zv3, zv4, zv5, zv6, zv7, zv8, zv9, zv10, zv11, zv12, zv13, zv14, zv15, zv16, zv17, zv18, zv19, zv20, zv21, zv22, zv23, zv24] at *; omega) | (refine ⟨?_, ?_⟩ <;> omega)) | (refine ⟨?_, ?_⟩ <;> omega) | (simp [*]; done) | grind)); (conv => whnf)))
            ((with_reducible refine And.intro (fun (e : (_ : Bool) = true) => ?_) (fun (e : (_ : Bool) = false) => ?_)) <;> (try simp only [reduceCtorEq, ints_len, bools_len, bif_t, bif_f, zv0, zv1, zv2, zv3, zv4, zv5, zv6, zv7, zv8, zv9, zv10, zv11, zv12, zv13, zv14, zv15, zv16, zv17, zv18, zv19, zv20, zv21, zv22, zv23, zv24] at e) <;> (conv => whnf))
            · obtain ⟨x, hx⟩ := get_lt (l := l) (i := i) (by omega)
              have hp := prod_take hx
              have hb1 := hb3 (i + 1)
              rw [hp] at hb1
              (refine ⟨_, And.intro ⟨by omega, enc_get hx⟩ ?_⟩; (conv => whnf))
              (refine And.intro ?_ ?_; ((first | (with_reducible assumption) | (intro _; with_reducible assumption) | omega | (simp only [reduceCtorEq, ints_len, bools_len, bif_t, bif_f, zv0, zv1, zv2, zv3, zv4, zv5, zv6, zv7, zv8, zv9, zv10, zv11, zv12, zv13, zv14, zv15, zv16, zv17, zv18, zv19, zv20, zv21, zv22, zv23, zv24] at *; omega) | (intro hg; (try simp only [reduceCtorEq, ints_len, bools_len, bif_t, bif_f, zv0, zv1, zv2, zv3, zv4, zv5, zv6, zv7, zv8, zv9, zv10, zv11, zv12, zv13, zv14, zv15, zv16, zv17, zv18, zv19, zv20, zv21, zv22, zv23, zv24] at hg); first | (with_reducible assumption) | omega | (simp only [reduceCtorEq, ints_len, bools_len, bif_t, bif_f, zv0, zv1, zv2, zv3, zv4, zv5, zv6, zv7, zv8, zv9, zv10, zv11, zv12, zv13, zv14, zv15, zv16, zv17, zv18, zv19, zv20, zv21, zv22, zv23, zv24] at *; omega) | (refine ⟨?_, ?_⟩ <;> omega)) | (refine ⟨?_, ?_⟩ <;> omega) | (simp [*]; done) | grind)); (conv => whnf))
              (refine And.intro ?_ ?_; ((first | (with_reducible assumption) | (intro _; with_reducible assumption) | omega | (simp only [reduceCtorEq, ints_len, bools_len, bif_t, bif_f, zv0, zv1, zv2, zv3, zv4, zv5, zv6, zv7, zv8, zv9, zv10, zv11, zv12, zv13, zv14, zv15, zv16, zv17, zv18, zv19, zv20, zv21, zv22, zv23, zv24] at *; omega) | (intro hg; (try simp only [reduceCtorEq, ints_len, bools_len, bif_t, bif_f, zv0, zv1, zv2, zv3, zv4, zv5, zv6, zv7, zv8, zv9, zv10, zv11, zv12, zv13, zv14, zv15, zv16, zv17, zv18, zv19, zv20, zv21, zv22, zv23, zv24] at hg); first | (with_reducible assumption) | omega | (simp only [reduceCtorEq, ints_len, bools_len, bif_t, bif_f, zv0, zv1, zv2, zv3, zv4, zv5, zv6, zv7, zv8, zv9, zv10, zv11, zv12, zv13, zv14, zv15, zv16, zv17, zv18, zv19, zv20, zv21, zv22, zv23, zv24] at *; omega) | (refine ⟨?_, ?_⟩ <;> omega)) | (refine ⟨?_, ?_⟩ <;> omega) | (simp [*]; done) | grind)); (conv => whnf))
              refine ⟨l.length - (i + 1), by omega, [], ?_⟩
              conv => whnf
              refine ⟨i + 1, by omega, rfl, ?_⟩
              rw [hp]; rfl
            · have hi' : i = l.length := by omega
              subst hi'
              rw [List.take_length]
              ((with_reducible refine And.intro (fun (e : (_ : Bool) = true) => ?_) (fun (e : (_ : Bool) = false) => ?_)) <;> (try simp only [reduceCtorEq, ints_len, bools_len, bif_t, bif_f, zv0, zv1, zv2, zv3, zv4, zv5, zv6, zv7, zv8, zv9, zv10, zv11, zv12, zv13, zv14, zv15, zv16, zv17, zv18, zv19, zv20, zv21, zv22, zv23, zv24] at e) <;> (conv => whnf))
              · (refine ⟨[], ?_⟩; (conv => whnf); refine ⟨[], .nil, .nil, ?_⟩; (conv => whnf))
                congr 1
                rw [if_pos e]
              · (refine ⟨[], ?_⟩; (conv => whnf); refine ⟨[], .nil, .nil, ?_⟩; (conv => whnf))
                congr 1
                rw [if_neg (by omega)]
def R40 : Ct := fun ss hp r out => ∃ (l : List Int) (x : Ref), ss = [.one (.d (.sl 1 (l.map inC))), .v (.ag (x.c.map .d))] ∧ hp = [] ∧ l.length < 4611686018427387904 ∧ x.str.length < 4611686018427387904 ∧ r = .db (refOk l x) ∧ out = []
set_option maxHeartbeats 4000000 in
theorem ok40 : VSound Tryz.prog (40, R40) := by
  refine vsound (T := ty) (F := [(61, R61), (62, R62)]) (pl := []) (nw := true) (cuts := []) mix tyOk (.cons (ok61) (.cons (ok62) .nil)) Tryz.func40 (by kernel_rfl) (by kernel_rfl) ?_
  rintro _ _ _ _ ⟨l, ⟨xa, xb, xs⟩, rfl, rfl, hl, hx, rfl, rfl⟩
  conv => whnf
  (refine ⟨[], false, false, ?_⟩; (conv => whnf); refine ⟨_, _, ⟨l, rfl, rfl, hl, rfl, rfl⟩, ?_⟩; (conv => whnf))
  (repeat' (first | ((with_reducible refine And.intro (fun (e : (_ : Bool) = true) => ?_) (fun (e : (_ : Bool) = false) => ?_)) <;> (try simp only [reduceCtorEq, ints_len, bools_len, bif_t, bif_f, zv0, zv1, zv2, zv3, zv4, zv5, zv6, zv7, zv8, zv9, zv10, zv11, zv12, zv13, zv14, zv15, zv16, zv17, zv18, zv19, zv20, zv21, zv22, zv23, zv24] at e) <;> (conv => whnf)) | ((with_reducible refine And.intro (fun (e : (_ : Bool) = false) => ?_) (fun (e : (_ : Bool) = true) => ?_)) <;> (try simp only [reduceCtorEq, ints_len, bools_len, bif_t, bif_f, zv0, zv1, zv2, zv3, zv4, zv5, zv6, zv7, zv8, zv9, zv10, zv11, zv12, zv13, zv14, zv15, zv16, zv17, zv18, zv19, zv20, zv21, zv22, zv23, zv24] at e) <;> (conv => whnf)) | (refine And.intro ?_ ?_; ((first | (with_reducible assumption) | (intro _; with_reducible assumption) | omega | (simp only [reduceCtorEq, ints_len, bools_len, bif_t, bif_f, zv0, zv1, zv2, zv3, zv4, zv5, zv6, zv7, zv8, zv9, zv10, zv11, zv12, zv13, zv14, zv15, zv16, zv17, zv18, zv19, zv20, zv21, zv22, zv23, zv24] at *; omega) | (intro hg; (try simp only [reduceCtorEq, ints_len, bools_len, bif_t, bif_f, zv0, zv1, zv2, zv3, zv4, zv5, zv6, zv7, zv8, zv9, zv10, zv11, zv12, zv13, zv14, zv15, zv16, zv17, zv18, zv19, zv20, zv21, zv22, zv23, zv24] at hg); first | (with_reducible assumption) | omega | (simp only [reduceCtorEq, ints_len, bools_len, bif_t, bif_f, zv0, zv1, zv2, zv3, zv4, zv5, zv6, zv7, zv8, zv9, zv10, zv11, zv12, zv13, zv14, zv15, zv16, zv17, zv18, zv19, zv20, zv21, zv22, zv23, zv24] at *; omega) | (refine ⟨?_, ?_⟩ <;> omega)) | (refine ⟨?_, ?_⟩ <;> omega) | (simp [*]; done) | grind)); (conv => whnf))))
  · (refine ⟨[], false, false, ?_⟩; (conv => whnf); refine ⟨_, _, ⟨_, rfl, rfl, rfl, rfl⟩, ?_⟩; (conv => whnf))
    (repeat' (first | ((with_reducible refine And.intro (fun (e : (_ : Bool) = true) => ?_) (fun (e : (_ : Bool) = false) => ?_)) <;> (try simp only [reduceCtorEq, ints_len, bools_len, bif_t, bif_f, zv0, zv1, zv2, zv3, zv4, zv5, zv6, zv7, zv8, zv9, zv10, zv11, zv12, zv13, zv14, zv15, zv16, zv17, zv18, zv19, zv20, zv21, zv22, zv23, zv24] at e) <;> (conv => whnf)) | ((with_reducible refine And.intro (fun (e : (_ : Bool) = false) => ?_) (fun (e : (_ : Bool) = true) => ?_)) <;> (try simp only [reduceCtorEq, ints_len, bools_len, bif_t, bif_f, zv0, zv1, zv2, zv3, zv4, zv5, zv6, zv7, zv8, zv9, zv10, zv11, zv12, zv13, zv14, zv15, zv16, zv17, zv18, zv19, zv20, zv21, zv22, zv23, zv24] at e) <;> (conv => whnf)) | (refine And.intro ?_ ?_; ((first | (with_reducible assumption) | (intro _; with_reducible assumption) | omega | (simp only [reduceCtorEq, ints_len, bools_len, bif_t, bif_f, zv0, zv1, zv2, zv3, zv4, zv5, zv6, zv7, zv8, zv9, zv10, zv11, zv12, zv13, zv14, zv15, zv16, zv17, zv18, zv19, zv20, zv21, zv22, zv23, zv24] at *; omega) | (intro hg; (try simp only [reduceCtorEq, ints_len, bools_len, bif_t, bif_f, zv0, zv1, zv2, zv3, zv4, zv5, zv6, zv7, zv8, zv9, zv10, zv11, zv12, zv13, zv14, zv15, zv16, zv17, zv18, zv19, zv20, zv21, zv22, zv23, zv24] at hg); first | (with_reducible assumption) | omega | (simp only [reduceCtorEq, ints_len, bools_len, bif_t, bif_f, zv0, zv1, zv2, zv3, zv4, zv5, zv6, zv7, zv8, zv9, zv10, zv11, zv12, zv13, zv14, zv15, zv16, zv17, zv18, zv19, zv20, zv21, zv22, zv23, zv24] at *; omega) | (refine ⟨?_, ?_⟩ <;> omega)) | (refine ⟨?_, ?_⟩ <;> omega) | (simp [*]; done) | grind)); (conv => whnf))))
    · have e2 := e
      (refine ⟨[], ?_⟩; (conv => whnf); refine ⟨[], .nil, .nil, ?_⟩; (conv => whnf))
      congr 1
      refine (Bool.eq_false_iff.2 fun h => ?_).symm
      unfold refOk at h
      simp only [Bool.and_eq_true, decide_eq_true_eq] at h
      try simp only [reduceCtorEq, ints_len, bools_len, bif_t, bif_f, zv0, zv1, zv2, zv3, zv4, zv5, zv6, zv7, zv8, zv9, zv10, zv11, zv12, zv13, zv14, zv15, zv16, zv17, zv18, zv19, zv20, zv21, zv22, zv23, zv24] at e2
      grind
    · have e2 := e
      refine ⟨[], [3, 5], 1, fun n σ => ∃ i : Nat, i ≤ xs.length ∧ n = xs.length - i ∧ (∀ j < i, ∀ y, xs[j]? = some y → isNum y = true) ∧ σ = (⟨[.junk, .junk, .junk, .one (.ptr 0 0), .junk, .di .i64 i, .junk, .junk, .junk, .junk, .junk, .junk, .junk, .junk, .junk, .junk, .junk, .junk, .junk, .junk, .junk, .junk, .junk, .junk, .junk, .junk, .junk, .junk, .junk, .junk, .junk, .junk, .junk, .junk, .junk, .junk, .junk], [.box (List.map .d (Ref.mk xa xb xs).c)]⟩ : St), ?_, ?_⟩
      · refine ⟨xs.length, ?_⟩
        conv => whnf
        exact ⟨0, by omega, by omega, by omega, rfl⟩
      · rintro n _ ⟨i, hi, rfl, hall, rfl⟩
        conv => whnf
        ((with_reducible refine And.intro (fun (e : (_ : Bool) = true) => ?_) (fun (e : (_ : Bool) = false) => ?_)) <;> (try simp only [reduceCtorEq, ints_len, bools_len, bif_t, bif_f, zv0, zv1, zv2, zv3, zv4, zv5, zv6, zv7, zv8, zv9, zv10, zv11, zv12, zv13, zv14, zv15, zv16, zv17, zv18, zv19, zv20, zv21, zv22, zv23, zv24] at e) <;> (conv => whnf))
        · obtain ⟨x, hx⟩ := get_lt (l := xs) (i := i) (by omega)
          (refine ⟨_, And.intro ⟨by omega, enc_get hx⟩ ?_⟩; (conv => whnf))
          (refine ⟨[], false, false, ?_⟩; (conv => whnf); refine ⟨_, _, ⟨_, rfl, rfl, rfl, rfl⟩, ?_⟩; (conv => whnf))
          ((with_reducible refine And.intro (fun (e : (_ : Bool) = true) => ?_) (fun (e : (_ : Bool) = false) => ?_)) <;> (try simp only [reduceCtorEq, ints_len, bools_len, bif_t, bif_f, zv0, zv1, zv2, zv3, zv4, zv5, zv6, zv7, zv8, zv9, zv10, zv11, zv12, zv13, zv14, zv15, zv16, zv17, zv18, zv19, zv20, zv21, zv22, zv23, zv24] at e) <;> (conv => whnf))
          · have e3 := e
            (refine ⟨[], ?_⟩; (conv => whnf); refine ⟨[], .nil, .nil, ?_⟩; (conv => whnf))
            congr 1
            refine (Bool.eq_false_iff.2 fun h => ?_).symm
            unfold refOk at h
            simp only [Bool.and_eq_true, Bool.not_eq_true', List.any_eq_false] at h
            have := h.2.2.2 x (List.mem_of_getElem? hx)
            simp at this
            simp [this] at e3
          · have e3 := e
            (refine And.intro ?_ ?_; ((first | (with_reducible assumption) | (intro _; with_reducible assumption) | omega | (simp only [reduceCtorEq, ints_len, bools_len, bif_t, bif_f, zv0, zv1, zv2, zv3, zv4, zv5, zv6, zv7, zv8, zv9, zv10, zv11, zv12, zv13, zv14, zv15, zv16, zv17, zv18, zv19, zv20, zv21, zv22, zv23, zv24] at *; omega) | (intro hg; (try simp only [reduceCtorEq, ints_len, bools_len, bif_t, bif_f, zv0, zv1, zv2, zv3, zv4, zv5, zv6, zv7, zv8, zv9, zv10, zv11, zv12, zv13, zv14, zv15, zv16, zv17, zv18, zv19, zv20, zv21, zv22, zv23, zv24] at hg); first | (with_reducible assumption) | omega | (simp only [reduceCtorEq, ints_len, bools_len, bif_t, bif_f, zv0, zv1, zv2, zv3, zv4, zv5, zv6, zv7, zv8, zv9, zv10, zv11, zv12, zv13, zv14, zv15, zv16, zv17, zv18, zv19, zv20, zv21, zv22, zv23, zv24] at *; omega) | (refine ⟨?_, ?_⟩ <;> omega)) | (refine ⟨?_, ?_⟩ <;> omega) | (simp [*]; done) | grind)); (conv => whnf))
            refine ⟨xs.length - (i + 1), by omega, [], ?_⟩
            conv => whnf
            refine ⟨i + 1, by omega, rfl, fun j hj y hy => ?_, rfl⟩
            by_cases ej : j = i
            · subst ej; rw [hx] at hy; cases hy; simpa using e3
            · exact hall j (by omega) y hy
        · (refine ⟨[], ?_⟩; (conv => whnf); refine ⟨[], .nil, .nil, ?_⟩; (conv => whnf))
          congr 1
          try simp only [reduceCtorEq, ints_len, bools_len, bif_t, bif_f, zv0, zv1, zv2, zv3, zv4, zv5, zv6, zv7, zv8, zv9, zv10, zv11, zv12, zv13, zv14, zv15, zv16, zv17, zv18, zv19, zv20, zv21, zv22, zv23, zv24] at e2
          unfold refOk
          have h4 : (xs.any fun n => !isNum n) = false := by
            rw [List.any_eq_false]
            intro y hy
            obtain ⟨j, hj⟩ := List.getElem?_of_mem hy
            have := hall j (by have := (List.getElem?_eq_some_iff.1 hj).1; omega) y hj
            simp [this]
          simp only [h4]
          simp
          grind
  · have e2 := e
    (refine ⟨[], ?_⟩; (conv => whnf); refine ⟨[], .nil, .nil, ?_⟩; (conv => whnf))
    congr 1
    refine (Bool.eq_false_iff.2 fun h => ?_).symm
    unfold refOk at h
    simp only [Bool.and_eq_true, decide_eq_true_eq] at h
    simp only [reduceCtorEq, ints_len, bools_len, bif_t, bif_f, zv0, zv1, zv2, zv3, zv4, zv5, zv6, zv7, zv8, zv9, zv10, zv11, zv12, zv13, zv14, zv15, zv16, zv17, zv18, zv19, zv20, zv21, zv22, zv23, zv24] at *
    grind
end Go.Proofs.YtahdihhhankhdaaGreat.V
-- Vf
namespace Go.Proofs.YtahdihhhankhdaaGreat.V
open Go.Proofs.YtahdihhhankhdaaGreatVY Go.RowKit
mutual
def Tree.bulk : Tree → Nat
  | .mk op kind n ref kids => treesBulk kids + ref.str.length + 1
def treesBulk : List Tree → Nat
  | [] => 0
  | t :: l => t.bulk + treesBulk l
end
def isLoad (s : ByteArray) : Bool := s.toList == (ByteArray.mk #[108, 111, 97, 100]).toList
mutual
def Tree.loads : Tree → List Ref
  | .mk op kind n ref kids => treesLoads kids ++ if isLoad op then [ref] else []
def treesLoads : List Tree → List Ref
  | [] => []
  | t :: l => t.loads ++ treesLoads l
end
theorem treesLoads_snoc (t : Tree) : ∀ l : List Tree, treesLoads (l ++ [t]) = treesLoads l ++ t.loads
  | [] => by simp [treesLoads]
  | x :: l => by rw [List.cons_append, treesLoads, treesLoads_snoc t l, treesLoads, List.append_assoc]
theorem treesLoads_take {l : List Tree} {i : Nat} {x : Tree} (h : l[i]? = some x) : treesLoads (l.take (i + 1)) = treesLoads (l.take i) ++ x.loads := by
  rw [List.take_add_one, h]; exact treesLoads_snoc ..
theorem treesBulk_get : ∀ {l : List Tree} {i : Nat} {x : Tree}, l[i]? = some x → x.bulk ≤ treesBulk l
  | [], _, _, h => by simp at h
  | y :: l, 0, x, h => by simp at h; subst h; rw [treesBulk]; omega
  | y :: l, i + 1, x, h => by have := treesBulk_get (l := l) (i := i) (by simpa using h); rw [treesBulk]; omega
theorem Tree.bulk_pos : ∀ t : Tree, 1 ≤ t.bulk
  | .mk .. => by rw [Tree.bulk]; omega
theorem treesBulk_len : ∀ l : List Tree, l.length ≤ treesBulk l
  | [] => by simp [treesBulk]
  | t :: l => by have := treesBulk_len l; have := t.bulk_pos; rw [treesBulk, List.length_cons]; omega
theorem treesBulk_take : ∀ (l : List Tree) (i : Nat), treesBulk (l.take i) ≤ treesBulk l
  | [], i => by simp
  | t :: l, 0 => by simp [treesBulk]
  | t :: l, i + 1 => by have := treesBulk_take l i; rw [List.take_succ_cons, treesBulk, treesBulk]; omega
mutual
theorem Tree.loads_len : ∀ t : Tree, t.loads.length ≤ t.bulk
  | .mk op kind n ref kids => by
    have := treesLoads_len kids
    rw [Tree.loads, Tree.bulk, List.length_append]
    split <;> simp <;> omega
theorem treesLoads_len : ∀ l : List Tree, (treesLoads l).length ≤ treesBulk l
  | [] => by simp [treesLoads, treesBulk]
  | t :: l => by
    have := t.loads_len
    have := treesLoads_len l
    rw [treesLoads, treesBulk, List.length_append]; omega
end
def R43 (m : Nat) : Ct := fun ss hp r out => ∃ t : Tree, ss = [.v (.ag (t.c.map .d))] ∧ hp = [] ∧ t.bulk < m ∧ m ≤ 4194305 ∧ r = .one (.own 0) ∧ out = [.row 3 (t.loads.map Ref.c)]
theorem ok43_0 : VSound Tryz.prog (43, R43 0) := by
  refine .inl ⟨?_, enterB_ok (by kernel_rfl)⟩
  unfold Ok
  intros
  rename_i hR
  obtain ⟨t, _, _, h, _⟩ := hR
  omega
theorem trees_get {l : List Tree} {i : Nat} {x : Tree} (h : l[i]? = some x) : (treesC l)[(i : Int).toNat]? = some x.c := by
  rw [treesC_map]; exact enc_get h
set_option maxHeartbeats 4000000 in
theorem ok43_s (m : Nat) (ih : VSound Tryz.prog (43, R43 m)) : VSound Tryz.prog (43, R43 (m + 1)) := by
  refine vsound (T := ty) (F := [(43, R43 m)]) (pl := []) (nw := true) (cuts := []) mix tyOk (.cons (ih) .nil) Tryz.func43 (by kernel_rfl) (by kernel_rfl) ?_
  rintro _ _ _ _ ⟨⟨op, kind, n, ref, kids⟩, rfl, rfl, hm, hm2, rfl, rfl⟩
  rw [Tree.bulk] at hm
  have hkl := treesBulk_len kids
  conv => whnf
  refine ⟨[.slot 3 true], [1, 3, 7, 8, 9], 2, fun n1 σ => ∃ i : Nat, i ≤ kids.length ∧ n1 = kids.length - i ∧ σ = (⟨[.junk, .one (.ptr 0 0), .junk, .one (.own 1), .junk, .junk, .junk, .one (.d (.sl 7 (treesC kids))), .di .i64 kids.length, .di .i64 i, .junk, .junk, .junk, .junk, .junk, .junk, .junk, .junk, .junk, .junk, .junk, .junk, .junk, .junk, .junk, .junk, .junk], [.box (List.map .d (Tree.mk op kind n ref kids).c), .row 3 ((treesLoads (kids.take i)).map Ref.c)]⟩ : St), ?_, ?_⟩
  · refine ⟨kids.length, ?_⟩
    conv => whnf
    refine ⟨0, by omega, by omega, ?_⟩
    rw [treesC_map, map_len]; rfl
  · rintro n1 _ ⟨i, hi, rfl, rfl⟩
    conv => whnf
    ((with_reducible refine And.intro (fun (e : (_ : Bool) = true) => ?_) (fun (e : (_ : Bool) = false) => ?_)) <;> (try simp only [reduceCtorEq, ints_len, bools_len, bif_t, bif_f, zv0, zv1, zv2, zv3, zv4, zv5, zv6, zv7, zv8, zv9, zv10, zv11, zv12, zv13, zv14, zv15, zv16, zv17, zv18, zv19, zv20, zv21, zv22, zv23, zv24] at e) <;> (conv => whnf))
    · have hlt : i < kids.length := by omega
      obtain ⟨x, hget⟩ := get_lt hlt
      have hb := treesBulk_get hget
      have hl := treesLoads_take hget
      have hw := treesLoads_len (kids.take (i + 1))
      have hw2 := treesBulk_take kids (i + 1)
      refine ⟨_, And.intro ⟨?_, trees_get hget⟩ ?_⟩
      · omega
      obtain ⟨xop, xkind, xn, xref, xkids⟩ := x
      conv => whnf
      refine ⟨[], false, false, ?_⟩
      conv => whnf
      refine ⟨_, _, ⟨.mk xop xkind xn xref xkids, rfl, rfl, by omega, by omega, rfl, rfl⟩, ?_⟩
      conv => whnf
      rw [hl] at hw
      rw [List.length_append] at hw
      refine ⟨by rw [map_len, map_len]; omega, ?_⟩
      conv => whnf
      (refine And.intro ?_ ?_; ((first | (with_reducible assumption) | (intro _; with_reducible assumption) | omega | (simp only [reduceCtorEq, ints_len, bools_len, bif_t, bif_f, zv0, zv1, zv2, zv3, zv4, zv5, zv6, zv7, zv8, zv9, zv10, zv11, zv12, zv13, zv14, zv15, zv16, zv17, zv18, zv19, zv20, zv21, zv22, zv23, zv24] at *; omega) | (intro hg; (try simp only [reduceCtorEq, ints_len, bools_len, bif_t, bif_f, zv0, zv1, zv2, zv3, zv4, zv5, zv6, zv7, zv8, zv9, zv10, zv11, zv12, zv13, zv14, zv15, zv16, zv17, zv18, zv19, zv20, zv21, zv22, zv23, zv24] at hg); first | (with_reducible assumption) | omega | (simp only [reduceCtorEq, ints_len, bools_len, bif_t, bif_f, zv0, zv1, zv2, zv3, zv4, zv5, zv6, zv7, zv8, zv9, zv10, zv11, zv12, zv13, zv14, zv15, zv16, zv17, zv18, zv19, zv20, zv21, zv22, zv23, zv24] at *; omega) | (refine ⟨?_, ?_⟩ <;> omega)) | (refine ⟨?_, ?_⟩ <;> omega) | (simp [*]; done) | grind)); (conv => whnf))
      refine ⟨kids.length - (i + 1), by omega, [], ?_⟩
      conv => whnf
      refine ⟨i + 1, by omega, rfl, ?_⟩
      rw [hl, List.map_append]; rfl
    · have hi' : i = kids.length := by omega
      subst hi'
      rw [List.take_length]
      refine ⟨fun e => ?_, fun e => ?_⟩
      · conv => whnf
        refine ⟨by rw [map_len]; simp only [List.length_cons, List.length_nil]; have := treesLoads_len kids; omega, ?_⟩
        conv => whnf
        have hL : treesLoads kids ++ [ref] = (Tree.mk op kind n ref kids).loads := by rw [Tree.loads, if_pos (show isLoad op = true from e)]
        refine ⟨[], ?_⟩
        conv => whnf
        refine ⟨[1], by simp, .cons ⟨_, rfl, rfl, ?_⟩ .nil, rfl⟩
        rw [← hL, List.map_append]; first | done | rfl
      · conv => whnf
        have hL : treesLoads kids = (Tree.mk op kind n ref kids).loads := by rw [Tree.loads, if_neg (by rw [isLoad, e]; simp), List.append_nil]
        refine ⟨[], ?_⟩
        conv => whnf
        refine ⟨[1], by simp, .cons ⟨_, rfl, rfl, ?_⟩ .nil, rfl⟩
        rw [← hL]
theorem ok43 : ∀ m : Nat, VSound Tryz.prog (43, R43 m)
  | 0 => ok43_0
  | m + 1 => ok43_s m (ok43 m)
end Go.Proofs.YtahdihhhankhdaaGreat.V
-- Vg
namespace Go.Proofs.YtahdihhhankhdaaGreat.V
open Go.Proofs.YtahdihhhankhdaaGreatVY Go.RowKit
def ASet.bulk (s : ASet) : Nat := treesBulk s.mask + s.to.str.length + s.val.bulk + 1
def ASet.loads (s : ASet) : List Ref := treesLoads s.mask ++ s.val.loads
theorem ASet.loads_len (s : ASet) : s.loads.length ≤ s.bulk := by
  have := treesLoads_len s.mask
  have := s.val.loads_len
  rw [ASet.loads, ASet.bulk, List.length_append]; omega
def R27 : Ct := fun ss hp r out => ∃ s : ASet, ss = [.v (.ag (s.c.map .d))] ∧ hp = [] ∧ s.bulk ≤ 4194304 ∧ r = .one (.own 0) ∧ out = [.row 3 (s.loads.map Ref.c)]
set_option maxHeartbeats 4000000 in
theorem ok27 : VSound Tryz.prog (27, R27) := by
  refine vsound (T := ty) (F := [(43, R43 4194305)]) (pl := []) (nw := true) (cuts := []) mix tyOk (.cons (ok43 4194305) .nil) Tryz.func27 (by kernel_rfl) (by kernel_rfl) ?_
  rintro _ _ _ _ ⟨⟨⟨xa, xb, xs⟩, mask, ⟨op, kind, n, ref, kids⟩⟩, rfl, rfl, hm, rfl, rfl⟩
  simp only [ASet.bulk] at hm
  have hkl := treesBulk_len mask
  conv => whnf
  refine ⟨[.slot 3 true], [1, 3, 7, 8, 9], 2, fun n1 σ => ∃ i : Nat, i ≤ mask.length ∧ n1 = mask.length - i ∧ σ = (⟨[.junk, .one (.ptr 0 0), .junk, .one (.own 1), .junk, .junk, .junk, .one (.d (.sl 7 (mask.map Tree.c))), .di .i64 mask.length, .di .i64 i, .junk, .junk, .junk, .junk, .junk, .junk, .junk, .junk, .junk, .junk, .junk, .junk, .junk], [.box (List.map .d (ASet.mk ⟨xa, xb, xs⟩ mask ⟨op, kind, n, ref, kids⟩).c), .row 3 ((treesLoads (mask.take i)).map Ref.c)]⟩ : St), ?_, ?_⟩
  · refine ⟨mask.length, ?_⟩
    conv => whnf
    refine ⟨0, by omega, by omega, ?_⟩
    rw [map_len]; rfl
  · rintro n1 _ ⟨i, hi, rfl, rfl⟩
    conv => whnf
    ((with_reducible refine And.intro (fun (e : (_ : Bool) = true) => ?_) (fun (e : (_ : Bool) = false) => ?_)) <;> (try simp only [reduceCtorEq, ints_len, bools_len, bif_t, bif_f, zv0, zv1, zv2, zv3, zv4, zv5, zv6, zv7, zv8, zv9, zv10, zv11, zv12, zv13, zv14, zv15, zv16, zv17, zv18, zv19, zv20, zv21, zv22, zv23, zv24] at e) <;> (conv => whnf))
    · have hlt : i < mask.length := by omega
      obtain ⟨x, hget⟩ := get_lt hlt
      have hb := treesBulk_get hget
      have hl := treesLoads_take hget
      have hw := treesLoads_len (mask.take (i + 1))
      have hw2 := treesBulk_take mask (i + 1)
      refine ⟨_, And.intro ⟨?_, enc_get hget⟩ ?_⟩
      · omega
      obtain ⟨xop, xkind, xn, xref, xkids⟩ := x
      conv => whnf
      refine ⟨[], false, false, ?_⟩
      conv => whnf
      refine ⟨_, _, ⟨.mk xop xkind xn xref xkids, rfl, rfl, by omega, by omega, rfl, rfl⟩, ?_⟩
      conv => whnf
      rw [hl] at hw
      rw [List.length_append] at hw
      refine ⟨by rw [map_len, map_len]; omega, ?_⟩
      conv => whnf
      (refine And.intro ?_ ?_; ((first | (with_reducible assumption) | (intro _; with_reducible assumption) | omega | (simp only [reduceCtorEq, ints_len, bools_len, bif_t, bif_f, zv0, zv1, zv2, zv3, zv4, zv5, zv6, zv7, zv8, zv9, zv10, zv11, zv12, zv13, zv14, zv15, zv16, zv17, zv18, zv19, zv20, zv21, zv22, zv23, zv24] at *; omega) | (intro hg; (try simp only [reduceCtorEq, ints_len, bools_len, bif_t, bif_f, zv0, zv1, zv2, zv3, zv4, zv5, zv6, zv7, zv8, zv9, zv10, zv11, zv12, zv13, zv14, zv15, zv16, zv17, zv18, zv19, zv20, zv21, zv22, zv23, zv24] at hg); first | (with_reducible assumption) | omega | (simp only [reduceCtorEq, ints_len, bools_len, bif_t, bif_f, zv0, zv1, zv2, zv3, zv4, zv5, zv6, zv7, zv8, zv9, zv10, zv11, zv12, zv13, zv14, zv15, zv16, zv17, zv18, zv19, zv20, zv21, zv22, zv23, zv24] at *; omega) | (refine ⟨?_, ?_⟩ <;> omega)) | (refine ⟨?_, ?_⟩ <;> omega) | (simp [*]; done) | grind)); (conv => whnf))
      refine ⟨mask.length - (i + 1), by omega, [], ?_⟩
      conv => whnf
      refine ⟨i + 1, by omega, rfl, ?_⟩
      rw [hl, List.map_append]; rfl
    · have hi' : i = mask.length := by omega
      subst hi'
      rw [List.take_length]
      refine ⟨[], false, false, ?_⟩
      conv => whnf
      refine ⟨_, _, ⟨.mk op kind n ref kids, rfl, rfl, by omega, by omega, rfl, rfl⟩, ?_⟩
      conv => whnf
      have hw1 := treesLoads_len mask
      have hw2 := (Tree.mk op kind n ref kids).loads_len
      refine ⟨by rw [map_len, map_len]; omega, ?_⟩
      conv => whnf
      refine ⟨[], ?_⟩
      conv => whnf
      refine ⟨[1], by simp, .cons ⟨_, rfl, rfl, ?_⟩ .nil, rfl⟩
      rw [ASet.loads, List.map_append]
mutual
theorem Tree.loads_str (r : Ref) : ∀ t : Tree, r ∈ t.loads → r.str.length ≤ t.bulk
  | .mk op kind n ref kids => by
    intro h
    rw [Tree.loads, List.mem_append] at h
    rw [Tree.bulk]
    rcases h with h | h
    · have := treesLoads_str r kids h; omega
    · split at h
      · simp at h; subst h; omega
      · simp at h
theorem treesLoads_str (r : Ref) : ∀ l : List Tree, r ∈ treesLoads l → r.str.length ≤ treesBulk l
  | [] => by simp [treesLoads]
  | t :: l => by
    intro h
    rw [treesLoads, List.mem_append] at h
    rw [treesBulk]
    rcases h with h | h
    · have := t.loads_str r h; omega
    · have := treesLoads_str r l h; omega
end
theorem ASet.loads_str {r : Ref} {s : ASet} (h : r ∈ s.loads) : r.str.length ≤ s.bulk := by
  rw [ASet.loads, List.mem_append] at h
  rw [ASet.bulk]
  rcases h with h | h
  · have := treesLoads_str r _ h; omega
  · have := s.val.loads_str r h; omega
def R38 : Ct := fun ss hp r out => ∃ (k : Kern) (x : Ref), ss = [.v (.ag (x.c.map .d)), .one (.pel k.c)] ∧ hp = [] ∧ k.ext.length < 4611686018427387904 ∧ x.str.length < 4611686018427387904 ∧ r = .db (!refOk k.ext x) ∧ out = []
set_option maxHeartbeats 4000000 in
theorem ok38 : VSound Tryz.prog (38, R38) := by
  refine vsound (T := ty) (F := [(36, R36)]) (pl := []) (nw := true) (cuts := []) mix tyOk (.cons (ok36) .nil) Tryz.func38 (by kernel_rfl) (by kernel_rfl) ?_
  rintro _ _ _ _ ⟨⟨ext, sets⟩, ⟨xa, xb, xs⟩, rfl, rfl, hl, hx, rfl, rfl⟩
  conv => whnf
  refine ⟨[], false, false, ?_⟩
  conv => whnf
  refine ⟨_, _, ⟨ext, ⟨xa, xb, xs⟩, rfl, rfl, hl, hx, rfl, rfl⟩, ?_⟩
  conv => whnf
  (refine ⟨[], ?_⟩; (conv => whnf); refine ⟨[], .nil, .nil, ?_⟩; (conv => whnf))
def formed (k : Kern) : Bool := decide (0 ≤ many k.ext) && k.sets.all fun s => refOk k.ext s.to && s.loads.all (refOk k.ext)
theorem all_any {α : Type} (p : α → Bool) : ∀ l : List α, l.all p = !(l.any fun x => !p x)
  | [] => rfl
  | x :: l => by simp only [List.all_cons, List.any_cons, all_any p l]; cases p x <;> simp
theorem formed_not (ext : List Int) (sets : List ASet) {i : Nat} {s : ASet} (h : sets[i]? = some s) (hs : (refOk ext s.to && s.loads.all (refOk ext)) = false) : formed ⟨ext, sets⟩ = false := by
  unfold formed
  rw [Bool.and_eq_false_iff]
  right
  rw [List.all_eq_false]
  exact ⟨s, List.mem_of_getElem? h, by rw [hs]; decide⟩
def setsBulk : List ASet → Nat
  | [] => 0
  | s :: l => s.bulk + setsBulk l
def Kern.bulk (k : Kern) : Nat := k.ext.length + setsBulk k.sets
theorem setsBulk_get : ∀ {l : List ASet} {i : Nat} {x : ASet}, l[i]? = some x → x.bulk ≤ setsBulk l
  | [], _, _, h => by simp at h
  | y :: l, 0, x, h => by simp at h; subst h; rw [setsBulk]; omega
  | y :: l, i + 1, x, h => by have := setsBulk_get (l := l) (i := i) (by simpa using h); rw [setsBulk]; omega
theorem setsBulk_len : ∀ l : List ASet, l.length ≤ setsBulk l
  | [] => by simp [setsBulk]
  | s :: l => by have := setsBulk_len l; have : 1 ≤ s.bulk := by rw [ASet.bulk]; omega
                 rw [setsBulk, List.length_cons]; omega
def R17 : Ct := fun ss hp r out => ∃ k : Kern, ss = [.v (.ag (k.c.map .d))] ∧ hp = [] ∧ k.bulk ≤ 4194304 ∧ r = .db (formed k) ∧ out = []
set_option maxHeartbeats 4000000 in
theorem ok17 : VSound Tryz.prog (17, R17) := by
  refine vsound (T := ty) (F := [(27, R27), (34, R34), (36, R36), (37, R37 38 R38)]) (pl := []) (nw := true) (cuts := []) mix tyOk (.cons (ok27) (.cons (ok34) (.cons (ok36) (.cons (ok37 38 R38 ok38) .nil)))) Tryz.func17 (by kernel_rfl) (by kernel_rfl) ?_
  rintro _ _ _ _ ⟨⟨ext, sets⟩, rfl, rfl, hm, rfl, rfl⟩
  simp only [Kern.bulk] at hm
  have hkl := setsBulk_len sets
  conv => whnf
  refine ⟨[], false, false, ?_⟩
  conv => whnf
  refine ⟨_, _, ⟨ext, rfl, rfl, by omega, rfl, rfl⟩, ?_⟩
  conv => whnf
  ((with_reducible refine And.intro (fun (e : (_ : Bool) = true) => ?_) (fun (e : (_ : Bool) = false) => ?_)) <;> (try simp only [reduceCtorEq, ints_len, bools_len, bif_t, bif_f, zv0, zv1, zv2, zv3, zv4, zv5, zv6, zv7, zv8, zv9, zv10, zv11, zv12, zv13, zv14, zv15, zv16, zv17, zv18, zv19, zv20, zv21, zv22, zv23, zv24] at e) <;> (conv => whnf))
  · (refine ⟨[], ?_⟩; (conv => whnf); refine ⟨[], .nil, .nil, ?_⟩; (conv => whnf))
    congr 1
    simp [formed]; omega
  · have g1 := e
    refine ⟨[], [1, 10, 11, 12], 1, fun n1 σ => ∃ i : Nat, i ≤ sets.length ∧ n1 = sets.length - i ∧ (∀ j < i, ∀ s, sets[j]? = some s → (refOk ext s.to && s.loads.all (refOk ext)) = true) ∧ σ = (⟨[.junk, .one (.ptr 0 0), .junk, .junk, .junk, .junk, .junk, .junk, .junk, .junk, .one (.d (.sl 11 (sets.map ASet.c))), .di .i64 sets.length, .di .i64 i, .junk, .junk, .junk, .junk, .junk, .junk, .junk, .junk, .junk, .junk, .junk, .junk, .junk, .junk, .junk, .junk], [.box (List.map .d (Kern.mk ext sets).c)]⟩ : St), ?_, ?_⟩
    · refine ⟨sets.length, ?_⟩
      conv => whnf
      refine ⟨0, by omega, by omega, by omega, ?_⟩
      rw [map_len]; rfl
    · rintro n1 _ ⟨i, hi, rfl, hall, rfl⟩
      conv => whnf
      ((with_reducible refine And.intro (fun (e : (_ : Bool) = true) => ?_) (fun (e : (_ : Bool) = false) => ?_)) <;> (try simp only [reduceCtorEq, ints_len, bools_len, bif_t, bif_f, zv0, zv1, zv2, zv3, zv4, zv5, zv6, zv7, zv8, zv9, zv10, zv11, zv12, zv13, zv14, zv15, zv16, zv17, zv18, zv19, zv20, zv21, zv22, zv23, zv24] at e) <;> (conv => whnf))
      · have hlt : i < sets.length := by omega
        obtain ⟨x, hget⟩ := get_lt hlt
        have hb := setsBulk_get hget
        have hll := x.loads_len
        have hstr : ∀ r ∈ x.loads, r.str.length ≤ x.bulk := fun r hr => ASet.loads_str hr
        refine ⟨_, And.intro ⟨?_, enc_get hget⟩ ?_⟩
        · omega
        have hto : x.to.str.length ≤ x.bulk := by rw [ASet.bulk]; omega
        obtain ⟨⟨xa, xb, xs⟩, mask, ⟨op, kind, n, ref, kids⟩⟩ := x
        conv => whnf
        refine ⟨[], false, false, ?_⟩
        conv => whnf
        refine ⟨_, _, ⟨ext, ⟨xa, xb, xs⟩, rfl, rfl, by omega, by simp only at hto ⊢; omega, rfl, rfl⟩, ?_⟩
        conv => whnf
        refine ⟨fun e => ?_, fun e => ?_⟩
        · have he := e
          conv => whnf
          refine ⟨fun _ => e, ?_⟩
          conv => whnf
          refine ⟨[], false, false, ?_⟩
          conv => whnf
          refine ⟨_, _, ⟨⟨⟨xa, xb, xs⟩, mask, ⟨op, kind, n, ref, kids⟩⟩, rfl, rfl, by omega, rfl, rfl⟩, ?_⟩
          conv => whnf
          refine ⟨fun e => ?_, fun e => absurd (he.symm.trans e) (by decide)⟩
          conv => whnf
          (repeat' (first | ((with_reducible refine And.intro (fun (e : (_ : Bool) = true) => ?_) (fun (e : (_ : Bool) = false) => ?_)) <;> (try simp only [reduceCtorEq, ints_len, bools_len, bif_t, bif_f, zv0, zv1, zv2, zv3, zv4, zv5, zv6, zv7, zv8, zv9, zv10, zv11, zv12, zv13, zv14, zv15, zv16, zv17, zv18, zv19, zv20, zv21, zv22, zv23, zv24] at e) <;> (conv => whnf)) | (refine And.intro ?_ ?_; ((first | (with_reducible assumption) | (intro _; with_reducible assumption) | omega | (simp only [reduceCtorEq, ints_len, bools_len, bif_t, bif_f, zv0, zv1, zv2, zv3, zv4, zv5, zv6, zv7, zv8, zv9, zv10, zv11, zv12, zv13, zv14, zv15, zv16, zv17, zv18, zv19, zv20, zv21, zv22, zv23, zv24] at *; omega) | (intro hg; (try simp only [reduceCtorEq, ints_len, bools_len, bif_t, bif_f, zv0, zv1, zv2, zv3, zv4, zv5, zv6, zv7, zv8, zv9, zv10, zv11, zv12, zv13, zv14, zv15, zv16, zv17, zv18, zv19, zv20, zv21, zv22, zv23, zv24] at hg); first | (with_reducible assumption) | omega | (simp only [reduceCtorEq, ints_len, bools_len, bif_t, bif_f, zv0, zv1, zv2, zv3, zv4, zv5, zv6, zv7, zv8, zv9, zv10, zv11, zv12, zv13, zv14, zv15, zv16, zv17, zv18, zv19, zv20, zv21, zv22, zv23, zv24] at *; omega) | (refine ⟨?_, ?_⟩ <;> omega)) | (refine ⟨?_, ?_⟩ <;> omega) | (simp [*]; done) | grind)); (conv => whnf))))
          refine ⟨[], false, false, ?_⟩
          conv => whnf
          refine ⟨_, _, ⟨(ASet.mk ⟨xa, xb, xs⟩ mask ⟨op, kind, n, ref, kids⟩).loads, _, fun r => !refOk ext r, rfl, rfl, by omega, rfl, fun r hr => ⟨⟨ext, sets⟩, r, rfl, rfl, by simp only; omega, by have := hstr r hr; omega, rfl, rfl⟩, rfl, rfl⟩, ?_⟩
          conv => whnf
          (repeat' (first | ((with_reducible refine And.intro (fun (e : (_ : Bool) = true) => ?_) (fun (e : (_ : Bool) = false) => ?_)) <;> (try simp only [reduceCtorEq, ints_len, bools_len, bif_t, bif_f, zv0, zv1, zv2, zv3, zv4, zv5, zv6, zv7, zv8, zv9, zv10, zv11, zv12, zv13, zv14, zv15, zv16, zv17, zv18, zv19, zv20, zv21, zv22, zv23, zv24] at e) <;> (conv => whnf)) | (refine And.intro ?_ ?_; ((first | (with_reducible assumption) | (intro _; with_reducible assumption) | omega | (simp only [reduceCtorEq, ints_len, bools_len, bif_t, bif_f, zv0, zv1, zv2, zv3, zv4, zv5, zv6, zv7, zv8, zv9, zv10, zv11, zv12, zv13, zv14, zv15, zv16, zv17, zv18, zv19, zv20, zv21, zv22, zv23, zv24] at *; omega) | (intro hg; (try simp only [reduceCtorEq, ints_len, bools_len, bif_t, bif_f, zv0, zv1, zv2, zv3, zv4, zv5, zv6, zv7, zv8, zv9, zv10, zv11, zv12, zv13, zv14, zv15, zv16, zv17, zv18, zv19, zv20, zv21, zv22, zv23, zv24] at hg); first | (with_reducible assumption) | omega | (simp only [reduceCtorEq, ints_len, bools_len, bif_t, bif_f, zv0, zv1, zv2, zv3, zv4, zv5, zv6, zv7, zv8, zv9, zv10, zv11, zv12, zv13, zv14, zv15, zv16, zv17, zv18, zv19, zv20, zv21, zv22, zv23, zv24] at *; omega) | (refine ⟨?_, ?_⟩ <;> omega)) | (refine ⟨?_, ?_⟩ <;> omega) | (simp [*]; done) | grind)); (conv => whnf))))
          · have hx := e
            (refine ⟨[], ?_⟩; (conv => whnf); refine ⟨[], .nil, .nil, ?_⟩; (conv => whnf))
            congr 1
            refine (formed_not ext sets hget ?_).symm
            rcases hx with h | h
            · simp only; rw [h]; rfl
            · rw [Bool.and_eq_false_iff]; right; rw [all_any, h]; rfl
          · obtain ⟨e1, e2⟩ := e
            refine ⟨sets.length - (i + 1), by omega, [], ?_⟩
            conv => whnf
            refine ⟨i + 1, by omega, rfl, fun j hj y hy => ?_, rfl⟩
            by_cases ej : j = i
            · subst ej; rw [hget] at hy; cases hy
              rw [Bool.and_eq_true]
              exact ⟨e1, by rw [all_any, e2]; rfl⟩
            · exact hall j (by omega) y hy
        · have he := e
          conv => whnf
          (repeat' (first | ((with_reducible refine And.intro (fun (e : (_ : Bool) = true) => ?_) (fun (e : (_ : Bool) = false) => ?_)) <;> (try simp only [reduceCtorEq, ints_len, bools_len, bif_t, bif_f, zv0, zv1, zv2, zv3, zv4, zv5, zv6, zv7, zv8, zv9, zv10, zv11, zv12, zv13, zv14, zv15, zv16, zv17, zv18, zv19, zv20, zv21, zv22, zv23, zv24] at e) <;> (conv => whnf)) | (refine And.intro ?_ ?_; ((first | (with_reducible assumption) | (intro _; with_reducible assumption) | omega | (simp only [reduceCtorEq, ints_len, bools_len, bif_t, bif_f, zv0, zv1, zv2, zv3, zv4, zv5, zv6, zv7, zv8, zv9, zv10, zv11, zv12, zv13, zv14, zv15, zv16, zv17, zv18, zv19, zv20, zv21, zv22, zv23, zv24] at *; omega) | (intro hg; (try simp only [reduceCtorEq, ints_len, bools_len, bif_t, bif_f, zv0, zv1, zv2, zv3, zv4, zv5, zv6, zv7, zv8, zv9, zv10, zv11, zv12, zv13, zv14, zv15, zv16, zv17, zv18, zv19, zv20, zv21, zv22, zv23, zv24] at hg); first | (with_reducible assumption) | omega | (simp only [reduceCtorEq, ints_len, bools_len, bif_t, bif_f, zv0, zv1, zv2, zv3, zv4, zv5, zv6, zv7, zv8, zv9, zv10, zv11, zv12, zv13, zv14, zv15, zv16, zv17, zv18, zv19, zv20, zv21, zv22, zv23, zv24] at *; omega) | (refine ⟨?_, ?_⟩ <;> omega)) | (refine ⟨?_, ?_⟩ <;> omega) | (simp [*]; done) | grind)); (conv => whnf))))
          intro e3
          conv => whnf
          (repeat' (first | ((with_reducible refine And.intro (fun (e : (_ : Bool) = true) => ?_) (fun (e : (_ : Bool) = false) => ?_)) <;> (try simp only [reduceCtorEq, ints_len, bools_len, bif_t, bif_f, zv0, zv1, zv2, zv3, zv4, zv5, zv6, zv7, zv8, zv9, zv10, zv11, zv12, zv13, zv14, zv15, zv16, zv17, zv18, zv19, zv20, zv21, zv22, zv23, zv24] at e) <;> (conv => whnf)) | (refine And.intro ?_ ?_; ((first | (with_reducible assumption) | (intro _; with_reducible assumption) | omega | (simp only [reduceCtorEq, ints_len, bools_len, bif_t, bif_f, zv0, zv1, zv2, zv3, zv4, zv5, zv6, zv7, zv8, zv9, zv10, zv11, zv12, zv13, zv14, zv15, zv16, zv17, zv18, zv19, zv20, zv21, zv22, zv23, zv24] at *; omega) | (intro hg; (try simp only [reduceCtorEq, ints_len, bools_len, bif_t, bif_f, zv0, zv1, zv2, zv3, zv4, zv5, zv6, zv7, zv8, zv9, zv10, zv11, zv12, zv13, zv14, zv15, zv16, zv17, zv18, zv19, zv20, zv21, zv22, zv23, zv24] at hg); first | (with_reducible assumption) | omega | (simp only [reduceCtorEq, ints_len, bools_len, bif_t, bif_f, zv0, zv1, zv2, zv3, zv4, zv5, zv6, zv7, zv8, zv9, zv10, zv11, zv12, zv13, zv14, zv15, zv16, zv17, zv18, zv19, zv20, zv21, zv22, zv23, zv24] at *; omega) | (refine ⟨?_, ?_⟩ <;> omega)) | (refine ⟨?_, ?_⟩ <;> omega) | (simp [*]; done) | grind)); (conv => whnf))))
          all_goals
            (refine ⟨[], ?_⟩; (conv => whnf); refine ⟨[], .nil, .nil, ?_⟩; (conv => whnf))
            congr 1
            refine (formed_not ext sets hget ?_).symm
            simp at he
            simp only; rw [he]; rfl
      · (refine ⟨[], ?_⟩; (conv => whnf); refine ⟨[], .nil, .nil, ?_⟩; (conv => whnf))
        congr 1
        unfold formed
        rw [decide_eq_true (by simpa using g1), Bool.true_and]
        refine (List.all_eq_true.2 fun y hy => ?_).symm
        obtain ⟨j, hj⟩ := List.getElem?_of_mem hy
        have := (List.getElem?_eq_some_iff.1 hj).1
        simp only at this
        exact hall j (by omega) y hj
end Go.Proofs.YtahdihhhankhdaaGreat.V
-- Vik
namespace Go.Proofs.YtahdihhhankhdaaGreat.V
open Go.Proofs.YtahdihhhankhdaaGreatVY Go.RowKit
def isKern (k : Kern) : Bool := formed k && decide (1 ≤ k.sets.length ∧ k.sets.length ≤ 8)
end Go.Proofs.YtahdihhhankhdaaGreat.V
-- Vu
namespace Go.Proofs.YtahdihhhankhdaaGreat.V
open Go.Proofs.YtahdihhhankhdaaGreatVY Go.RowKit
theorem treesBulk_snoc (t : Tree) : ∀ l : List Tree, treesBulk (l ++ [t]) = treesBulk l + t.bulk
  | [] => by simp [treesBulk]
  | x :: l => by rw [List.cons_append, treesBulk, treesBulk_snoc t l, treesBulk, Nat.add_assoc]
theorem treesBulk_take1 {l : List Tree} {i : Nat} {x : Tree} (h : l[i]? = some x) : treesBulk (l.take (i + 1)) = treesBulk (l.take i) + x.bulk := by
  rw [List.take_add_one, h]; exact treesBulk_snoc ..
def R9060 (m : Nat) : Ct := fun ss hp r out => ∃ t : Tree, ss = [.v (.ag (t.c.map .d))] ∧ hp = [] ∧ t.bulk < m ∧ m ≤ 4194305 ∧ r = .di .i64 t.bulk ∧ out = []
/-- how large a kernel's Sets are -/
def setsSize : List ASet → Nat
  | [] => 0
  | s :: l => s.val.bulk + s.to.str.length + treesBulk s.mask + setsSize l
theorem setsSize_le : ∀ l : List ASet, setsSize l ≤ setsBulk l
  | [] => Nat.le_refl _
  | s :: l => by have := setsSize_le l; rw [setsSize, setsBulk, ASet.bulk]; omega
theorem setsSize_snoc (s : ASet) : ∀ l : List ASet, setsSize (l ++ [s]) = setsSize l + (s.val.bulk + s.to.str.length + treesBulk s.mask)
  | [] => by simp [setsSize]
  | x :: l => by rw [List.cons_append, setsSize, setsSize_snoc s l, setsSize]; omega
theorem setsSize_take1 {l : List ASet} {i : Nat} {x : ASet} (h : l[i]? = some x) : setsSize (l.take (i + 1)) = setsSize (l.take i) + (x.val.bulk + x.to.str.length + treesBulk x.mask) := by
  rw [List.take_add_one, h]; exact setsSize_snoc ..
theorem setsSize_take : ∀ (l : List ASet) (i : Nat), setsSize (l.take i) ≤ setsSize l
  | [], i => by simp
  | t :: l, 0 => by simp [setsSize]
  | t :: l, i + 1 => by have := setsSize_take l i; rw [List.take_succ_cons, setsSize, setsSize]; omega
def large (k : Kern) : Bool := decide (60 < many k.ext ∨ 20 < k.ext.length ∨ 20 < k.sets.length ∨ 200 < setsSize k.sets)
def R9015 : Ct := fun ss hp r out => ∃ k : Kern, ss = [.v (.ag (k.c.map .d))] ∧ hp = [] ∧ k.bulk ≤ 4194304 ∧ r = .db (large k) ∧ out = []
/-- the reference's loads, behind those that are there -/
def R9128 (m : Nat) : Ct := fun ss hp r out => ∃ (t : Tree) (L : List Ref) (v : Value), ss = [.v (.ag (t.c.map .d)), .one (.own 0)] ∧ hp = [.row 3 (L.map Ref.c), .mem v (.own 0)] ∧ t.bulk < m ∧ m ≤ 4194305 ∧ L.length + t.bulk ≤ 8388608 ∧ r = .one (.own 0) ∧ out = [.row 3 ((L ++ t.loads).map Ref.c), .mem v .junk]
def R9099 : Ct := fun ss hp r out => ∃ s : ASet, ss = [.v (.ag (s.c.map .d))] ∧ hp = [] ∧ s.bulk ≤ 4194304 ∧ r = .one (.own 0) ∧ out = [.row 3 (s.loads.map Ref.c)]
end Go.Proofs.YtahdihhhankhdaaGreat.V
-- Vi
namespace Go.Proofs.YtahdihhhankhdaaGreat.V
open Go.Proofs.YtahdihhhankhdaaGreatVY Go.RowKit
def R28 : Ct := fun ss hp r out => ∃ x : Ref, ss = [.v (.ag (x.c.map .d))] ∧ hp = [] ∧ x.str.length ≤ 4194304 ∧ r = .v (.ag [.d (.int .i64 x.arr), .d (.int .i64 x.base), .own 0]) ∧ out = [.row 1 (x.str.map inC)]
set_option maxHeartbeats 4000000 in
theorem ok28 : VSound Tryz.prog (28, R28) := by
  refine vsound (T := ty) (F := [(22, R22)]) (pl := []) (nw := true) (cuts := []) mix tyOk (.cons (ok22) .nil) Tryz.func28 (by kernel_rfl) (by kernel_rfl) ?_
  rintro _ _ _ _ ⟨⟨xa, xb, xs⟩, rfl, rfl, hx, rfl, rfl⟩
  conv => whnf
  refine ⟨[], false, false, ?_⟩
  conv => whnf
  refine ⟨_, _, ⟨xs, rfl, rfl, hx, rfl, rfl⟩, ?_⟩
  conv => whnf
  refine ⟨[], ?_⟩
  conv => whnf
  exact ⟨[2], by simp, .cons ⟨_, rfl, rfl, rfl⟩ .nil, .cons rfl (.cons rfl (.cons rfl .nil))⟩
def loadsOf (k : Kern) (set : Int) : List Ref := if formed k = true ∧ 0 ≤ set ∧ set < k.sets.length then ((k.sets[set.toNat]?).map ASet.loads).getD [] else []
def loadsErr (k : Kern) (set : Int) : Int := if formed k = true ∧ 0 ≤ set ∧ set < k.sets.length then 0 else 2
def R10 : Ct := fun ss hp r out => ∃ (k : Kern) (set : Int), ss = [.v (.ag (k.c.map .d)), .di .i64 set] ∧ hp = [] ∧ k.bulk ≤ 4194304 ∧ r = .tup [.c (.own 0), .c (.d (.int .i64 (loadsErr k set)))] ∧ out = [.row 3 ((loadsOf k set).map Ref.c)]
set_option maxHeartbeats 4000000 in
theorem ok10 : VSound Tryz.prog (10, R10) := by
  refine vsound (T := ty) (F := [(17, R17), (27, R27), (28, R28)]) (pl := []) (nw := true) (cuts := []) mix tyOk (.cons (ok17) (.cons (ok27) (.cons (ok28) .nil))) Tryz.func10 (by kernel_rfl) (by kernel_rfl) ?_
  rintro _ _ _ _ ⟨⟨ext, sets⟩, set, rfl, rfl, hm, rfl, rfl⟩
  conv => whnf
  refine ⟨[], false, false, ?_⟩
  conv => whnf
  refine ⟨_, _, ⟨⟨ext, sets⟩, rfl, rfl, hm, rfl, rfl⟩, ?_⟩
  conv => whnf
  (repeat' (first | ((with_reducible refine And.intro (fun (e : (_ : Bool) = true) => ?_) (fun (e : (_ : Bool) = false) => ?_)) <;> (try simp only [reduceCtorEq, ints_len, bools_len, bif_t, bif_f, zv0, zv1, zv2, zv3, zv4, zv5, zv6, zv7, zv8, zv9, zv10, zv11, zv12, zv13, zv14, zv15, zv16, zv17, zv18, zv19, zv20, zv21, zv22, zv23, zv24] at e) <;> (conv => whnf)) | (refine And.intro ?_ ?_; ((first | (with_reducible assumption) | (intro _; with_reducible assumption) | omega | (simp only [reduceCtorEq, ints_len, bools_len, bif_t, bif_f, zv0, zv1, zv2, zv3, zv4, zv5, zv6, zv7, zv8, zv9, zv10, zv11, zv12, zv13, zv14, zv15, zv16, zv17, zv18, zv19, zv20, zv21, zv22, zv23, zv24] at *; omega) | (intro hg; (try simp only [reduceCtorEq, ints_len, bools_len, bif_t, bif_f, zv0, zv1, zv2, zv3, zv4, zv5, zv6, zv7, zv8, zv9, zv10, zv11, zv12, zv13, zv14, zv15, zv16, zv17, zv18, zv19, zv20, zv21, zv22, zv23, zv24] at hg); first | (with_reducible assumption) | omega | (simp only [reduceCtorEq, ints_len, bools_len, bif_t, bif_f, zv0, zv1, zv2, zv3, zv4, zv5, zv6, zv7, zv8, zv9, zv10, zv11, zv12, zv13, zv14, zv15, zv16, zv17, zv18, zv19, zv20, zv21, zv22, zv23, zv24] at *; omega) | (refine ⟨?_, ?_⟩ <;> omega)) | (refine ⟨?_, ?_⟩ <;> omega) | (simp [*]; done) | grind)); (conv => whnf))))
  · refine ⟨[.slot 4 true], ?_⟩
    conv => whnf
    have hn : ¬ (formed ⟨ext, sets⟩ = true ∧ 0 ≤ set ∧ set < sets.length) := by
      rintro ⟨h1, h2, h3⟩
      rcases e with (e | e) | e
      · rw [h1] at e; cases e
      · omega
      · omega
    refine ⟨[1], by simp, .cons ⟨_, rfl, rfl, ?_⟩ .nil, ?_⟩
    · unfold loadsOf; rw [if_neg hn]; rfl
    · unfold loadsErr; rw [if_neg hn]; exact .cons rfl (.cons rfl .nil)
  · obtain ⟨⟨e1, e2⟩, e3⟩ := e
    have hy : formed ⟨ext, sets⟩ = true ∧ 0 ≤ set ∧ set < sets.length := ⟨e1, e2, e3⟩
    obtain ⟨i, rfl⟩ := Int.eq_ofNat_of_zero_le e2
    have hlt : i < sets.length := by omega
    obtain ⟨x, hget⟩ := get_lt hlt
    have hb := setsBulk_get hget
    simp only [Kern.bulk] at hm
    have hll := x.loads_len
    have hstr : ∀ r ∈ x.loads, r.str.length ≤ x.bulk := fun r hr => ASet.loads_str hr
    have hL : loadsOf ⟨ext, sets⟩ i = x.loads := by
      unfold loadsOf; rw [if_pos hy, Int.toNat_natCast]; simp only; rw [hget]; rfl
    have hE : loadsErr ⟨ext, sets⟩ i = 0 := by unfold loadsErr; rw [if_pos hy]
    rw [hL, hE]
    refine ⟨_, And.intro ⟨?_, enc_get hget⟩ ?_⟩
    · omega
    obtain ⟨⟨xa, xb, xs⟩, mask, ⟨op, kind, n, ref, kids⟩⟩ := x
    conv => whnf
    refine ⟨[], false, false, ?_⟩
    conv => whnf
    refine ⟨_, _, ⟨⟨⟨xa, xb, xs⟩, mask, ⟨op, kind, n, ref, kids⟩⟩, rfl, rfl, by omega, rfl, rfl⟩, ?_⟩
    conv => whnf
    generalize (ASet.mk ⟨xa, xb, xs⟩ mask ⟨op, kind, n, ref, kids⟩).loads = L at *
    refine ⟨[.slot 6 true], [6, 28, 29, 30], 3, fun n1 σ => ∃ i : Nat, i ≤ L.length ∧ n1 = L.length - i ∧ σ = (⟨[.junk, .junk, .junk, .junk, .junk, .junk, .one (.own 2), .junk, .junk, .junk, .junk, .junk, .junk, .junk, .junk, .junk, .junk, .junk, .junk, .junk, .junk, .junk, .junk, .junk, .junk, .junk, .junk, .junk, .one (.own 1), .di .i64 L.length, .di .i64 i, .junk, .junk, .junk, .junk, .junk, .junk, .junk, .junk, .junk, .junk], [.box (List.map .d (Kern.mk ext sets).c), .row 3 (L.map Ref.c), .row 3 ((L.take i).map Ref.c)]⟩ : St), ?_, ?_⟩
    · refine ⟨L.length, ?_⟩
      conv => whnf
      refine ⟨0, by omega, by omega, ?_⟩
      rw [map_len]; rfl
    · rintro n1 _ ⟨j, hj, rfl, rfl⟩
      conv => whnf
      ((with_reducible refine And.intro (fun (e : (_ : Bool) = true) => ?_) (fun (e : (_ : Bool) = false) => ?_)) <;> (try simp only [reduceCtorEq, ints_len, bools_len, bif_t, bif_f, zv0, zv1, zv2, zv3, zv4, zv5, zv6, zv7, zv8, zv9, zv10, zv11, zv12, zv13, zv14, zv15, zv16, zv17, zv18, zv19, zv20, zv21, zv22, zv23, zv24] at e) <;> (conv => whnf))
      · have hlt : j < L.length := by omega
        obtain ⟨y, hgy⟩ := get_lt hlt
        have hys := hstr y (List.mem_of_getElem? hgy)
        refine And.intro ⟨by omega, by rw [map_len]; omega⟩ ?_
        conv => whnf
        refine ⟨_, And.intro (enc_get hgy) ?_⟩
        obtain ⟨ya, yb, ys⟩ := y
        conv => whnf
        refine ⟨[], false, false, ?_⟩
        conv => whnf
        refine ⟨_, _, ⟨⟨ya, yb, ys⟩, rfl, rfl, by omega, rfl, rfl⟩, ?_⟩
        conv => whnf
        refine ⟨by rw [map_len, List.length_take]; simp only [List.length_cons, List.length_nil]; omega, ?_⟩
        conv => whnf
        (refine And.intro ?_ ?_; ((first | (with_reducible assumption) | (intro _; with_reducible assumption) | omega | (simp only [reduceCtorEq, ints_len, bools_len, bif_t, bif_f, zv0, zv1, zv2, zv3, zv4, zv5, zv6, zv7, zv8, zv9, zv10, zv11, zv12, zv13, zv14, zv15, zv16, zv17, zv18, zv19, zv20, zv21, zv22, zv23, zv24] at *; omega) | (intro hg; (try simp only [reduceCtorEq, ints_len, bools_len, bif_t, bif_f, zv0, zv1, zv2, zv3, zv4, zv5, zv6, zv7, zv8, zv9, zv10, zv11, zv12, zv13, zv14, zv15, zv16, zv17, zv18, zv19, zv20, zv21, zv22, zv23, zv24] at hg); first | (with_reducible assumption) | omega | (simp only [reduceCtorEq, ints_len, bools_len, bif_t, bif_f, zv0, zv1, zv2, zv3, zv4, zv5, zv6, zv7, zv8, zv9, zv10, zv11, zv12, zv13, zv14, zv15, zv16, zv17, zv18, zv19, zv20, zv21, zv22, zv23, zv24] at *; omega) | (refine ⟨?_, ?_⟩ <;> omega)) | (refine ⟨?_, ?_⟩ <;> omega) | (simp [*]; done) | grind)); (conv => whnf))
        refine ⟨L.length - (j + 1), by omega, [], ?_⟩
        conv => whnf
        refine ⟨j + 1, by omega, rfl, ?_⟩
        rw [List.take_add_one, hgy, List.map_append]; rfl
      · have hj' : j = L.length := by omega
        subst hj'
        rw [List.take_length]
        refine ⟨[], ?_⟩
        conv => whnf
        exact ⟨[2], by simp, .cons ⟨_, rfl, rfl, rfl⟩ .nil, .cons rfl (.cons rfl .nil)⟩
end Go.Proofs.YtahdihhhankhdaaGreat.V
-- Vj
namespace Go.Proofs.YtahdihhhankhdaaGreat.V
open Go.Proofs.YtahdihhhankhdaaGreatVY Go.RowKit
def seg (row : List Int) (s : Int) : Nat → List Int
  | 0 => []
  | m + 1 => seg row s m ++ row.map (· + (m + 1 : Nat) * s)
def placesTo (l xs : List Int) (b : Int) : Nat → List Int
  | 0 => [b]
  | i + 1 => placesTo l xs b i ++ seg (placesTo l xs b i) (xs.getD i 0) (l.getD i 0 - 1).toNat
def places (l : List Int) (x : Ref) : List Int := if many l = 0 then [] else placesTo l x.str x.base l.length
theorem seg_len (row : List Int) (s : Int) : ∀ m, (seg row s m).length = m * row.length
  | 0 => by simp [seg]
  | m + 1 => by rw [seg, List.length_append, seg_len row s m, List.length_map, Nat.succ_mul]
theorem seg_bd {row : List Int} {s B S : Int} (hs : -S ≤ s ∧ s ≤ S) (hS : 0 ≤ S) (h : ∀ v ∈ row, -B ≤ v ∧ v ≤ B) : ∀ m : Nat, ∀ v ∈ seg row s m, -(B + m * S) ≤ v ∧ v ≤ B + m * S
  | 0, v, hv => by simp [seg] at hv
  | m + 1, v, hv => by
    rw [seg, List.mem_append, List.mem_map] at hv
    rcases hv with hv | ⟨u, hu, rfl⟩
    · have := seg_bd hs hS h m v hv
      push_cast
      rw [Int.add_mul]
      omega
    · have h1 := h u hu
      have h2 : ((m + 1 : Nat) : Int) * s ≤ ((m + 1 : Nat) : Int) * S := Int.mul_le_mul_of_nonneg_left hs.2 (by omega)
      have h3 : ((m + 1 : Nat) : Int) * (-S) ≤ ((m + 1 : Nat) : Int) * s := Int.mul_le_mul_of_nonneg_left hs.1 (by omega)
      rw [Int.mul_neg] at h3
      omega
/-- extents and a Ref that are right -/
structure Rt (l : List Int) (x : Ref) : Prop where
  len : x.str.length = l.length
  l1 : 1 ≤ l.length
  l3 : l.length ≤ 3
  ext : ∀ n ∈ l, 0 ≤ n ∧ n ≤ 400
  base : -1000000 ≤ x.base ∧ x.base ≤ 1000000
  str : ∀ s ∈ x.str, -1000000 ≤ s ∧ s ≤ 1000000
theorem refOk_rt {l : List Int} {x : Ref} (h : refOk l x = true) : Rt l x := by
  unfold refOk at h
  simp only [Bool.and_eq_true, decide_eq_true_eq, Bool.not_eq_true', isNum, List.any_eq_false] at h
  obtain ⟨h1, h2, h3, h4⟩ := h
  have hm : ¬ (l.length < 1 ∨ 3 < l.length ∨ l.any (fun n => decide (n < 0 ∨ 400 < n)) = true) := by
    intro hh; unfold many at h1; rw [if_pos hh] at h1; omega
  refine ⟨h2, by omega, by omega, fun n hn => ?_, h3, fun s hs => ?_⟩
  · have : ¬ l.any (fun n => decide (n < 0 ∨ 400 < n)) = true := fun hh => hm (.inr (.inr hh))
    simp only [List.any_eq_true, not_exists, not_and, decide_eq_true_eq] at this
    have := this n hn
    omega
  · have := h4 s hs
    simp at this
    omega
theorem getD_of {l : List Int} {i : Nat} {x : Int} (h : l[i]? = some x) : l.getD i 0 = x := by simp [List.getD, h]
theorem placesTo_bd {l : List Int} {x : Ref} (R : Rt l x) : ∀ i ≤ l.length, (placesTo l x.str x.base i).length ≤ 400 ^ i ∧ ∀ v ∈ placesTo l x.str x.base i, -(1000000 + i * 400000000) ≤ v ∧ v ≤ 1000000 + i * 400000000
  | 0, _ => ⟨by simp [placesTo], fun v hv => by simp [placesTo] at hv; subst hv; have := R.base; omega⟩
  | i + 1, hi => by
    obtain ⟨h1, h2⟩ := placesTo_bd R i (by omega)
    obtain ⟨n, hn⟩ := get_lt (l := l) (i := i) (by omega)
    obtain ⟨s, hs⟩ := get_lt (l := x.str) (i := i) (by have := R.len; omega)
    have hn' := R.ext n (List.mem_of_getElem? hn)
    have hs' := R.str s (List.mem_of_getElem? hs)
    rw [placesTo, getD_of hn, getD_of hs]
    obtain ⟨m, hm⟩ : ∃ m : Nat, (n - 1).toNat = m := ⟨_, rfl⟩
    have hm2 : m ≤ 399 := by omega
    rw [hm]
    refine ⟨?_, fun v hv => ?_⟩
    · rw [List.length_append, seg_len, Nat.pow_succ]
      have : m * (placesTo l x.str x.base i).length ≤ 399 * (placesTo l x.str x.base i).length := Nat.mul_le_mul_right _ hm2
      omega
    · rw [List.mem_append] at hv
      rcases hv with hv | hv
      · have := h2 v hv; push_cast; omega
      · have := seg_bd hs' (by decide) h2 m v hv
        push_cast; omega
def R74 : Ct := fun ss hp r out => ∃ (l : List Int) (x : Ref), ss = [.one (.d (.sl 1 (l.map inC))), .v (.ag (x.c.map .d))] ∧ hp = [] ∧ refOk l x = true ∧ r = .one (.own 0) ∧ out = [.row 1 ((places l x).map inC)]
set_option maxHeartbeats 4000000 in
theorem ok74 : VSound Tryz.prog (74, R74) := by
  refine vsound (T := ty) (F := [(34, R34)]) (pl := []) (nw := true) (cuts := []) mix tyOk (.cons (ok34) .nil) Tryz.func74 (by kernel_rfl) (by kernel_rfl) ?_
  rintro _ _ _ _ ⟨l, ⟨xa, xb, xs⟩, rfl, rfl, hok, rfl, rfl⟩
  have R := refOk_rt hok
  have hlen := R.len
  have hl1 := R.l1
  have hl3 := R.l3
  conv => whnf
  refine ⟨[], false, false, ?_⟩
  conv => whnf
  refine ⟨_, _, ⟨l, rfl, rfl, by omega, rfl, rfl⟩, ?_⟩
  conv => whnf
  refine ⟨fun e => ?_, fun e => ?_⟩
  · simp only [reduceCtorEq, ints_len, bools_len, bif_t, bif_f, zv0, zv1, zv2, zv3, zv4, zv5, zv6, zv7, zv8, zv9, zv10, zv11, zv12, zv13, zv14, zv15, zv16, zv17, zv18, zv19, zv20, zv21, zv22, zv23, zv24] at e
    conv => whnf
    refine ⟨[.slot 4 true], ?_⟩
    conv => whnf
    refine ⟨[1], by simp, .cons ⟨_, rfl, rfl, ?_⟩ .nil, rfl⟩
    unfold places; rw [if_pos e]; rfl
  · simp only [reduceCtorEq, ints_len, bools_len, bif_t, bif_f, zv0, zv1, zv2, zv3, zv4, zv5, zv6, zv7, zv8, zv9, zv10, zv11, zv12, zv13, zv14, zv15, zv16, zv17, zv18, zv19, zv20, zv21, zv22, zv23, zv24] at e
    have hP : places l ⟨xa, xb, xs⟩ = placesTo l xs xb l.length := by unfold places; rw [if_neg e]
    rw [hP]
    conv => whnf
    refine ⟨[], [3, 5, 18, 19, 20], 2, fun n1 σ => ∃ i : Nat, i ≤ l.length ∧ n1 = l.length - i ∧ σ = (⟨[.junk, .junk, .junk, .one (.ptr 0 0), .junk, .one (.own 1), .junk, .junk, .junk, .junk, .junk, .junk, .junk, .junk, .junk, .junk, .junk, .junk, .one (.d (.sl 1 (l.map inC))), .di .i64 l.length, .di .i64 i, .junk, .junk, .junk, .junk, .junk, .junk, .junk, .junk, .junk, .junk, .junk, .junk, .junk, .junk, .junk, .junk, .junk, .junk, .junk, .junk, .junk, .junk, .junk, .junk, .junk, .junk, .junk, .junk, .junk, .junk, .junk], [.box (List.map .d (Ref.mk xa xb xs).c), .row 1 ((placesTo l xs xb i).map inC)]⟩ : St), ?_, ?_⟩
    · refine ⟨l.length, ?_⟩
      conv => whnf
      refine ⟨0, by omega, by omega, ?_⟩
      rw [map_len]; rfl
    · rintro n1 _ ⟨i, hi, rfl, rfl⟩
      conv => whnf
      ((with_reducible refine And.intro (fun (e : (_ : Bool) = true) => ?_) (fun (e : (_ : Bool) = false) => ?_)) <;> (try simp only [reduceCtorEq, ints_len, bools_len, bif_t, bif_f, zv0, zv1, zv2, zv3, zv4, zv5, zv6, zv7, zv8, zv9, zv10, zv11, zv12, zv13, zv14, zv15, zv16, zv17, zv18, zv19, zv20, zv21, zv22, zv23, zv24] at e) <;> (conv => whnf))
      · have hlt : i < l.length := by omega
        obtain ⟨n, hn⟩ := get_lt hlt
        obtain ⟨s, hs⟩ := get_lt (l := xs) (i := i) (by simp only at hlen; omega)
        have hn' := R.ext n (List.mem_of_getElem? hn)
        have hs' := R.str s (List.mem_of_getElem? hs)
        obtain ⟨hpl, hpv⟩ := placesTo_bd R i hi
        have hp4 : 400 ^ i ≤ 400 ^ 3 := Nat.pow_le_pow_right (by decide) (by omega)
        have hp5 : (400 : Nat) ^ 3 = 64000000 := by decide
        have hnext : placesTo l xs xb (i + 1) = placesTo l xs xb i ++ seg (placesTo l xs xb i) s (n - 1).toNat := by rw [placesTo, getD_of hn, getD_of hs]
        simp only at hpl hpv
        refine ⟨_, And.intro ⟨?_, enc_get hn⟩ ?_⟩
        · omega
        conv => whnf
        generalize hPi : placesTo l xs xb i = P at *
        have hpb : P.length ≤ 64000000 := by omega
        have hi3 : (i : Int) ≤ 2 := by omega
        refine ⟨[.view 8], [3, 5, 6, 7, 8, 9, 18, 19, 20], 2, fun n2 σ => ∃ (k : Nat) (r : S), 1 ≤ k ∧ (k : Int) ≤ max n 1 ∧ n2 = (n - k).toNat ∧ (r = .v (.c (.win 1 1 0 (P.map inC).length)) ∨ r = .one (.d (.sl 1 (P.map inC)))) ∧ σ = (⟨[.junk, .junk, .junk, .one (.ptr 0 0), .junk, .one (.own 1), .di .i64 i, .di .i64 n, r, .di .i64 k, .junk, .junk, .junk, .junk, .junk, .junk, .junk, .junk, .one (.d (.sl 1 (l.map inC))), .di .i64 l.length, .di .i64 i, .junk, .junk, .junk, .junk, .junk, .junk, .junk, .junk, .junk, .junk, .junk, .junk, .junk, .junk, .junk, .junk, .junk, .junk, .junk, .junk, .junk, .junk, .junk, .junk, .junk, .junk, .junk, .junk, .junk, .junk, .junk], [.box (List.map .d (Ref.mk xa xb xs).c), .row 1 ((P ++ seg P s (k - 1)).map inC)]⟩ : St), ?_, ?_⟩
        · refine ⟨(n - 1).toNat, ?_⟩
          conv => whnf
          refine ⟨1, _, by omega, by omega, rfl, .inl rfl, ?_⟩
          rw [show seg P s (1 - 1) = [] from rfl, List.append_nil]; rfl
        · rintro n2 _ ⟨k, r, hk, hkn, rfl, hr, rfl⟩
          have hsegl := seg_len P s (k - 1)
          have hk4 : k ≤ 400 := by omega
          have hsl : (seg P s (k - 1)).length ≤ 400 * P.length := by rw [hsegl]; exact Nat.mul_le_mul_right _ (by omega)
          have hks1 : (k : Int) * s ≤ (k : Int) * 1000000 := Int.mul_le_mul_of_nonneg_left hs'.2 (by omega)
          have hks2 : (k : Int) * (-1000000) ≤ (k : Int) * s := Int.mul_le_mul_of_nonneg_left hs'.1 (by omega)
          rcases hr with rfl | rfl
          all_goals
            conv => whnf
            ((with_reducible refine And.intro (fun (e : (_ : Bool) = true) => ?_) (fun (e : (_ : Bool) = false) => ?_)) <;> (try simp only [reduceCtorEq, ints_len, bools_len, bif_t, bif_f, zv0, zv1, zv2, zv3, zv4, zv5, zv6, zv7, zv8, zv9, zv10, zv11, zv12, zv13, zv14, zv15, zv16, zv17, zv18, zv19, zv20, zv21, zv22, zv23, zv24] at e) <;> (conv => whnf))
            · have hkk : (k : Int) < n := e
              refine ⟨[], [3, 5, 6, 7, 8, 9, 18, 19, 20, 31, 32, 33], 2, fun n3 σ => ∃ (j : Nat) (r : S), j ≤ P.length ∧ n3 = P.length - j ∧ (r = .v (.c (.win 1 1 0 (P.map inC).length)) ∨ r = .one (.d (.sl 1 (P.map inC)))) ∧ σ = (⟨[.junk, .junk, .junk, .one (.ptr 0 0), .junk, .one (.own 1), .di .i64 i, .di .i64 n, r, .di .i64 k, .junk, .junk, .junk, .junk, .junk, .junk, .junk, .junk, .one (.d (.sl 1 (l.map inC))), .di .i64 l.length, .di .i64 i, .junk, .junk, .junk, .junk, .junk, .junk, .junk, .junk, .junk, .junk, r, .di .i64 P.length, .di .i64 j, .junk, .junk, .junk, .junk, .junk, .junk, .junk, .junk, .junk, .junk, .junk, .junk, .junk, .junk, .junk, .junk, .junk, .junk], [.box (List.map .d (Ref.mk xa xb xs).c), .row 1 ((P ++ seg P s (k - 1) ++ (P.take j).map (· + k * s)).map inC)]⟩ : St), ?_, ?_⟩
              · refine ⟨P.length, ?_⟩
                conv => whnf
                have hcl : (((((P ++ seg P s (k - 1)).map inC).drop 0).take (P.map inC).length).length : Int) = P.length := by
                  rw [List.drop_zero, List.map_append, List.take_left, map_len]
                first
                | (refine ⟨0, .v (.c (.win 1 1 0 (P.map inC).length)), by omega, by omega, .inl rfl, ?_⟩
                   rw [List.take_zero, List.map_nil, List.append_nil, hcl]
                   rfl)
                | (refine ⟨0, .one (.d (.sl 1 (P.map inC))), by omega, by omega, .inr rfl, ?_⟩
                   rw [List.take_zero, List.map_nil, List.append_nil, map_len]
                   rfl)
              · rintro n3 _ ⟨j, r, hj, rfl, hr, rfl⟩
                have hout : ∀ y, P[j]? = some y → ((P ++ seg P s (k - 1) ++ (P.take j).map (· + k * s)).map inC)[j]? = some (inC y) := by
                  intro y hy
                  have hjl := (List.getElem?_eq_some_iff.1 hy).1
                  rw [List.getElem?_map, List.append_assoc, List.getElem?_append_left hjl, hy]; rfl
                have hstep : ∀ y, P[j]? = some y → P ++ seg P s (k - 1) ++ (P.take (j + 1)).map (· + k * s) = (P ++ seg P s (k - 1) ++ (P.take j).map (· + k * s)) ++ [y + k * s] := by
                  intro y hy
                  rw [List.take_add_one, hy, List.map_append, ← List.append_assoc]; rfl
                have hbig : (P ++ seg P s (k - 1) ++ (P.take j).map (· + k * s)).length ≤ 402 * P.length := by
                  rw [List.length_append, List.length_append, List.length_map, List.length_take]; omega
                have hcut : (((P ++ seg P s (k - 1) ++ (P.take j).map (· + k * s)).map inC).drop 0).take (P.map inC).length = P.map inC := by
                  rw [List.drop_zero, List.append_assoc, List.map_append, List.take_left]
                rcases hr with rfl | rfl
                · conv => whnf
                  ((with_reducible refine And.intro (fun (e : (_ : Bool) = true) => ?_) (fun (e : (_ : Bool) = false) => ?_)) <;> (try simp only [reduceCtorEq, ints_len, bools_len, bif_t, bif_f, zv0, zv1, zv2, zv3, zv4, zv5, zv6, zv7, zv8, zv9, zv10, zv11, zv12, zv13, zv14, zv15, zv16, zv17, zv18, zv19, zv20, zv21, zv22, zv23, zv24] at e) <;> (conv => whnf))
                  · obtain ⟨y, hy⟩ := get_lt (l := P) (i := j) (by omega)
                    have hyv := hpv y (List.mem_of_getElem? hy)
                    have h1 : (P ++ seg P s (k - 1) ++ (P.take (j + 1)).map (· + k * s)).map inC = (P ++ seg P s (k - 1) ++ (P.take j).map (· + k * s)).map inC ++ [inC (y + k * s)] := by rw [hstep y hy, List.map_append]; rfl
                    refine And.intro ⟨by omega, by rw [map_len]; omega⟩ ?_
                    conv => whnf
                    refine ⟨inC y, And.intro (by first | exact hout y hy | (rw [Nat.zero_add]; exact hout y hy)) ?_⟩
                    conv => whnf
                    refine ⟨_, And.intro ⟨?_, enc_get hs⟩ ?_⟩
                    · omega
                    conv => whnf
                    (refine And.intro ?_ ?_; ((first | (with_reducible assumption) | (intro _; with_reducible assumption) | omega | (simp only [reduceCtorEq, ints_len, bools_len, bif_t, bif_f, zv0, zv1, zv2, zv3, zv4, zv5, zv6, zv7, zv8, zv9, zv10, zv11, zv12, zv13, zv14, zv15, zv16, zv17, zv18, zv19, zv20, zv21, zv22, zv23, zv24] at *; omega) | (intro hg; (try simp only [reduceCtorEq, ints_len, bools_len, bif_t, bif_f, zv0, zv1, zv2, zv3, zv4, zv5, zv6, zv7, zv8, zv9, zv10, zv11, zv12, zv13, zv14, zv15, zv16, zv17, zv18, zv19, zv20, zv21, zv22, zv23, zv24] at hg); first | (with_reducible assumption) | omega | (simp only [reduceCtorEq, ints_len, bools_len, bif_t, bif_f, zv0, zv1, zv2, zv3, zv4, zv5, zv6, zv7, zv8, zv9, zv10, zv11, zv12, zv13, zv14, zv15, zv16, zv17, zv18, zv19, zv20, zv21, zv22, zv23, zv24] at *; omega) | (refine ⟨?_, ?_⟩ <;> omega)) | (refine ⟨?_, ?_⟩ <;> omega) | (simp [*]; done) | grind)); (conv => whnf))
                    (refine And.intro ?_ ?_; ((first | (with_reducible assumption) | (intro _; with_reducible assumption) | omega | (simp only [reduceCtorEq, ints_len, bools_len, bif_t, bif_f, zv0, zv1, zv2, zv3, zv4, zv5, zv6, zv7, zv8, zv9, zv10, zv11, zv12, zv13, zv14, zv15, zv16, zv17, zv18, zv19, zv20, zv21, zv22, zv23, zv24] at *; omega) | (intro hg; (try simp only [reduceCtorEq, ints_len, bools_len, bif_t, bif_f, zv0, zv1, zv2, zv3, zv4, zv5, zv6, zv7, zv8, zv9, zv10, zv11, zv12, zv13, zv14, zv15, zv16, zv17, zv18, zv19, zv20, zv21, zv22, zv23, zv24] at hg); first | (with_reducible assumption) | omega | (simp only [reduceCtorEq, ints_len, bools_len, bif_t, bif_f, zv0, zv1, zv2, zv3, zv4, zv5, zv6, zv7, zv8, zv9, zv10, zv11, zv12, zv13, zv14, zv15, zv16, zv17, zv18, zv19, zv20, zv21, zv22, zv23, zv24] at *; omega) | (refine ⟨?_, ?_⟩ <;> omega)) | (refine ⟨?_, ?_⟩ <;> omega) | (simp [*]; done) | grind)); (conv => whnf))
                    refine ⟨by rw [map_len]; simp only [List.length_cons, List.length_nil]; omega, ?_⟩
                    conv => whnf
                    refine ⟨?_, ?_⟩
                    · conv => whnf
                      (refine And.intro ?_ ?_; ((first | (with_reducible assumption) | (intro _; with_reducible assumption) | omega | (simp only [reduceCtorEq, ints_len, bools_len, bif_t, bif_f, zv0, zv1, zv2, zv3, zv4, zv5, zv6, zv7, zv8, zv9, zv10, zv11, zv12, zv13, zv14, zv15, zv16, zv17, zv18, zv19, zv20, zv21, zv22, zv23, zv24] at *; omega) | (intro hg; (try simp only [reduceCtorEq, ints_len, bools_len, bif_t, bif_f, zv0, zv1, zv2, zv3, zv4, zv5, zv6, zv7, zv8, zv9, zv10, zv11, zv12, zv13, zv14, zv15, zv16, zv17, zv18, zv19, zv20, zv21, zv22, zv23, zv24] at hg); first | (with_reducible assumption) | omega | (simp only [reduceCtorEq, ints_len, bools_len, bif_t, bif_f, zv0, zv1, zv2, zv3, zv4, zv5, zv6, zv7, zv8, zv9, zv10, zv11, zv12, zv13, zv14, zv15, zv16, zv17, zv18, zv19, zv20, zv21, zv22, zv23, zv24] at *; omega) | (refine ⟨?_, ?_⟩ <;> omega)) | (refine ⟨?_, ?_⟩ <;> omega) | (simp [*]; done) | grind)); (conv => whnf))
                      refine ⟨P.length - (j + 1), by omega, [], ?_⟩
                      conv => whnf
                      refine ⟨j + 1, .v (.c (.win 1 1 0 (P.map inC).length)), by omega, rfl, .inl rfl, ?_⟩
                      rw [h1]; rfl
                    · conv => whnf
                      (refine And.intro ?_ ?_; ((first | (with_reducible assumption) | (intro _; with_reducible assumption) | omega | (simp only [reduceCtorEq, ints_len, bools_len, bif_t, bif_f, zv0, zv1, zv2, zv3, zv4, zv5, zv6, zv7, zv8, zv9, zv10, zv11, zv12, zv13, zv14, zv15, zv16, zv17, zv18, zv19, zv20, zv21, zv22, zv23, zv24] at *; omega) | (intro hg; (try simp only [reduceCtorEq, ints_len, bools_len, bif_t, bif_f, zv0, zv1, zv2, zv3, zv4, zv5, zv6, zv7, zv8, zv9, zv10, zv11, zv12, zv13, zv14, zv15, zv16, zv17, zv18, zv19, zv20, zv21, zv22, zv23, zv24] at hg); first | (with_reducible assumption) | omega | (simp only [reduceCtorEq, ints_len, bools_len, bif_t, bif_f, zv0, zv1, zv2, zv3, zv4, zv5, zv6, zv7, zv8, zv9, zv10, zv11, zv12, zv13, zv14, zv15, zv16, zv17, zv18, zv19, zv20, zv21, zv22, zv23, zv24] at *; omega) | (refine ⟨?_, ?_⟩ <;> omega)) | (refine ⟨?_, ?_⟩ <;> omega) | (simp [*]; done) | grind)); (conv => whnf))
                      refine ⟨P.length - (j + 1), by omega, [], ?_⟩
                      conv => whnf
                      refine ⟨j + 1, .one (.d (.sl 1 ((((P ++ seg P s (k - 1) ++ (P.take j).map (· + k * s)).map inC).drop 0).take (P.map inC).length))), by omega, rfl, .inr (by rw [hcut]), ?_⟩
                      rw [h1]; rfl
                  · have hj' : j = P.length := by omega
                    have hrow : P ++ seg P s (k - 1) ++ (P.take j).map (· + k * s) = P ++ seg P s k := by
                      subst hj'
                      obtain ⟨k0, rfl⟩ : ∃ k0, k = k0 + 1 := ⟨k - 1, by omega⟩
                      rw [List.take_length, List.append_assoc]; rfl
                    (refine And.intro ?_ ?_; ((first | (with_reducible assumption) | (intro _; with_reducible assumption) | omega | (simp only [reduceCtorEq, ints_len, bools_len, bif_t, bif_f, zv0, zv1, zv2, zv3, zv4, zv5, zv6, zv7, zv8, zv9, zv10, zv11, zv12, zv13, zv14, zv15, zv16, zv17, zv18, zv19, zv20, zv21, zv22, zv23, zv24] at *; omega) | (intro hg; (try simp only [reduceCtorEq, ints_len, bools_len, bif_t, bif_f, zv0, zv1, zv2, zv3, zv4, zv5, zv6, zv7, zv8, zv9, zv10, zv11, zv12, zv13, zv14, zv15, zv16, zv17, zv18, zv19, zv20, zv21, zv22, zv23, zv24] at hg); first | (with_reducible assumption) | omega | (simp only [reduceCtorEq, ints_len, bools_len, bif_t, bif_f, zv0, zv1, zv2, zv3, zv4, zv5, zv6, zv7, zv8, zv9, zv10, zv11, zv12, zv13, zv14, zv15, zv16, zv17, zv18, zv19, zv20, zv21, zv22, zv23, zv24] at *; omega) | (refine ⟨?_, ?_⟩ <;> omega)) | (refine ⟨?_, ?_⟩ <;> omega) | (simp [*]; done) | grind)); (conv => whnf))
                    refine ⟨(n - (k + 1)).toNat, by omega, [], ?_⟩
                    conv => whnf
                    refine ⟨k + 1, .v (.c (.win 1 1 0 (P.map inC).length)), by omega, by omega, by omega, .inl rfl, ?_⟩
                    rw [hrow]; rfl
                · conv => whnf
                  ((with_reducible refine And.intro (fun (e : (_ : Bool) = true) => ?_) (fun (e : (_ : Bool) = false) => ?_)) <;> (try simp only [reduceCtorEq, ints_len, bools_len, bif_t, bif_f, zv0, zv1, zv2, zv3, zv4, zv5, zv6, zv7, zv8, zv9, zv10, zv11, zv12, zv13, zv14, zv15, zv16, zv17, zv18, zv19, zv20, zv21, zv22, zv23, zv24] at e) <;> (conv => whnf))
                  · obtain ⟨y, hy⟩ := get_lt (l := P) (i := j) (by omega)
                    have hyv := hpv y (List.mem_of_getElem? hy)
                    have h1 : (P ++ seg P s (k - 1) ++ (P.take (j + 1)).map (· + k * s)).map inC = (P ++ seg P s (k - 1) ++ (P.take j).map (· + k * s)).map inC ++ [inC (y + k * s)] := by rw [hstep y hy, List.map_append]; rfl
                    refine ⟨_, And.intro ⟨?_, enc_get hy⟩ ?_⟩
                    · omega
                    conv => whnf
                    refine ⟨_, And.intro ⟨?_, enc_get hs⟩ ?_⟩
                    · omega
                    conv => whnf
                    (refine And.intro ?_ ?_; ((first | (with_reducible assumption) | (intro _; with_reducible assumption) | omega | (simp only [reduceCtorEq, ints_len, bools_len, bif_t, bif_f, zv0, zv1, zv2, zv3, zv4, zv5, zv6, zv7, zv8, zv9, zv10, zv11, zv12, zv13, zv14, zv15, zv16, zv17, zv18, zv19, zv20, zv21, zv22, zv23, zv24] at *; omega) | (intro hg; (try simp only [reduceCtorEq, ints_len, bools_len, bif_t, bif_f, zv0, zv1, zv2, zv3, zv4, zv5, zv6, zv7, zv8, zv9, zv10, zv11, zv12, zv13, zv14, zv15, zv16, zv17, zv18, zv19, zv20, zv21, zv22, zv23, zv24] at hg); first | (with_reducible assumption) | omega | (simp only [reduceCtorEq, ints_len, bools_len, bif_t, bif_f, zv0, zv1, zv2, zv3, zv4, zv5, zv6, zv7, zv8, zv9, zv10, zv11, zv12, zv13, zv14, zv15, zv16, zv17, zv18, zv19, zv20, zv21, zv22, zv23, zv24] at *; omega) | (refine ⟨?_, ?_⟩ <;> omega)) | (refine ⟨?_, ?_⟩ <;> omega) | (simp [*]; done) | grind)); (conv => whnf))
                    (refine And.intro ?_ ?_; ((first | (with_reducible assumption) | (intro _; with_reducible assumption) | omega | (simp only [reduceCtorEq, ints_len, bools_len, bif_t, bif_f, zv0, zv1, zv2, zv3, zv4, zv5, zv6, zv7, zv8, zv9, zv10, zv11, zv12, zv13, zv14, zv15, zv16, zv17, zv18, zv19, zv20, zv21, zv22, zv23, zv24] at *; omega) | (intro hg; (try simp only [reduceCtorEq, ints_len, bools_len, bif_t, bif_f, zv0, zv1, zv2, zv3, zv4, zv5, zv6, zv7, zv8, zv9, zv10, zv11, zv12, zv13, zv14, zv15, zv16, zv17, zv18, zv19, zv20, zv21, zv22, zv23, zv24] at hg); first | (with_reducible assumption) | omega | (simp only [reduceCtorEq, ints_len, bools_len, bif_t, bif_f, zv0, zv1, zv2, zv3, zv4, zv5, zv6, zv7, zv8, zv9, zv10, zv11, zv12, zv13, zv14, zv15, zv16, zv17, zv18, zv19, zv20, zv21, zv22, zv23, zv24] at *; omega) | (refine ⟨?_, ?_⟩ <;> omega)) | (refine ⟨?_, ?_⟩ <;> omega) | (simp [*]; done) | grind)); (conv => whnf))
                    refine ⟨by rw [map_len]; simp only [List.length_cons, List.length_nil]; omega, ?_⟩
                    conv => whnf
                    (refine And.intro ?_ ?_; ((first | (with_reducible assumption) | (intro _; with_reducible assumption) | omega | (simp only [reduceCtorEq, ints_len, bools_len, bif_t, bif_f, zv0, zv1, zv2, zv3, zv4, zv5, zv6, zv7, zv8, zv9, zv10, zv11, zv12, zv13, zv14, zv15, zv16, zv17, zv18, zv19, zv20, zv21, zv22, zv23, zv24] at *; omega) | (intro hg; (try simp only [reduceCtorEq, ints_len, bools_len, bif_t, bif_f, zv0, zv1, zv2, zv3, zv4, zv5, zv6, zv7, zv8, zv9, zv10, zv11, zv12, zv13, zv14, zv15, zv16, zv17, zv18, zv19, zv20, zv21, zv22, zv23, zv24] at hg); first | (with_reducible assumption) | omega | (simp only [reduceCtorEq, ints_len, bools_len, bif_t, bif_f, zv0, zv1, zv2, zv3, zv4, zv5, zv6, zv7, zv8, zv9, zv10, zv11, zv12, zv13, zv14, zv15, zv16, zv17, zv18, zv19, zv20, zv21, zv22, zv23, zv24] at *; omega) | (refine ⟨?_, ?_⟩ <;> omega)) | (refine ⟨?_, ?_⟩ <;> omega) | (simp [*]; done) | grind)); (conv => whnf))
                    refine ⟨P.length - (j + 1), by omega, [], ?_⟩
                    conv => whnf
                    refine ⟨j + 1, .one (.d (.sl 1 (P.map inC))), by omega, rfl, .inr rfl, ?_⟩
                    rw [h1]; rfl
                  · have hj' : j = P.length := by omega
                    have hrow : P ++ seg P s (k - 1) ++ (P.take j).map (· + k * s) = P ++ seg P s k := by
                      subst hj'
                      obtain ⟨k0, rfl⟩ : ∃ k0, k = k0 + 1 := ⟨k - 1, by omega⟩
                      rw [List.take_length, List.append_assoc]; rfl
                    (refine And.intro ?_ ?_; ((first | (with_reducible assumption) | (intro _; with_reducible assumption) | omega | (simp only [reduceCtorEq, ints_len, bools_len, bif_t, bif_f, zv0, zv1, zv2, zv3, zv4, zv5, zv6, zv7, zv8, zv9, zv10, zv11, zv12, zv13, zv14, zv15, zv16, zv17, zv18, zv19, zv20, zv21, zv22, zv23, zv24] at *; omega) | (intro hg; (try simp only [reduceCtorEq, ints_len, bools_len, bif_t, bif_f, zv0, zv1, zv2, zv3, zv4, zv5, zv6, zv7, zv8, zv9, zv10, zv11, zv12, zv13, zv14, zv15, zv16, zv17, zv18, zv19, zv20, zv21, zv22, zv23, zv24] at hg); first | (with_reducible assumption) | omega | (simp only [reduceCtorEq, ints_len, bools_len, bif_t, bif_f, zv0, zv1, zv2, zv3, zv4, zv5, zv6, zv7, zv8, zv9, zv10, zv11, zv12, zv13, zv14, zv15, zv16, zv17, zv18, zv19, zv20, zv21, zv22, zv23, zv24] at *; omega) | (refine ⟨?_, ?_⟩ <;> omega)) | (refine ⟨?_, ?_⟩ <;> omega) | (simp [*]; done) | grind)); (conv => whnf))
                    refine ⟨(n - (k + 1)).toNat, by omega, [], ?_⟩
                    conv => whnf
                    refine ⟨k + 1, .one (.d (.sl 1 (P.map inC))), by omega, by omega, by omega, .inr rfl, ?_⟩
                    rw [hrow]; rfl
            · (refine And.intro ?_ ?_; ((first | (with_reducible assumption) | (intro _; with_reducible assumption) | omega | (simp only [reduceCtorEq, ints_len, bools_len, bif_t, bif_f, zv0, zv1, zv2, zv3, zv4, zv5, zv6, zv7, zv8, zv9, zv10, zv11, zv12, zv13, zv14, zv15, zv16, zv17, zv18, zv19, zv20, zv21, zv22, zv23, zv24] at *; omega) | (intro hg; (try simp only [reduceCtorEq, ints_len, bools_len, bif_t, bif_f, zv0, zv1, zv2, zv3, zv4, zv5, zv6, zv7, zv8, zv9, zv10, zv11, zv12, zv13, zv14, zv15, zv16, zv17, zv18, zv19, zv20, zv21, zv22, zv23, zv24] at hg); first | (with_reducible assumption) | omega | (simp only [reduceCtorEq, ints_len, bools_len, bif_t, bif_f, zv0, zv1, zv2, zv3, zv4, zv5, zv6, zv7, zv8, zv9, zv10, zv11, zv12, zv13, zv14, zv15, zv16, zv17, zv18, zv19, zv20, zv21, zv22, zv23, zv24] at *; omega) | (refine ⟨?_, ?_⟩ <;> omega)) | (refine ⟨?_, ?_⟩ <;> omega) | (simp [*]; done) | grind)); (conv => whnf))
              refine ⟨l.length - (i + 1), by omega, [], ?_⟩
              conv => whnf
              refine ⟨i + 1, by omega, rfl, ?_⟩
              rw [hnext, show (n - 1).toNat = k - 1 by omega]; rfl
      · have hi' : i = l.length := by omega
        subst hi'
        refine ⟨[], ?_⟩
        conv => whnf
        exact ⟨[1], by simp, .cons ⟨_, rfl, rfl, rfl⟩ .nil, rfl⟩
end Go.Proofs.YtahdihhhankhdaaGreat.V
-- Vv
namespace Go.Proofs.YtahdihhhankhdaaGreat.V
open Go.Proofs.YtahdihhhankhdaaGreatVY Go.RowKit
theorem isKern_iff (k : Kern) : isKern k = true ↔ 0 ≤ many k.ext ∧ 1 ≤ k.sets.length ∧ k.sets.length ≤ 8 ∧ ∀ s ∈ k.sets, ∀ r ∈ s.loads ++ [s.to], refOk k.ext r = true := by
  unfold isKern formed
  simp only [Bool.and_eq_true, decide_eq_true_eq, List.all_eq_true, List.mem_append, List.mem_singleton]
  constructor
  · rintro ⟨⟨h1, h2⟩, h3, h4⟩
    refine ⟨h1, h3, h4, fun s hs r hr => ?_⟩
    rcases hr with hr | rfl
    · exact (h2 s hs).2 r hr
    · exact (h2 s hs).1
  · rintro ⟨h1, h3, h4, h2⟩
    exact ⟨⟨h1, fun s hs => ⟨h2 s hs _ (.inr rfl), fun r hr => h2 s hs r (.inl hr)⟩⟩, h3, h4⟩
theorem isKern_not {k : Kern} {i j : Nat} {s : ASet} {r : Ref} (hs : k.sets[i]? = some s) (hr : (s.loads ++ [s.to])[j]? = some r) (h : refOk k.ext r = false) : isKern k = false := by
  refine Bool.eq_false_iff.2 fun hk => ?_
  have := ((isKern_iff k).1 hk).2.2.2 s (List.mem_of_getElem? hs) r (List.mem_of_getElem? hr)
  rw [h] at this; cases this
def R9061 : Ct := fun ss hp r out => ∃ k : Kern, ss = [.v (.ag (k.c.map .d))] ∧ hp = [] ∧ k.bulk ≤ 4194304 ∧ r = .db (isKern k) ∧ out = []
/-- the subscripts of an iteration -/
def subs : List Int → Int → List Int
  | [], _ => []
  | e :: l, n => n.tmod e :: subs l (n.tdiv e)
/-- what is left of an iteration behind so many subscripts -/
def rests : List Int → Int → Nat → Int
  | _, n, 0 => n
  | [], n, _ + 1 => n
  | e :: l, n, i + 1 => rests l (n.tdiv e) i
theorem subs_len : ∀ (l : List Int) (n : Int), (subs l n).length = l.length
  | [], _ => rfl
  | e :: l, n => by rw [subs, List.length_cons, subs_len l, List.length_cons]
theorem rests_get : ∀ {l : List Int} {n : Int} {i : Nat} {e : Int}, l[i]? = some e → rests l n (i + 1) = (rests l n i).tdiv e ∧ (subs l n)[i]? = some ((rests l n i).tmod e)
  | [], _, _, _, h => by simp at h
  | e :: l, n, 0, e', h => by simp at h; subst h; cases l <;> exact ⟨rfl, rfl⟩
  | e :: l, n, i + 1, e', h => by
    have := rests_get (l := l) (n := n.tdiv e) (i := i) (e := e') (by simpa using h)
    exact ⟨this.1, by rw [subs, List.getElem?_cons_succ]; exact this.2⟩
theorem rests_bd : ∀ (l : List Int) (n : Int), (∀ e ∈ l, 1 ≤ e) → 0 ≤ n → n ≤ 400 → ∀ i, 0 ≤ rests l n i ∧ rests l n i ≤ 400
  | l, n, _, h0, h1, 0 => by cases l <;> exact ⟨h0, h1⟩
  | [], n, _, h0, h1, i + 1 => ⟨h0, h1⟩
  | e :: l, n, he, h0, h1, i + 1 => by
    have h := he e (List.mem_cons_self ..)
    have h2 : 0 ≤ n.tdiv e := Int.tdiv_nonneg h0 (by omega)
    have h3 : n.tdiv e ≤ n := by rw [Int.tdiv_eq_ediv_of_nonneg h0]; exact Int.ediv_le_self _ h0
    exact rests_bd l (n.tdiv e) (fun x hx => he x (List.mem_cons_of_mem _ hx)) h2 (by omega) i
def R77 : Ct := fun ss hp r out => ∃ (l : List Int) (n : Int), ss = [.one (.d (.sl 1 (l.map inC))), .di .i64 n] ∧ hp = [] ∧ l.length ≤ 3 ∧ (∀ e ∈ l, 1 ≤ e) ∧ (0 ≤ n ∧ n ≤ 400) ∧ r = .one (.own 0) ∧ out = [.row 1 ((subs l n).map inC)]
set_option maxHeartbeats 4000000 in
theorem ok77 : VSound Tryz.prog (77, R77) := by
  refine vsound (T := ty) (F := []) (pl := []) (nw := true) (cuts := []) mix tyOk .nil Tryz.func77 (by kernel_rfl) (by kernel_rfl) ?_
  rintro _ _ _ _ ⟨l, n, rfl, rfl, hl, h1, hn, rfl, rfl⟩
  conv => whnf
  have hbd := rests_bd l n h1 hn.1 hn.2
  have hsl := subs_len l n
  refine ⟨[.slot 5 true], [0, 1, 5, 6], 1, fun n1 σ => ∃ i : Nat, i ≤ l.length ∧ n1 = l.length - i ∧ σ = (⟨[.one (.d (.sl 1 (l.map inC))), .di .i64 (rests l n i), .junk, .junk, .junk, .one (.own 0), .di .i64 i, .junk, .junk, .junk, .junk, .junk, .junk, .junk, .junk, .junk, .junk, .junk, .junk, .junk, .junk, .junk, .junk, .junk, .junk, .junk, .junk, .junk, .junk], [.row 1 (((subs l n).take i).map inC)]⟩ : St), ?_, ?_⟩
  · refine ⟨l.length, ?_⟩
    conv => whnf
    refine ⟨0, by omega, by omega, ?_⟩
    rw [show rests l n 0 = n by cases l <;> rfl]; rfl
  · rintro n1 _ ⟨i, hi, rfl, rfl⟩
    conv => whnf
    ((with_reducible refine And.intro (fun (e : (_ : Bool) = true) => ?_) (fun (e : (_ : Bool) = false) => ?_)) <;> (try simp only [reduceCtorEq, ints_len, bools_len, bif_t, bif_f, zv0, zv1, zv2, zv3, zv4, zv5, zv6, zv7, zv8, zv9, zv10, zv11, zv12, zv13, zv14, zv15, zv16, zv17, zv18, zv19, zv20, zv21, zv22, zv23, zv24] at e) <;> (conv => whnf))
    · obtain ⟨x, hx⟩ := get_lt (l := l) (i := i) (by omega)
      obtain ⟨hr1, hr2⟩ := rests_get (n := n) hx
      have hx1 := h1 x (List.mem_of_getElem? hx)
      have hb := hbd i
      have hb1 := hbd (i + 1)
      rw [hr1] at hb1
      (refine ⟨_, And.intro ⟨by omega, enc_get hx⟩ ?_⟩; (conv => whnf))
      (refine And.intro ?_ ?_; ((first | (with_reducible assumption) | (intro _; with_reducible assumption) | omega | (simp only [reduceCtorEq, ints_len, bools_len, bif_t, bif_f, zv0, zv1, zv2, zv3, zv4, zv5, zv6, zv7, zv8, zv9, zv10, zv11, zv12, zv13, zv14, zv15, zv16, zv17, zv18, zv19, zv20, zv21, zv22, zv23, zv24] at *; omega) | (intro hg; (try simp only [reduceCtorEq, ints_len, bools_len, bif_t, bif_f, zv0, zv1, zv2, zv3, zv4, zv5, zv6, zv7, zv8, zv9, zv10, zv11, zv12, zv13, zv14, zv15, zv16, zv17, zv18, zv19, zv20, zv21, zv22, zv23, zv24] at hg); first | (with_reducible assumption) | omega | (simp only [reduceCtorEq, ints_len, bools_len, bif_t, bif_f, zv0, zv1, zv2, zv3, zv4, zv5, zv6, zv7, zv8, zv9, zv10, zv11, zv12, zv13, zv14, zv15, zv16, zv17, zv18, zv19, zv20, zv21, zv22, zv23, zv24] at *; omega) | (refine ⟨?_, ?_⟩ <;> omega)) | (refine ⟨?_, ?_⟩ <;> omega) | (simp [*]; done) | grind)); (conv => whnf))
      refine ⟨by rw [map_len, List.length_take]; simp only [List.length_cons, List.length_nil]; omega, ?_⟩
      conv => whnf
      (refine ⟨_, And.intro ⟨by omega, enc_get hx⟩ ?_⟩; (conv => whnf))
      (refine And.intro ?_ ?_; ((first | (with_reducible assumption) | (intro _; with_reducible assumption) | omega | (simp only [reduceCtorEq, ints_len, bools_len, bif_t, bif_f, zv0, zv1, zv2, zv3, zv4, zv5, zv6, zv7, zv8, zv9, zv10, zv11, zv12, zv13, zv14, zv15, zv16, zv17, zv18, zv19, zv20, zv21, zv22, zv23, zv24] at *; omega) | (intro hg; (try simp only [reduceCtorEq, ints_len, bools_len, bif_t, bif_f, zv0, zv1, zv2, zv3, zv4, zv5, zv6, zv7, zv8, zv9, zv10, zv11, zv12, zv13, zv14, zv15, zv16, zv17, zv18, zv19, zv20, zv21, zv22, zv23, zv24] at hg); first | (with_reducible assumption) | omega | (simp only [reduceCtorEq, ints_len, bools_len, bif_t, bif_f, zv0, zv1, zv2, zv3, zv4, zv5, zv6, zv7, zv8, zv9, zv10, zv11, zv12, zv13, zv14, zv15, zv16, zv17, zv18, zv19, zv20, zv21, zv22, zv23, zv24] at *; omega) | (refine ⟨?_, ?_⟩ <;> omega)) | (refine ⟨?_, ?_⟩ <;> omega) | (simp [*]; done) | grind)); (conv => whnf))
      (refine And.intro ?_ ?_; ((first | (with_reducible assumption) | (intro _; with_reducible assumption) | omega | (simp only [reduceCtorEq, ints_len, bools_len, bif_t, bif_f, zv0, zv1, zv2, zv3, zv4, zv5, zv6, zv7, zv8, zv9, zv10, zv11, zv12, zv13, zv14, zv15, zv16, zv17, zv18, zv19, zv20, zv21, zv22, zv23, zv24] at *; omega) | (intro hg; (try simp only [reduceCtorEq, ints_len, bools_len, bif_t, bif_f, zv0, zv1, zv2, zv3, zv4, zv5, zv6, zv7, zv8, zv9, zv10, zv11, zv12, zv13, zv14, zv15, zv16, zv17, zv18, zv19, zv20, zv21, zv22, zv23, zv24] at hg); first | (with_reducible assumption) | omega | (simp only [reduceCtorEq, ints_len, bools_len, bif_t, bif_f, zv0, zv1, zv2, zv3, zv4, zv5, zv6, zv7, zv8, zv9, zv10, zv11, zv12, zv13, zv14, zv15, zv16, zv17, zv18, zv19, zv20, zv21, zv22, zv23, zv24] at *; omega) | (refine ⟨?_, ?_⟩ <;> omega)) | (refine ⟨?_, ?_⟩ <;> omega) | (simp [*]; done) | grind)); (conv => whnf))
      (refine And.intro ?_ ?_; ((first | (with_reducible assumption) | (intro _; with_reducible assumption) | omega | (simp only [reduceCtorEq, ints_len, bools_len, bif_t, bif_f, zv0, zv1, zv2, zv3, zv4, zv5, zv6, zv7, zv8, zv9, zv10, zv11, zv12, zv13, zv14, zv15, zv16, zv17, zv18, zv19, zv20, zv21, zv22, zv23, zv24] at *; omega) | (intro hg; (try simp only [reduceCtorEq, ints_len, bools_len, bif_t, bif_f, zv0, zv1, zv2, zv3, zv4, zv5, zv6, zv7, zv8, zv9, zv10, zv11, zv12, zv13, zv14, zv15, zv16, zv17, zv18, zv19, zv20, zv21, zv22, zv23, zv24] at hg); first | (with_reducible assumption) | omega | (simp only [reduceCtorEq, ints_len, bools_len, bif_t, bif_f, zv0, zv1, zv2, zv3, zv4, zv5, zv6, zv7, zv8, zv9, zv10, zv11, zv12, zv13, zv14, zv15, zv16, zv17, zv18, zv19, zv20, zv21, zv22, zv23, zv24] at *; omega) | (refine ⟨?_, ?_⟩ <;> omega)) | (refine ⟨?_, ?_⟩ <;> omega) | (simp [*]; done) | grind)); (conv => whnf))
      refine ⟨l.length - (i + 1), by omega, [], ?_⟩
      conv => whnf
      refine ⟨i + 1, by omega, rfl, ?_⟩
      rw [hr1, List.take_add_one, hr2, List.map_append]; rfl
    · have hi' : i = l.length := by omega
      subst hi'
      rw [← hsl, List.take_length]
      refine ⟨[], ?_⟩
      conv => whnf
      exact ⟨[0], by simp, .cons ⟨_, rfl, rfl, rfl⟩ .nil, rfl⟩
/-- a base and what subscripts and strides make -/
def dot : List Int → List Int → Int → Int
  | s :: l, x :: xs, b => dot l xs (b + s * x)
  | _, _, b => b
def place (l : List Int) (x : Ref) (n : Int) : Int := dot (subs l n) x.str x.base
theorem dot_take : ∀ {l xs : List Int} {b : Int} {i : Nat} {s x : Int}, l[i]? = some s → xs[i]? = some x → dot (l.take (i + 1)) xs b = dot (l.take i) xs b + s * x
  | [], _, _, _, _, _, h, _ => by simp at h
  | _ :: _, [], _, _, _, _, _, h => by simp at h
  | s :: l, x :: xs, b, 0, s', x', h, h' => by simp at h h'; subst h; subst h'; simp [dot]
  | s :: l, x :: xs, b, i + 1, s', x', h, h' => by
    rw [List.take_succ_cons, List.take_succ_cons, dot, dot]
    exact dot_take (by simpa using h) (by simpa using h')
theorem dot_bd {S : Int} (hS : 0 ≤ S) : ∀ {l xs : List Int} {b B : Int}, (∀ s ∈ l, 0 ≤ s ∧ s ≤ 400) → (∀ x ∈ xs, -S ≤ x ∧ x ≤ S) → -B ≤ b ∧ b ≤ B → -(B + l.length * (400 * S)) ≤ dot l xs b ∧ dot l xs b ≤ B + l.length * (400 * S)
  | [], _, b, B, _, _, h => by simp [dot]; exact h
  | s :: l, [], b, B, _, _, h => by
    rw [dot]
    have : 0 ≤ ((s :: l).length : Int) * (400 * S) := Int.mul_nonneg (by omega) (by omega)
    · omega
    · rintro _ _ _ _ _ h; cases h
  | s :: l, x :: xs, b, B, hs, hx, h => by
    rw [dot]
    have h1 := hs s (List.mem_cons_self ..)
    have h2 := hx x (List.mem_cons_self ..)
    have h3 : s * x ≤ 400 * S := Int.le_trans (Int.mul_le_mul_of_nonneg_left h2.2 h1.1) (Int.mul_le_mul_of_nonneg_right h1.2 hS)
    have h4 : -(400 * S) ≤ s * x := by
      have a := Int.mul_le_mul_of_nonneg_left h2.1 h1.1
      have b := Int.mul_le_mul_of_nonneg_right h1.2 hS
      rw [Int.mul_neg] at a
      omega
    have := dot_bd hS (l := l) (xs := xs) (b := b + s * x) (B := B + 400 * S) (fun s hs' => hs s (List.mem_cons_of_mem _ hs')) (fun x hx' => hx x (List.mem_cons_of_mem _ hx')) (by omega)
    rw [List.length_cons]
    push_cast
    rw [Int.add_mul]
    omega
theorem subs_bd : ∀ (l : List Int) (n : Int), (∀ e ∈ l, 1 ≤ e) → 0 ≤ n → n ≤ 400 → ∀ s ∈ subs l n, 0 ≤ s ∧ s ≤ 400
  | [], _, _, _, _, s, h => by simp [subs] at h
  | e :: l, n, he, h0, h1, s, h => by
    have h' := he e (List.mem_cons_self ..)
    have h2 : 0 ≤ n.tdiv e := Int.tdiv_nonneg h0 (by omega)
    have h3 : n.tdiv e ≤ n := by rw [Int.tdiv_eq_ediv_of_nonneg h0]; exact Int.ediv_le_self _ h0
    rw [subs, List.mem_cons] at h
    rcases h with rfl | h
    · rw [Int.tmod_eq_emod_of_nonneg h0]
      have a := Int.emod_nonneg n (b := e) (by omega)
      have b : n % e ≤ n := by
        have h := Int.emod_add_mul_ediv n e
        have h4 : 0 ≤ e * (n / e) := Int.mul_nonneg (by omega) (Int.ediv_nonneg h0 (by omega))
        omega
      omega
    · exact subs_bd l (n.tdiv e) (fun x hx => he x (List.mem_cons_of_mem _ hx)) h2 (by omega) s h
def R63 : Ct := fun ss hp r out => ∃ (l : List Int) (x : Ref) (n : Int), ss = [.one (.d (.sl 1 (l.map inC))), .v (.ag (x.c.map .d)), .di .i64 n] ∧ hp = [] ∧ Rt l x ∧ (∀ e ∈ l, 1 ≤ e) ∧ (0 ≤ n ∧ n ≤ 400) ∧ r = .di .i64 (place l x n) ∧ out = []
set_option maxHeartbeats 4000000 in
theorem ok63 : VSound Tryz.prog (63, R63) := by
  refine vsound (T := ty) (F := [(77, R77)]) (pl := [(6, [[], [], [], [1, 2], [1, 2, 3], [], [5], [], [5, 6, 7], [5, 6, 7, 8], [1, 2, 3, 4, 5, 6, 7, 8, 9], [0, 1, 2, 3, 4, 5, 6, 7, 8, 9, 10], [0, 1, 2, 3, 4, 5, 6, 7, 8, 9, 10, 11]], .look 0 (.look 1 (.look 2 (.look 3 (.look 4 (.look 5 (.look 6 (.look 7 (.look 8 (.look 9 (.look 10 (.look 11 (.look 12 .done)))))))))))))]) (nw := true) (cuts := []) mix tyOk (.cons (ok77) .nil) Tryz.func63 (by kernel_rfl) (by kernel_rfl) ?_
  rintro _ _ _ _ ⟨l, ⟨xa, xb, xs⟩, n, rfl, rfl, hR, h1, hn, rfl, rfl⟩
  have hlen := hR.len
  have hl3 := hR.l3
  have hbs := hR.base
  have hst := hR.str
  simp only at hlen hbs hst
  have hsb := subs_bd l n h1 hn.1 hn.2
  have hsl := subs_len l n
  conv => whnf
  (refine ⟨[], false, false, ?_⟩; (conv => whnf); refine ⟨_, _, ⟨l, n, rfl, rfl, hl3, h1, hn, rfl, rfl⟩, ?_⟩; (conv => whnf))
  unfold place
  generalize subs l n = U at *
  refine ⟨[], [4, 7, 8, 9], 2, fun n1 σ => ∃ i : Nat, i ≤ U.length ∧ n1 = U.length - i ∧ σ = (⟨[.junk, .junk, .junk, .junk, .one (.ptr 0 0), .junk, .junk, .one (.own 1), .di .i64 (dot (U.take i) xs xb), .di .i64 i, .junk, .junk, .junk, .junk, .junk, .junk, .junk, .junk, .junk, .junk, .junk, .junk, .junk, .junk, .junk, .junk, .junk, .junk, .junk, .junk, .junk, .junk, .junk, .junk], [.box (List.map .d (Ref.mk xa xb xs).c), .row 1 (U.map inC)]⟩ : St), ?_, ?_⟩
  · refine ⟨U.length, ?_⟩
    conv => whnf
    exact ⟨0, by omega, by omega, rfl⟩
  · rintro n1 _ ⟨i, hi, rfl, rfl⟩
    conv => whnf
    ((with_reducible refine And.intro (fun (e : (_ : Bool) = true) => ?_) (fun (e : (_ : Bool) = false) => ?_)) <;> (try simp only [reduceCtorEq, ints_len, bools_len, bif_t, bif_f, zv0, zv1, zv2, zv3, zv4, zv5, zv6, zv7, zv8, zv9, zv10, zv11, zv12, zv13, zv14, zv15, zv16, zv17, zv18, zv19, zv20, zv21, zv22, zv23, zv24] at e) <;> (conv => whnf))
    · obtain ⟨s, hs⟩ := get_lt (l := U) (i := i) (by omega)
      obtain ⟨x, hx⟩ := get_lt (l := xs) (i := i) (by omega)
      have hd := dot_take (b := xb) hs hx
      have hb1 := dot_bd (S := 1000000) (by decide) (l := U.take (i + 1)) (xs := xs) (b := xb) (B := 1000000) (fun s hs => hsb s (List.mem_of_mem_take hs)) hst hbs
      have hb2 := dot_bd (S := 1000000) (by decide) (l := U.take i) (xs := xs) (b := xb) (B := 1000000) (fun s hs => hsb s (List.mem_of_mem_take hs)) hst hbs
      rw [hd] at hb1
      have hUl : (U.take (i + 1)).length ≤ 3 := by rw [List.length_take]; omega
      have hUl2 : (U.take i).length ≤ 3 := by rw [List.length_take]; omega
      (refine And.intro ⟨by omega, by rw [map_len]; omega⟩ ?_; (conv => whnf); refine ⟨_, And.intro (enc_get hs) ?_⟩; (conv => whnf))
      (refine ⟨_, And.intro ⟨by omega, enc_get hx⟩ ?_⟩; (conv => whnf))
      (refine And.intro ?_ ?_; ((first | (with_reducible assumption) | (intro _; with_reducible assumption) | omega | (simp only [reduceCtorEq, ints_len, bools_len, bif_t, bif_f, zv0, zv1, zv2, zv3, zv4, zv5, zv6, zv7, zv8, zv9, zv10, zv11, zv12, zv13, zv14, zv15, zv16, zv17, zv18, zv19, zv20, zv21, zv22, zv23, zv24] at *; omega) | (intro hg; (try simp only [reduceCtorEq, ints_len, bools_len, bif_t, bif_f, zv0, zv1, zv2, zv3, zv4, zv5, zv6, zv7, zv8, zv9, zv10, zv11, zv12, zv13, zv14, zv15, zv16, zv17, zv18, zv19, zv20, zv21, zv22, zv23, zv24] at hg); first | (with_reducible assumption) | omega | (simp only [reduceCtorEq, ints_len, bools_len, bif_t, bif_f, zv0, zv1, zv2, zv3, zv4, zv5, zv6, zv7, zv8, zv9, zv10, zv11, zv12, zv13, zv14, zv15, zv16, zv17, zv18, zv19, zv20, zv21, zv22, zv23, zv24] at *; omega) | (refine ⟨?_, ?_⟩ <;> omega)) | (refine ⟨?_, ?_⟩ <;> omega) | (simp [*]; done) | grind)); (conv => whnf))
      (refine And.intro ?_ ?_; ((first | (with_reducible assumption) | (intro _; with_reducible assumption) | omega | (simp only [reduceCtorEq, ints_len, bools_len, bif_t, bif_f, zv0, zv1, zv2, zv3, zv4, zv5, zv6, zv7, zv8, zv9, zv10, zv11, zv12, zv13, zv14, zv15, zv16, zv17, zv18, zv19, zv20, zv21, zv22, zv23, zv24] at *; omega) | (intro hg; (try simp only [reduceCtorEq, ints_len, bools_len, bif_t, bif_f, zv0, zv1, zv2, zv3, zv4, zv5, zv6, zv7, zv8, zv9, zv10, zv11, zv12, zv13, zv14, zv15, zv16, zv17, zv18, zv19, zv20, zv21, zv22, zv23, zv24] at hg); first | (with_reducible assumption) | omega | (simp only [reduceCtorEq, ints_len, bools_len, bif_t, bif_f, zv0, zv1, zv2, zv3, zv4, zv5, zv6, zv7, zv8, zv9, zv10, zv11, zv12, zv13, zv14, zv15, zv16, zv17, zv18, zv19, zv20, zv21, zv22, zv23, zv24] at *; omega) | (refine ⟨?_, ?_⟩ <;> omega)) | (refine ⟨?_, ?_⟩ <;> omega) | (simp [*]; done) | grind)); (conv => whnf))
      (refine And.intro ?_ ?_; ((first | (with_reducible assumption) | (intro _; with_reducible assumption) | omega | (simp only [reduceCtorEq, ints_len, bools_len, bif_t, bif_f, zv0, zv1, zv2, zv3, zv4, zv5, zv6, zv7, zv8, zv9, zv10, zv11, zv12, zv13, zv14, zv15, zv16, zv17, zv18, zv19, zv20, zv21, zv22, zv23, zv24] at *; omega) | (intro hg; (try simp only [reduceCtorEq, ints_len, bools_len, bif_t, bif_f, zv0, zv1, zv2, zv3, zv4, zv5, zv6, zv7, zv8, zv9, zv10, zv11, zv12, zv13, zv14, zv15, zv16, zv17, zv18, zv19, zv20, zv21, zv22, zv23, zv24] at hg); first | (with_reducible assumption) | omega | (simp only [reduceCtorEq, ints_len, bools_len, bif_t, bif_f, zv0, zv1, zv2, zv3, zv4, zv5, zv6, zv7, zv8, zv9, zv10, zv11, zv12, zv13, zv14, zv15, zv16, zv17, zv18, zv19, zv20, zv21, zv22, zv23, zv24] at *; omega) | (refine ⟨?_, ?_⟩ <;> omega)) | (refine ⟨?_, ?_⟩ <;> omega) | (simp [*]; done) | grind)); (conv => whnf))
      refine ⟨U.length - (i + 1), by omega, [], ?_⟩
      conv => whnf
      refine ⟨i + 1, by omega, rfl, ?_⟩
      rw [hd]; rfl
    · have hi' : i = U.length := by omega
      subst hi'
      rw [List.take_length]
      (refine ⟨[], ?_⟩; (conv => whnf); refine ⟨[], .nil, .nil, ?_⟩; (conv => whnf))
end Go.Proofs.YtahdihhhankhdaaGreat.V
-- Za
namespace Go.Proofs.YtahdihhhankhdaaGreat.V
open Go.Proofs.YtahdihhhankhdaaGreatVY Go.RowKit
def R42 (m : Nat) : Ct := fun ss hp r out => ∃ t : Tree, ss = [.v (.ag (t.c.map .d))] ∧ hp = [] ∧ t.bulk < m ∧ m ≤ 4194305 ∧ r = .one (.own 0) ∧ out = [.row 3 (t.loads.map Ref.c)]
theorem ok42_0 : VSound Tryz.prog (42, R42 0) := by
  refine .inl ⟨?_, enterB_ok (by kernel_rfl)⟩
  unfold Ok
  intros
  rename_i hR
  obtain ⟨t, _, _, h, _⟩ := hR
  omega
set_option maxHeartbeats 4000000 in
theorem ok42_s (m : Nat) (ih : VSound Tryz.prog (42, R42 m)) : VSound Tryz.prog (42, R42 (m + 1)) := by
  refine vsound (T := ty) (F := [(42, R42 m)]) (pl := []) (nw := true) (cuts := []) mix tyOk (.cons (ih) .nil) Tryz.func42 (by kernel_rfl) (by kernel_rfl) ?_
  rintro _ _ _ _ ⟨⟨op, kind, n, ref, kids⟩, rfl, rfl, hm, hm2, rfl, rfl⟩
  rw [Tree.bulk] at hm
  have hkl := treesBulk_len kids
  conv => whnf
  refine ⟨[.slot 3 true], [1, 3, 4], 2, fun n1 σ => ∃ i : Nat, i ≤ kids.length ∧ n1 = kids.length - i ∧ σ = (⟨[.junk, .one (.ptr 0 0), .junk, .one (.own 1), .di .i64 i, .junk, .junk, .junk, .junk, .junk, .junk, .junk, .junk, .junk, .junk, .junk, .junk, .junk, .junk, .junk, .junk, .junk, .junk, .junk, .junk, .junk, .junk, .junk, .junk], [.box (List.map .d (Tree.mk op kind n ref kids).c), .row 3 ((treesLoads (kids.take i)).map Ref.c)]⟩ : St), ?_, ?_⟩
  · refine ⟨kids.length, ?_⟩
    conv => whnf
    exact ⟨0, by omega, by omega, rfl⟩
  · rintro n1 _ ⟨i, hi, rfl, rfl⟩
    conv => whnf
    rw [show ((treesC kids).length : Int) = kids.length by rw [treesC_map, map_len]]
    ((with_reducible refine And.intro (fun (e : (_ : Bool) = true) => ?_) (fun (e : (_ : Bool) = false) => ?_)) <;> (try simp only [reduceCtorEq, ints_len, bools_len, bif_t, bif_f, zv0, zv1, zv2, zv3, zv4, zv5, zv6, zv7, zv8, zv9, zv10, zv11, zv12, zv13, zv14, zv15, zv16, zv17, zv18, zv19, zv20, zv21, zv22, zv23, zv24] at e) <;> (conv => whnf))
    · have hlt : i < kids.length := by omega
      obtain ⟨x, hget⟩ := get_lt hlt
      have hb := treesBulk_get hget
      have hl := treesLoads_take hget
      have hw := treesLoads_len (kids.take (i + 1))
      have hw2 := treesBulk_take kids (i + 1)
      refine ⟨_, And.intro ⟨?_, trees_get hget⟩ ?_⟩
      · omega
      obtain ⟨xop, xkind, xn, xref, xkids⟩ := x
      conv => whnf
      refine ⟨[], false, false, ?_⟩
      conv => whnf
      refine ⟨_, _, ⟨.mk xop xkind xn xref xkids, rfl, rfl, by omega, by omega, rfl, rfl⟩, ?_⟩
      conv => whnf
      rw [hl] at hw
      rw [List.length_append] at hw
      refine ⟨by rw [map_len, map_len]; omega, ?_⟩
      conv => whnf
      (refine And.intro ?_ ?_; ((first | (with_reducible assumption) | (intro _; with_reducible assumption) | omega | (simp only [reduceCtorEq, ints_len, bools_len, bif_t, bif_f, zv0, zv1, zv2, zv3, zv4, zv5, zv6, zv7, zv8, zv9, zv10, zv11, zv12, zv13, zv14, zv15, zv16, zv17, zv18, zv19, zv20, zv21, zv22, zv23, zv24] at *; omega) | (intro hg; (try simp only [reduceCtorEq, ints_len, bools_len, bif_t, bif_f, zv0, zv1, zv2, zv3, zv4, zv5, zv6, zv7, zv8, zv9, zv10, zv11, zv12, zv13, zv14, zv15, zv16, zv17, zv18, zv19, zv20, zv21, zv22, zv23, zv24] at hg); first | (with_reducible assumption) | omega | (simp only [reduceCtorEq, ints_len, bools_len, bif_t, bif_f, zv0, zv1, zv2, zv3, zv4, zv5, zv6, zv7, zv8, zv9, zv10, zv11, zv12, zv13, zv14, zv15, zv16, zv17, zv18, zv19, zv20, zv21, zv22, zv23, zv24] at *; omega) | (refine ⟨?_, ?_⟩ <;> omega)) | (refine ⟨?_, ?_⟩ <;> omega) | (simp [*]; done) | grind)); (conv => whnf))
      refine ⟨kids.length - (i + 1), by omega, [], ?_⟩
      conv => whnf
      refine ⟨i + 1, by omega, rfl, ?_⟩
      rw [hl, List.map_append]; rfl
    · have hi' : i = kids.length := by omega
      subst hi'
      rw [List.take_length]
      refine ⟨fun e => ?_, fun e => ?_⟩
      · conv => whnf
        refine ⟨by rw [map_len]; simp only [List.length_cons, List.length_nil]; have := treesLoads_len kids; omega, ?_⟩
        conv => whnf
        have hL : treesLoads kids ++ [ref] = (Tree.mk op kind n ref kids).loads := by rw [Tree.loads, if_pos (show isLoad op = true from e)]
        refine ⟨[], ?_⟩
        conv => whnf
        refine ⟨[1], by simp, .cons ⟨_, rfl, rfl, ?_⟩ .nil, rfl⟩
        rw [← hL, List.map_append]; first | done | rfl
      · conv => whnf
        have hL : treesLoads kids = (Tree.mk op kind n ref kids).loads := by rw [Tree.loads, if_neg (by rw [isLoad, e]; simp), List.append_nil]
        refine ⟨[], ?_⟩
        conv => whnf
        refine ⟨[1], by simp, .cons ⟨_, rfl, rfl, ?_⟩ .nil, rfl⟩
        rw [← hL]
theorem ok42 : ∀ m : Nat, VSound Tryz.prog (42, R42 m)
  | 0 => ok42_0
  | m + 1 => ok42_s m (ok42 m)
def R21 : Ct := fun ss hp r out => ∃ s : ASet, ss = [.v (.ag (s.c.map .d))] ∧ hp = [] ∧ s.bulk ≤ 4194304 ∧ r = .one (.own 0) ∧ out = [.row 3 (s.loads.map Ref.c)]
set_option maxHeartbeats 4000000 in
theorem ok21 : VSound Tryz.prog (21, R21) := by
  refine vsound (T := ty) (F := [(42, R42 4194305)]) (pl := []) (nw := true) (cuts := []) mix tyOk (.cons (ok42 4194305) .nil) Tryz.func21 (by kernel_rfl) (by kernel_rfl) ?_
  rintro _ _ _ _ ⟨⟨⟨xa, xb, xs⟩, mask, ⟨op, kind, n, ref, kids⟩⟩, rfl, rfl, hm, rfl, rfl⟩
  simp only [ASet.bulk] at hm
  have hkl := treesBulk_len mask
  conv => whnf
  refine ⟨[.slot 3 true], [1, 3, 4], 2, fun n1 σ => ∃ i : Nat, i ≤ mask.length ∧ n1 = mask.length - i ∧ σ = (⟨[.junk, .one (.ptr 0 0), .junk, .one (.own 1), .di .i64 i, .junk, .junk, .junk, .junk, .junk, .junk, .junk, .junk, .junk, .junk, .junk, .junk, .junk, .junk, .junk, .junk, .junk, .junk, .junk, .junk], [.box (List.map .d (ASet.mk ⟨xa, xb, xs⟩ mask ⟨op, kind, n, ref, kids⟩).c), .row 3 ((treesLoads (mask.take i)).map Ref.c)]⟩ : St), ?_, ?_⟩
  · refine ⟨mask.length, ?_⟩
    conv => whnf
    exact ⟨0, by omega, by omega, rfl⟩
  · rintro n1 _ ⟨i, hi, rfl, rfl⟩
    conv => whnf
    ((with_reducible refine And.intro (fun (e : (_ : Bool) = true) => ?_) (fun (e : (_ : Bool) = false) => ?_)) <;> (try simp only [reduceCtorEq, ints_len, bools_len, bif_t, bif_f, zv0, zv1, zv2, zv3, zv4, zv5, zv6, zv7, zv8, zv9, zv10, zv11, zv12, zv13, zv14, zv15, zv16, zv17, zv18, zv19, zv20, zv21, zv22, zv23, zv24] at e) <;> (conv => whnf))
    · have hlt : i < mask.length := by omega
      obtain ⟨x, hget⟩ := get_lt hlt
      have hb := treesBulk_get hget
      have hl := treesLoads_take hget
      have hw := treesLoads_len (mask.take (i + 1))
      have hw2 := treesBulk_take mask (i + 1)
      refine ⟨_, And.intro ⟨?_, enc_get hget⟩ ?_⟩
      · omega
      obtain ⟨xop, xkind, xn, xref, xkids⟩ := x
      conv => whnf
      refine ⟨[], false, false, ?_⟩
      conv => whnf
      refine ⟨_, _, ⟨.mk xop xkind xn xref xkids, rfl, rfl, by omega, by omega, rfl, rfl⟩, ?_⟩
      conv => whnf
      rw [hl] at hw
      rw [List.length_append] at hw
      refine ⟨by rw [map_len, map_len]; omega, ?_⟩
      conv => whnf
      (refine And.intro ?_ ?_; ((first | (with_reducible assumption) | (intro _; with_reducible assumption) | omega | (simp only [reduceCtorEq, ints_len, bools_len, bif_t, bif_f, zv0, zv1, zv2, zv3, zv4, zv5, zv6, zv7, zv8, zv9, zv10, zv11, zv12, zv13, zv14, zv15, zv16, zv17, zv18, zv19, zv20, zv21, zv22, zv23, zv24] at *; omega) | (intro hg; (try simp only [reduceCtorEq, ints_len, bools_len, bif_t, bif_f, zv0, zv1, zv2, zv3, zv4, zv5, zv6, zv7, zv8, zv9, zv10, zv11, zv12, zv13, zv14, zv15, zv16, zv17, zv18, zv19, zv20, zv21, zv22, zv23, zv24] at hg); first | (with_reducible assumption) | omega | (simp only [reduceCtorEq, ints_len, bools_len, bif_t, bif_f, zv0, zv1, zv2, zv3, zv4, zv5, zv6, zv7, zv8, zv9, zv10, zv11, zv12, zv13, zv14, zv15, zv16, zv17, zv18, zv19, zv20, zv21, zv22, zv23, zv24] at *; omega) | (refine ⟨?_, ?_⟩ <;> omega)) | (refine ⟨?_, ?_⟩ <;> omega) | (simp [*]; done) | grind)); (conv => whnf))
      refine ⟨mask.length - (i + 1), by omega, [], ?_⟩
      conv => whnf
      refine ⟨i + 1, by omega, rfl, ?_⟩
      rw [hl, List.map_append]; rfl
    · have hi' : i = mask.length := by omega
      subst hi'
      rw [List.take_length]
      refine ⟨[], false, false, ?_⟩
      conv => whnf
      refine ⟨_, _, ⟨.mk op kind n ref kids, rfl, rfl, by omega, by omega, rfl, rfl⟩, ?_⟩
      conv => whnf
      have hw1 := treesLoads_len mask
      have hw2 := (Tree.mk op kind n ref kids).loads_len
      refine ⟨by rw [map_len, map_len]; omega, ?_⟩
      conv => whnf
      refine ⟨[], ?_⟩
      conv => whnf
      refine ⟨[1], by simp, .cons ⟨_, rfl, rfl, ?_⟩ .nil, rfl⟩
      rw [ASet.loads, List.map_append]
end Go.Proofs.YtahdihhhankhdaaGreat.V
-- Zb
namespace Go.Proofs.YtahdihhhankhdaaGreat.V
open Go.Proofs.YtahdihhhankhdaaGreatVY Go.RowKit
def zeros (n : Nat) : List Int := List.replicate n 0
theorem refOk_zeros (l : List Int) : refOk l ⟨0, 0, zeros l.length⟩ = decide (0 ≤ many l) := by
  unfold refOk isNum
  simp [zeros]
theorem formed_iff (k : Kern) : formed k = true ↔ 0 ≤ many k.ext ∧ ∀ s ∈ k.sets, ∀ r ∈ s.loads ++ [s.to], refOk k.ext r = true := by
  unfold formed
  simp only [Bool.and_eq_true, decide_eq_true_eq, List.all_eq_true, List.mem_append, List.mem_singleton]
  constructor
  · rintro ⟨h1, h2⟩
    refine ⟨h1, fun s hs r hr => ?_⟩
    rcases hr with hr | rfl
    · exact (h2 s hs).2 r hr
    · exact (h2 s hs).1
  · rintro ⟨h1, h2⟩
    exact ⟨h1, fun s hs => ⟨h2 s hs _ (.inr rfl), fun r hr => h2 s hs r (.inl hr)⟩⟩
theorem formed_no {k : Kern} {i j : Nat} {s : ASet} {r : Ref} (hs : k.sets[i]? = some s) (hr : (s.loads ++ [s.to])[j]? = some r) (h : refOk k.ext r = false) : formed k = false := by
  refine Bool.eq_false_iff.2 fun hk => ?_
  have := ((formed_iff k).1 hk).2 s (List.mem_of_getElem? hs) r (List.mem_of_getElem? hr)
  rw [h] at this; cases this
def R19 : Ct := fun ss hp r out => ∃ k : Kern, ss = [.v (.ag (k.c.map .d))] ∧ hp = [] ∧ k.bulk ≤ 4194304 ∧ r = .db (formed k) ∧ out = []
set_option maxHeartbeats 4000000 in
theorem ok19 : VSound Tryz.prog (19, R19) := by
  refine vsound (T := ty) (F := [(21, R21), (40, R40)]) (pl := [(1, [[], [0], [], [2], [2, 3], [2, 3, 4], [2, 3, 4, 5], [0, 1, 2, 3, 4, 5, 6], [0, 1, 2, 3, 4, 5, 6, 7]], .look 0 (.look 1 (.look 2 (.look 3 (.look 4 (.act 5 [0, 1] (.look 6 (.act 7 [] (.look 8 .done) .stop)) .stop)))))), (6, [[], [0], [], [0, 1, 2], [0, 1, 2, 3], [0, 1, 2, 3, 4], [], [6], [], [6, 7, 8], [6, 7, 8, 9], [6, 7, 8, 9, 10], [6, 7, 8, 9, 10, 11], [0, 1, 2, 3, 4, 5, 6, 7, 8, 9, 10, 11, 12], [0, 1, 2, 3, 4, 5, 6, 7, 8, 9, 10, 11, 12, 13]], .look 0 (.look 1 (.look 2 (.look 3 (.look 4 (.look 6 (.look 7 (.look 8 (.look 9 (.look 10 (.look 11 (.act 5 [6, 7, 8, 9, 10, 11] (.act 12 [0, 1, 2, 3, 4] (.act 13 [] (.look 14 .done) .stop) .stop) (.act 12 [0, 1, 2, 3, 4] (.act 5 [6, 7, 8, 9, 10, 11] (.act 13 [] (.look 14 .done) .stop) .stop) .stop))))))))))))), (10, [[], [0], [], [], [2, 3], [2, 3, 4], [0, 1, 2, 3, 4, 5], [0, 1, 2, 3, 4, 5, 6]], .look 0 (.look 1 (.look 2 (.look 3 (.look 4 (.look 5 (.act 6 [] (.look 7 .done) .stop)))))))]) (nw := true) (cuts := []) mix tyOk (.cons (ok21) (.cons (ok40) .nil)) Tryz.func19 (by kernel_rfl) (by kernel_rfl) ?_
  rintro _ _ _ _ ⟨⟨ext, sets⟩, rfl, rfl, hm, rfl, rfl⟩
  have hmm := hm
  simp only [Kern.bulk] at hm
  have hkl := setsBulk_len sets
  conv => whnf
  rw [ints_len]
  (refine And.intro ?_ ?_; ((first | (with_reducible assumption) | (intro _; with_reducible assumption) | omega | (simp only [reduceCtorEq, ints_len, bools_len, bif_t, bif_f, zv0, zv1, zv2, zv3, zv4, zv5, zv6, zv7, zv8, zv9, zv10, zv11, zv12, zv13, zv14, zv15, zv16, zv17, zv18, zv19, zv20, zv21, zv22, zv23, zv24] at *; omega) | (intro hg; (try simp only [reduceCtorEq, ints_len, bools_len, bif_t, bif_f, zv0, zv1, zv2, zv3, zv4, zv5, zv6, zv7, zv8, zv9, zv10, zv11, zv12, zv13, zv14, zv15, zv16, zv17, zv18, zv19, zv20, zv21, zv22, zv23, zv24] at hg); first | (with_reducible assumption) | omega | (simp only [reduceCtorEq, ints_len, bools_len, bif_t, bif_f, zv0, zv1, zv2, zv3, zv4, zv5, zv6, zv7, zv8, zv9, zv10, zv11, zv12, zv13, zv14, zv15, zv16, zv17, zv18, zv19, zv20, zv21, zv22, zv23, zv24] at *; omega) | (refine ⟨?_, ?_⟩ <;> omega)) | (refine ⟨?_, ?_⟩ <;> omega) | (simp [*]; done) | grind)); (conv => whnf))
  have hz : List.replicate ((ext.length : Nat) : Int).toNat [D.int .i64 0] = (zeros ext.length).map inC := by
    rw [Int.toNat_natCast, zeros, List.map_replicate]
  rw [hz]
  have hzl : (zeros ext.length).length = ext.length := List.length_replicate
  (refine ⟨[], false, false, ?_⟩; (conv => whnf); refine ⟨_, _, ⟨ext, ⟨0, 0, zeros ext.length⟩, rfl, rfl, by omega, by rw [hzl]; omega, rfl, rfl⟩, ?_⟩; (conv => whnf))
  rw [refOk_zeros]
  refine ⟨fun e => ?_, fun e => ?_⟩
  · try simp only [reduceCtorEq, ints_len, bools_len, bif_t, bif_f, zv0, zv1, zv2, zv3, zv4, zv5, zv6, zv7, zv8, zv9, zv10, zv11, zv12, zv13, zv14, zv15, zv16, zv17, zv18, zv19, zv20, zv21, zv22, zv23, zv24] at e
    conv => whnf
    (refine ⟨[], ?_⟩; (conv => whnf); refine ⟨[], .nil, .nil, ?_⟩; (conv => whnf))
    congr 1
    refine (Bool.eq_false_iff.2 fun hk => ?_).symm
    have := (formed_iff _).1 hk
    simp only at this
    omega
  · try simp only [reduceCtorEq, ints_len, bools_len, bif_t, bif_f, zv0, zv1, zv2, zv3, zv4, zv5, zv6, zv7, zv8, zv9, zv10, zv11, zv12, zv13, zv14, zv15, zv16, zv17, zv18, zv19, zv20, zv21, zv22, zv23, zv24] at e
    have e1 := e
    conv => whnf
    refine ⟨[], [1, 3], 1, fun n1 σ => ∃ i : Nat, i ≤ sets.length ∧ n1 = sets.length - i ∧ (∀ i' < i, ∀ s, sets[i']? = some s → ∀ r ∈ s.loads ++ [s.to], refOk ext r = true) ∧ σ = (⟨[.junk, .one (.ptr 0 0), .junk, .di .i64 i, .junk, .junk, .junk, .junk, .junk, .junk, .junk, .junk, .junk, .junk, .junk, .junk, .junk, .junk, .junk, .junk, .junk, .junk, .junk, .junk, .junk, .junk, .junk, .junk, .junk, .junk, .junk, .junk, .junk, .junk, .junk, .junk, .junk, .junk, .junk, .junk, .junk, .junk, .junk, .junk, .junk, .junk, .junk, .junk, .junk, .junk], [.box (List.map .d (Kern.mk ext sets).c)]⟩ : St), ?_, ?_⟩
    · refine ⟨sets.length, ?_⟩
      conv => whnf
      exact ⟨0, by omega, by omega, by omega, rfl⟩
    · rintro n1 _ ⟨i, hi, rfl, hall, rfl⟩
      conv => whnf
      ((with_reducible refine And.intro (fun (e : (_ : Bool) = true) => ?_) (fun (e : (_ : Bool) = false) => ?_)) <;> (try simp only [reduceCtorEq, ints_len, bools_len, bif_t, bif_f, zv0, zv1, zv2, zv3, zv4, zv5, zv6, zv7, zv8, zv9, zv10, zv11, zv12, zv13, zv14, zv15, zv16, zv17, zv18, zv19, zv20, zv21, zv22, zv23, zv24] at e) <;> (conv => whnf))
      · have hlt : i < sets.length := by omega
        obtain ⟨x, hget⟩ := get_lt hlt
        have hb := setsBulk_get hget
        have hll := x.loads_len
        have hstr : ∀ r ∈ x.loads ++ [x.to], r.str.length ≤ x.bulk := fun r hr => by
          rcases List.mem_append.1 hr with h | h
          · exact ASet.loads_str h
          · simp at h; subst h; rw [ASet.bulk]; omega
        (refine ⟨_, And.intro ⟨by omega, enc_get hget⟩ ?_⟩; (conv => whnf))
        have hx0 : ∀ j r, (x.loads ++ [x.to])[j]? = some r → refOk ext r = false → formed ⟨ext, sets⟩ = false := fun j r h h' => formed_no (k := ⟨ext, sets⟩) hget h h'
        obtain ⟨⟨xa, xb, xs⟩, mask, ⟨op, kind, n, ref, kids⟩⟩ := x
        conv => whnf
        (refine ⟨_, And.intro ⟨by omega, enc_get hget⟩ ?_⟩; (conv => whnf))
        have hcat : ∀ LL, (ASet.mk ⟨xa, xb, xs⟩ mask ⟨op, kind, n, ref, kids⟩).loads ++ [⟨xa, xb, xs⟩] = LL → List.map Ref.c (ASet.mk ⟨xa, xb, xs⟩ mask ⟨op, kind, n, ref, kids⟩).loads ++ [[.int .i64 xa, .int .i64 xb, .sl 1 (ints xs)]] = LL.map Ref.c := by rintro _ rfl; rw [List.map_append]; rfl
        have hLb : ∀ LL, (ASet.mk ⟨xa, xb, xs⟩ mask ⟨op, kind, n, ref, kids⟩).loads ++ [⟨xa, xb, xs⟩] = LL → LL.length ≤ 4194305 := by rintro _ rfl; rw [List.length_append]; simp; omega
        refine ⟨?_, ?_⟩
        focus
          conv => whnf
          (refine ⟨[], false, false, ?_⟩; (conv => whnf); refine ⟨_, _, ⟨⟨⟨xa, xb, xs⟩, mask, ⟨op, kind, n, ref, kids⟩⟩, rfl, rfl, by omega, rfl, rfl⟩, ?_⟩; (conv => whnf))
          refine ⟨by rw [map_len]; simp only [List.length_cons, List.length_nil]; omega, ?_⟩
          conv => whnf
          generalize hLL : (ASet.mk ⟨xa, xb, xs⟩ mask ⟨op, kind, n, ref, kids⟩).loads ++ [⟨xa, xb, xs⟩] = LL at *
          have hrow := hcat LL rfl
          have hLb := hLb LL rfl
          refine ⟨[], [1, 3, 4, 5], 2, fun n2 σ => ∃ j : Nat, j ≤ LL.length ∧ n2 = LL.length - j ∧ (∀ j' < j, ∀ r, LL[j']? = some r → refOk ext r = true) ∧ σ = (⟨[.junk, .one (.ptr 0 0), .junk, .di .i64 i, .one (.own 1), .di .i64 j, .junk, .junk, .junk, .junk, .junk, .junk, .junk, .junk, .junk, .junk, .junk, .junk, .junk, .junk, .junk, .junk, .junk, .junk, .junk, .junk, .junk, .junk, .junk, .junk, .junk, .junk, .junk, .junk, .junk, .junk, .junk, .junk, .junk, .junk, .junk, .junk, .junk, .junk, .junk, .junk, .junk, .junk, .junk, .junk], [.box (List.map .d (Kern.mk ext sets).c), .row 3 (LL.map Ref.c)]⟩ : St), ⟨LL.length, ?_⟩, ?_⟩
          · conv => whnf
            refine ⟨0, by omega, by omega, by omega, ?_⟩
            rw [← hrow]; rfl
        rotate_left
        focus
          conv => whnf
          (refine ⟨[], false, false, ?_⟩; (conv => whnf); refine ⟨_, _, ⟨⟨⟨xa, xb, xs⟩, mask, ⟨op, kind, n, ref, kids⟩⟩, rfl, rfl, by omega, rfl, rfl⟩, ?_⟩; (conv => whnf))
          refine ⟨by rw [map_len]; simp only [List.length_cons, List.length_nil]; omega, ?_⟩
          conv => whnf
          generalize hLL : (ASet.mk ⟨xa, xb, xs⟩ mask ⟨op, kind, n, ref, kids⟩).loads ++ [⟨xa, xb, xs⟩] = LL at *
          have hrow := hcat LL rfl
          have hLb := hLb LL rfl
          refine ⟨[], [1, 3, 4, 5], 3, fun n2 σ => ∃ j : Nat, j ≤ LL.length ∧ n2 = LL.length - j ∧ (∀ j' < j, ∀ r, LL[j']? = some r → refOk ext r = true) ∧ σ = (⟨[.junk, .one (.ptr 0 0), .junk, .di .i64 i, .one (.own 2), .di .i64 j, .junk, .junk, .junk, .junk, .junk, .junk, .junk, .junk, .junk, .junk, .junk, .junk, .junk, .junk, .junk, .junk, .junk, .junk, .junk, .junk, .junk, .junk, .junk, .junk, .junk, .junk, .junk, .junk, .junk, .junk, .junk, .junk, .junk, .junk, .junk, .junk, .junk, .junk, .junk, .junk, .junk, .junk, .junk, .junk], [.box (List.map .d (Kern.mk ext sets).c), .row 3 [[.int .i64 xa, .int .i64 xb, .sl 1 (ints xs)]], .row 3 (LL.map Ref.c)]⟩ : St), ⟨LL.length, ?_⟩, ?_⟩
          · conv => whnf
            refine ⟨0, by omega, by omega, by omega, ?_⟩
            rw [← hrow]; rfl
        all_goals
          rintro n2 _ ⟨j, hj, rfl, hjn, rfl⟩
          conv => whnf
          ((with_reducible refine And.intro (fun (e : (_ : Bool) = true) => ?_) (fun (e : (_ : Bool) = false) => ?_)) <;> (try simp only [reduceCtorEq, ints_len, bools_len, bif_t, bif_f, zv0, zv1, zv2, zv3, zv4, zv5, zv6, zv7, zv8, zv9, zv10, zv11, zv12, zv13, zv14, zv15, zv16, zv17, zv18, zv19, zv20, zv21, zv22, zv23, zv24] at e) <;> (conv => whnf))
          · obtain ⟨y, hy⟩ := get_lt (l := LL) (i := j) (by omega)
            have hys := hstr y (List.mem_of_getElem? hy)
            (refine And.intro ⟨by omega, by rw [map_len]; omega⟩ ?_; (conv => whnf); refine ⟨_, And.intro (enc_get hy) ?_⟩; (conv => whnf))
            obtain ⟨ya, yb, ys⟩ := y
            conv => whnf
            (refine ⟨[], false, false, ?_⟩; (conv => whnf); refine ⟨_, _, ⟨ext, ⟨ya, yb, ys⟩, rfl, rfl, by omega, by simp only at hys ⊢; omega, rfl, rfl⟩, ?_⟩; (conv => whnf))
            ((with_reducible refine And.intro (fun (e : (_ : Bool) = true) => ?_) (fun (e : (_ : Bool) = false) => ?_)) <;> (try simp only [reduceCtorEq, ints_len, bools_len, bif_t, bif_f, zv0, zv1, zv2, zv3, zv4, zv5, zv6, zv7, zv8, zv9, zv10, zv11, zv12, zv13, zv14, zv15, zv16, zv17, zv18, zv19, zv20, zv21, zv22, zv23, zv24] at e) <;> (conv => whnf))
            · have e2 := e
              (refine ⟨[], ?_⟩; (conv => whnf); refine ⟨[], .nil, .nil, ?_⟩; (conv => whnf))
              congr 1
              exact (hx0 j _ hy (by simpa using e2)).symm
            · have e2 := e
              (refine And.intro ?_ ?_; ((first | (with_reducible assumption) | (intro _; with_reducible assumption) | omega | (simp only [reduceCtorEq, ints_len, bools_len, bif_t, bif_f, zv0, zv1, zv2, zv3, zv4, zv5, zv6, zv7, zv8, zv9, zv10, zv11, zv12, zv13, zv14, zv15, zv16, zv17, zv18, zv19, zv20, zv21, zv22, zv23, zv24] at *; omega) | (intro hg; (try simp only [reduceCtorEq, ints_len, bools_len, bif_t, bif_f, zv0, zv1, zv2, zv3, zv4, zv5, zv6, zv7, zv8, zv9, zv10, zv11, zv12, zv13, zv14, zv15, zv16, zv17, zv18, zv19, zv20, zv21, zv22, zv23, zv24] at hg); first | (with_reducible assumption) | omega | (simp only [reduceCtorEq, ints_len, bools_len, bif_t, bif_f, zv0, zv1, zv2, zv3, zv4, zv5, zv6, zv7, zv8, zv9, zv10, zv11, zv12, zv13, zv14, zv15, zv16, zv17, zv18, zv19, zv20, zv21, zv22, zv23, zv24] at *; omega) | (refine ⟨?_, ?_⟩ <;> omega)) | (refine ⟨?_, ?_⟩ <;> omega) | (simp [*]; done) | grind)); (conv => whnf))
              refine ⟨LL.length - (j + 1), by omega, [], ?_⟩
              conv => whnf
              refine ⟨j + 1, by omega, rfl, fun j' hj' r hr => ?_, rfl⟩
              by_cases ej : j' = j
              · subst ej; rw [hy] at hr; cases hr; simpa using e2
              · exact hjn j' (by omega) r hr
          · (refine And.intro ?_ ?_; ((first | (with_reducible assumption) | (intro _; with_reducible assumption) | omega | (simp only [reduceCtorEq, ints_len, bools_len, bif_t, bif_f, zv0, zv1, zv2, zv3, zv4, zv5, zv6, zv7, zv8, zv9, zv10, zv11, zv12, zv13, zv14, zv15, zv16, zv17, zv18, zv19, zv20, zv21, zv22, zv23, zv24] at *; omega) | (intro hg; (try simp only [reduceCtorEq, ints_len, bools_len, bif_t, bif_f, zv0, zv1, zv2, zv3, zv4, zv5, zv6, zv7, zv8, zv9, zv10, zv11, zv12, zv13, zv14, zv15, zv16, zv17, zv18, zv19, zv20, zv21, zv22, zv23, zv24] at hg); first | (with_reducible assumption) | omega | (simp only [reduceCtorEq, ints_len, bools_len, bif_t, bif_f, zv0, zv1, zv2, zv3, zv4, zv5, zv6, zv7, zv8, zv9, zv10, zv11, zv12, zv13, zv14, zv15, zv16, zv17, zv18, zv19, zv20, zv21, zv22, zv23, zv24] at *; omega) | (refine ⟨?_, ?_⟩ <;> omega)) | (refine ⟨?_, ?_⟩ <;> omega) | (simp [*]; done) | grind)); (conv => whnf))
            refine ⟨sets.length - (i + 1), by omega, [], ?_⟩
            conv => whnf
            refine ⟨i + 1, by omega, rfl, fun i' hi' s hs r hr => ?_, rfl⟩
            by_cases ei : i' = i
            · subst ei; rw [hget] at hs; cases hs
              rw [hLL] at hr
              obtain ⟨j', hj'⟩ := List.getElem?_of_mem hr
              exact hjn j' (by have := (List.getElem?_eq_some_iff.1 hj').1; omega) r hj'
            · exact hall i' (by omega) s hs r hr
      · (refine ⟨[], ?_⟩; (conv => whnf); refine ⟨[], .nil, .nil, ?_⟩; (conv => whnf))
        congr 1
        refine ((formed_iff _).2 ⟨?_, fun s hs r hr => ?_⟩).symm
        · simp only; omega
        · obtain ⟨i', hi'⟩ := List.getElem?_of_mem hs
          exact hall i' (by have := (List.getElem?_eq_some_iff.1 hi').1; simp only at this; omega) s hi' r hr
end Go.Proofs.YtahdihhhankhdaaGreat.V
-- Zc
namespace Go.Proofs.YtahdihhhankhdaaGreat.V
open Go.Proofs.YtahdihhhankhdaaGreatVY Go.RowKit
def R11 : Ct := fun ss hp r out => ∃ (k : Kern) (set : Int), ss = [.v (.ag (k.c.map .d)), .di .i64 set] ∧ hp = [] ∧ k.bulk ≤ 4194304 ∧ r = .tup [.c (.own 0), .c (.d (.int .i64 (loadsErr k set)))] ∧ out = [.row 3 ((loadsOf k set).map Ref.c)]
set_option maxHeartbeats 4000000 in
theorem ok11 : VSound Tryz.prog (11, R11) := by
  refine vsound (T := ty) (F := [(19, R19), (21, R21)]) (pl := [(8, [[], [], [], [1, 2], [1, 2, 3], [1, 2, 3, 4], [], [], [6, 7], [6, 7, 8], [6, 7, 8, 9], [], [], [], [12, 13], [12, 13, 14], [12, 13, 14, 15], [11, 12, 13, 14, 15, 16], [1, 2, 3, 4, 5, 6, 7, 8, 9, 10, 11, 12, 13, 14, 15, 16, 17], [1, 2, 3, 4, 5, 6, 7, 8, 9, 10, 11, 12, 13, 14, 15, 16, 17, 18], [0, 1, 2, 3, 4, 5, 6, 7, 8, 9, 10, 11, 12, 13, 14, 15, 16, 17, 18, 19], [0, 1, 2, 3, 4, 5, 6, 7, 8, 9, 10, 11, 12, 13, 14, 15, 16, 17, 18, 19, 20]], .look 0 (.look 1 (.look 2 (.look 3 (.look 4 (.look 5 (.look 6 (.look 7 (.look 8 (.look 9 (.look 10 (.look 12 (.look 13 (.look 14 (.look 15 (.look 16 (.act 11 [0, 1, 2, 3, 4, 5, 6, 7, 8, 9, 10, 12, 13, 14, 15, 16] (.act 17 [0, 1, 2, 3, 4, 5, 6, 7, 8, 9, 10] (.look 18 (.act 19 [0] (.act 20 [] (.look 21 .done) .stop) .stop)) .stop) .stop)))))))))))))))))]) (nw := true) (cuts := []) mix tyOk (.cons (ok19) (.cons (ok21) .nil)) Tryz.func11 (by kernel_rfl) (by kernel_rfl) ?_
  rintro _ _ _ _ ⟨⟨ext, sets⟩, set, rfl, rfl, hm, rfl, rfl⟩
  conv => whnf
  refine ⟨[], false, false, ?_⟩
  conv => whnf
  refine ⟨_, _, ⟨⟨ext, sets⟩, rfl, rfl, hm, rfl, rfl⟩, ?_⟩
  conv => whnf
  (repeat' (first | ((with_reducible refine And.intro (fun (e : (_ : Bool) = true) => ?_) (fun (e : (_ : Bool) = false) => ?_)) <;> (try simp only [reduceCtorEq, ints_len, bools_len, bif_t, bif_f, zv0, zv1, zv2, zv3, zv4, zv5, zv6, zv7, zv8, zv9, zv10, zv11, zv12, zv13, zv14, zv15, zv16, zv17, zv18, zv19, zv20, zv21, zv22, zv23, zv24] at e) <;> (conv => whnf)) | (refine And.intro ?_ ?_; ((first | (with_reducible assumption) | (intro _; with_reducible assumption) | omega | (simp only [reduceCtorEq, ints_len, bools_len, bif_t, bif_f, zv0, zv1, zv2, zv3, zv4, zv5, zv6, zv7, zv8, zv9, zv10, zv11, zv12, zv13, zv14, zv15, zv16, zv17, zv18, zv19, zv20, zv21, zv22, zv23, zv24] at *; omega) | (intro hg; (try simp only [reduceCtorEq, ints_len, bools_len, bif_t, bif_f, zv0, zv1, zv2, zv3, zv4, zv5, zv6, zv7, zv8, zv9, zv10, zv11, zv12, zv13, zv14, zv15, zv16, zv17, zv18, zv19, zv20, zv21, zv22, zv23, zv24] at hg); first | (with_reducible assumption) | omega | (simp only [reduceCtorEq, ints_len, bools_len, bif_t, bif_f, zv0, zv1, zv2, zv3, zv4, zv5, zv6, zv7, zv8, zv9, zv10, zv11, zv12, zv13, zv14, zv15, zv16, zv17, zv18, zv19, zv20, zv21, zv22, zv23, zv24] at *; omega) | (refine ⟨?_, ?_⟩ <;> omega)) | (refine ⟨?_, ?_⟩ <;> omega) | (simp [*]; done) | grind)); (conv => whnf))))
  · refine ⟨[.slot 4 true], ?_⟩
    conv => whnf
    have hn : ¬ (formed ⟨ext, sets⟩ = true ∧ 0 ≤ set ∧ set < sets.length) := by
      rintro ⟨h1, h2, h3⟩
      rcases e with (e | e) | e
      · rw [h1] at e; cases e
      · omega
      · omega
    refine ⟨[1], by simp, .cons ⟨_, rfl, rfl, ?_⟩ .nil, ?_⟩
    · unfold loadsOf; rw [if_neg hn]; rfl
    · unfold loadsErr; rw [if_neg hn]; exact .cons rfl (.cons rfl .nil)
  · obtain ⟨⟨e1, e2⟩, e3⟩ := e
    have hy : formed ⟨ext, sets⟩ = true ∧ 0 ≤ set ∧ set < sets.length := ⟨e1, e2, e3⟩
    obtain ⟨i, rfl⟩ := Int.eq_ofNat_of_zero_le e2
    have hlt : i < sets.length := by omega
    obtain ⟨x, hget⟩ := get_lt hlt
    have hb := setsBulk_get hget
    simp only [Kern.bulk] at hm
    have hll := x.loads_len
    have hstr : ∀ r ∈ x.loads, r.str.length ≤ x.bulk := fun r hr => ASet.loads_str hr
    have hL : loadsOf ⟨ext, sets⟩ i = x.loads := by
      unfold loadsOf; rw [if_pos hy, Int.toNat_natCast]; simp only; rw [hget]; rfl
    have hE : loadsErr ⟨ext, sets⟩ i = 0 := by unfold loadsErr; rw [if_pos hy]
    rw [hL, hE]
    refine ⟨_, And.intro ⟨?_, enc_get hget⟩ ?_⟩
    · omega
    obtain ⟨⟨xa, xb, xs⟩, mask, ⟨op, kind, n, ref, kids⟩⟩ := x
    conv => whnf
    refine ⟨[], false, false, ?_⟩
    conv => whnf
    refine ⟨_, _, ⟨⟨⟨xa, xb, xs⟩, mask, ⟨op, kind, n, ref, kids⟩⟩, rfl, rfl, by omega, rfl, rfl⟩, ?_⟩
    conv => whnf
    generalize (ASet.mk ⟨xa, xb, xs⟩ mask ⟨op, kind, n, ref, kids⟩).loads = L at *
    refine ⟨[.slot 7 true], [6, 7, 8], 3, fun n1 σ => ∃ i : Nat, i ≤ L.length ∧ n1 = L.length - i ∧ σ = (⟨[.junk, .junk, .junk, .junk, .junk, .junk, .one (.own 1), .one (.own 2), .di .i64 i, .junk, .junk, .junk, .junk, .junk, .junk, .junk, .junk, .junk, .junk, .junk, .junk, .junk, .junk, .junk, .junk, .junk, .junk, .junk, .junk, .junk, .junk, .junk, .junk, .junk, .junk, .junk, .junk, .junk, .junk, .junk, .junk, .junk, .junk, .junk, .junk, .junk, .junk, .junk, .junk, .junk, .junk, .junk, .junk, .junk, .junk, .junk, .junk], [.box (List.map .d (Kern.mk ext sets).c), .row 3 (L.map Ref.c), .row 3 ((L.take i).map Ref.c)]⟩ : St), ?_, ?_⟩
    · refine ⟨L.length, ?_⟩
      conv => whnf
      exact ⟨0, by omega, by omega, rfl⟩
    · rintro n1 _ ⟨j, hj, rfl, rfl⟩
      conv => whnf
      ((with_reducible refine And.intro (fun (e : (_ : Bool) = true) => ?_) (fun (e : (_ : Bool) = false) => ?_)) <;> (try simp only [reduceCtorEq, ints_len, bools_len, bif_t, bif_f, zv0, zv1, zv2, zv3, zv4, zv5, zv6, zv7, zv8, zv9, zv10, zv11, zv12, zv13, zv14, zv15, zv16, zv17, zv18, zv19, zv20, zv21, zv22, zv23, zv24] at e) <;> (conv => whnf))
      · have hlt : j < L.length := by omega
        obtain ⟨y, hgy⟩ := get_lt hlt
        have hys := hstr y (List.mem_of_getElem? hgy)
        obtain ⟨ya, yb, ys⟩ := y
        (refine And.intro ⟨by omega, by rw [map_len]; omega⟩ ?_; (conv => whnf); refine ⟨_, And.intro (enc_get hgy) ?_⟩; (conv => whnf))
        (refine And.intro ⟨by omega, by rw [map_len]; omega⟩ ?_; (conv => whnf); refine ⟨_, And.intro (enc_get hgy) ?_⟩; (conv => whnf))
        (refine And.intro ⟨by omega, by rw [map_len]; omega⟩ ?_; (conv => whnf); refine ⟨_, And.intro (enc_get hgy) ?_⟩; (conv => whnf))
        simp only at hys
        refine ⟨by rw [ints_len]; simp only [List.length_nil]; omega, ?_⟩
        conv => whnf
        refine ⟨by rw [map_len, List.length_take]; simp only [List.length_cons, List.length_nil]; omega, ?_⟩
        conv => whnf
        (refine And.intro ?_ ?_; ((first | (with_reducible assumption) | (intro _; with_reducible assumption) | omega | (simp only [reduceCtorEq, ints_len, bools_len, bif_t, bif_f, zv0, zv1, zv2, zv3, zv4, zv5, zv6, zv7, zv8, zv9, zv10, zv11, zv12, zv13, zv14, zv15, zv16, zv17, zv18, zv19, zv20, zv21, zv22, zv23, zv24] at *; omega) | (intro hg; (try simp only [reduceCtorEq, ints_len, bools_len, bif_t, bif_f, zv0, zv1, zv2, zv3, zv4, zv5, zv6, zv7, zv8, zv9, zv10, zv11, zv12, zv13, zv14, zv15, zv16, zv17, zv18, zv19, zv20, zv21, zv22, zv23, zv24] at hg); first | (with_reducible assumption) | omega | (simp only [reduceCtorEq, ints_len, bools_len, bif_t, bif_f, zv0, zv1, zv2, zv3, zv4, zv5, zv6, zv7, zv8, zv9, zv10, zv11, zv12, zv13, zv14, zv15, zv16, zv17, zv18, zv19, zv20, zv21, zv22, zv23, zv24] at *; omega) | (refine ⟨?_, ?_⟩ <;> omega)) | (refine ⟨?_, ?_⟩ <;> omega) | (simp [*]; done) | grind)); (conv => whnf))
        refine ⟨L.length - (j + 1), by omega, [], ?_⟩
        conv => whnf
        refine ⟨j + 1, by omega, rfl, ?_⟩
        rw [List.take_add_one, hgy, List.map_append]; rfl
      · have hj' : j = L.length := by omega
        subst hj'
        rw [List.take_length]
        refine ⟨[], ?_⟩
        conv => whnf
        exact ⟨[2], by simp, .cons ⟨_, rfl, rfl, rfl⟩ .nil, .cons rfl (.cons rfl .nil)⟩
end Go.Proofs.YtahdihhhankhdaaGreat.V
-- Vk
namespace Go.Proofs.YtahdihhhankhdaaGreat.V
open Go.Proofs.YtahdihhhankhdaaGreatVY Go.RowKit
/-- where a number stands among the first ones -/
def idxs (l : List Int) (x : Int) : Nat → List Int
  | 0 => []
  | i + 1 => idxs l x i ++ if l.getD i 0 = x then [(i : Int)] else []
def pairsTo (A B : List Int) : Nat → List (Int × Int)
  | 0 => []
  | i + 1 => pairsTo A B i ++ (idxs B (A.getD i 0) B.length).map fun j => ((i : Int), j)
def pairs (l : List Int) (a b : Ref) : List (Int × Int) := if refOk l a = true ∧ refOk l b = true ∧ a.arr = b.arr then pairsTo (places l a) (places l b) (places l a).length else []
def pairsErr (l : List Int) (a b : Ref) : Int := if refOk l a = true ∧ refOk l b = true then 0 else 2
theorem idxs_len (l : List Int) (x : Int) : ∀ i, (idxs l x i).length ≤ i
  | 0 => by simp [idxs]
  | i + 1 => by have := idxs_len l x i; rw [idxs, List.length_append]; split <;> simp <;> omega
theorem idxs_mem (l : List Int) (x : Int) : ∀ i, ∀ v ∈ idxs l x i, 0 ≤ v ∧ v < i
  | 0, v, h => by simp [idxs] at h
  | i + 1, v, h => by
    rw [idxs, List.mem_append] at h
    rcases h with h | h
    · have := idxs_mem l x i v h; omega
    · split at h
      · simp at h; omega
      · simp at h
theorem prod_pos : ∀ {l : List Int}, (∀ n ∈ l, 0 ≤ n) → prod l ≠ 0 → ∀ n ∈ l, 1 ≤ n
  | [], _, _, n, h => by simp at h
  | x :: l, h0, hp, n, h => by
    have hx := h0 x (List.mem_cons_self ..)
    have h1 : x ≠ 0 := by rintro rfl; exact hp (by rw [prod, Int.zero_mul])
    have h2 : prod l ≠ 0 := by intro hh; exact hp (by rw [prod, hh, Int.mul_zero])
    rcases List.mem_cons.1 h with rfl | h
    · omega
    · exact prod_pos (fun m hm => h0 m (List.mem_cons_of_mem _ hm)) h2 n h
theorem placesTo_len {l xs : List Int} {b : Int} (h1 : ∀ n ∈ l, 1 ≤ n) : ∀ i ≤ l.length, ((placesTo l xs b i).length : Int) = prod (l.take i)
  | 0, _ => by simp [placesTo, prod]
  | i + 1, hi => by
    obtain ⟨n, hn⟩ := get_lt (l := l) (i := i) (by omega)
    have ih := placesTo_len (xs := xs) (b := b) h1 i (by omega)
    have hn1 := h1 n (List.mem_of_getElem? hn)
    rw [prod_take hn, placesTo, List.length_append, seg_len, getD_of hn, ← ih]
    obtain ⟨m, rfl⟩ : ∃ m : Nat, n = m + 1 := ⟨(n - 1).toNat, by omega⟩
    rw [show ((m : Int) + 1 - 1).toNat = m by omega]
    push_cast
    rw [Int.mul_add, Int.mul_one, Int.mul_comm (m : Int)]
    omega
theorem places_len {l : List Int} {x : Ref} (h : refOk l x = true) : (places l x).length ≤ 400 := by
  unfold places
  by_cases h0 : many l = 0
  · rw [if_pos h0]; simp
  · rw [if_neg h0]
    have hm : 0 ≤ many l := by
      unfold refOk at h
      simp only [Bool.and_eq_true, decide_eq_true_eq] at h
      exact h.1
    unfold many at hm h0
    split at hm
    · omega
    · rename_i h1
      rw [if_neg h1] at h0
      split at hm
      · omega
      · rename_i h2
        rw [if_neg h2] at h0
        have R := refOk_rt h
        have := placesTo_len (xs := x.str) (b := x.base) (prod_pos (fun n hn => (R.ext n hn).1) h0) l.length (Nat.le_refl _)
        rw [List.take_length] at this
        omega
theorem pairsTo_len (A B : List Int) : ∀ i, (pairsTo A B i).length ≤ i * B.length
  | 0 => by simp [pairsTo]
  | i + 1 => by
    have h1 := pairsTo_len A B i
    have h2 := idxs_len B (A.getD i 0) B.length
    rw [pairsTo, List.length_append, List.length_map, Nat.succ_mul]; omega
abbrev Mr := List (Int × Option (List (List D)))
/-- a map of rows tells where each number stands among the first ones -/
structure Told (B : List Int) (i : Nat) (M : Mr) : Prop where
  own : ∀ p ∈ M, p.2 = some ((idxs B p.1 i).map inC)
  all : ∀ x, idxs B x i ≠ [] → ∃ p ∈ M, p.1 = x
  nd : (M.map Prod.fst).Nodup
theorem putM_mem {k : Int} {v : Option (List (List D))} {p : Int × Option (List (List D))} : ∀ {M : Mr}, (M.map Prod.fst).Nodup → p ∈ putM M k v → p = (k, v) ∨ (p ∈ M ∧ p.1 ≠ k)
  | [], _, h => by simp [putM] at h; exact .inl h
  | (k', x') :: M, hn, h => by
    rw [List.map_cons, List.nodup_cons] at hn
    unfold putM at h
    split at h
    · rename_i e
      subst e
      rcases List.mem_cons.1 h with h | h
      · exact .inl h
      · exact .inr ⟨List.mem_cons_of_mem _ h, fun e => hn.1 (by have := List.mem_map_of_mem (f := Prod.fst) h; rw [e] at this; exact this)⟩
    · rename_i e
      rcases List.mem_cons.1 h with rfl | h
      · exact .inr ⟨List.mem_cons_self .., e⟩
      · rcases putM_mem hn.2 h with h | ⟨h1, h2⟩
        · exact .inl h
        · exact .inr ⟨List.mem_cons_of_mem _ h1, h2⟩
theorem putM_has {k : Int} {v : Option (List (List D))} : ∀ {M : Mr}, (k, v) ∈ putM M k v
  | [] => by simp [putM]
  | (k', x') :: M => by unfold putM; split <;> simp [putM_has]
theorem putM_keep {k : Int} {v : Option (List (List D))} {p : Int × Option (List (List D))} : ∀ {M : Mr}, p ∈ M → p.1 ≠ k → p ∈ putM M k v
  | [], h, _ => by simp at h
  | (k', x') :: M, h, hk => by
    unfold putM
    rcases List.mem_cons.1 h with rfl | h
    · rw [if_neg hk]; exact List.mem_cons_self ..
    · split
      · exact List.mem_cons_of_mem _ h
      · exact List.mem_cons_of_mem _ (putM_keep h hk)
theorem putM_keys {k : Int} {v : Option (List (List D))} : ∀ {M : Mr}, (M.map Prod.fst).Nodup → ((putM M k v).map Prod.fst).Nodup
  | [], _ => by simp [putM]
  | (k', x') :: M, hn => by
    rw [List.map_cons, List.nodup_cons] at hn
    unfold putM
    split
    · rename_i e; subst e; exact List.nodup_cons.2 hn
    · rename_i e
      refine List.nodup_cons.2 ⟨fun hm => ?_, putM_keys hn.2⟩
      obtain ⟨p, hp, he⟩ := List.mem_map.1 hm
      rcases putM_mem hn.2 hp with rfl | ⟨h1, _⟩
      · exact e he.symm
      · exact hn.1 (by rw [← he]; exact List.mem_map_of_mem (f := Prod.fst) h1)
theorem idxs_at {B : List Int} {i : Nat} {x : Int} (h : B[i]? = some x) : idxs B x (i + 1) = idxs B x i ++ [(i : Int)] := by
  rw [idxs, getD_of h, if_pos rfl]
theorem idxs_ne {B : List Int} {i : Nat} {x y : Int} (h : B[i]? = some x) (hy : y ≠ x) : idxs B y (i + 1) = idxs B y i := by
  rw [idxs, getD_of h, if_neg (Ne.symm hy), List.append_nil]
theorem told_put {B : List Int} {i : Nat} {x : Int} {M N : Mr} (hx : B[i]? = some x) (H : Told B i M) (hN : (N.map Prod.fst).Nodup) (h1 : ∀ p ∈ N, p.1 ≠ x → p ∈ M) (h2 : ∀ p ∈ M, p.1 ≠ x → p ∈ N) : Told B (i + 1) (putM N x (some ((idxs B x i).map inC ++ [inC (i : Int)]))) where
  own := fun p hp => by
    rcases putM_mem hN hp with rfl | ⟨h, hk⟩
    · show some _ = some _
      rw [idxs_at hx, List.map_append]; rfl
    · rw [idxs_ne hx hk]; exact H.own p (h1 p h hk)
  all := fun y hy => by
    by_cases e : y = x
    · subst e; exact ⟨_, putM_has, rfl⟩
    · rw [idxs_ne hx e] at hy
      obtain ⟨p, hp, rfl⟩ := H.all y hy
      exact ⟨p, putM_keep (h2 p hp e) e, rfl⟩
  nd := putM_keys hN
theorem set_keys {M : Mr} {q : Nat} {x : Int} {r r' : Option (List (List D))} (h : M[q]? = some (x, r)) : (M.set q (x, r')).map Prod.fst = M.map Prod.fst := by
  rw [List.map_set]
  apply List.ext_getElem?
  intro j
  by_cases e : j = q
  · subst e
    have hl := (List.getElem?_eq_some_iff.1 h).1
    rw [List.getElem?_set_self (by simpa using hl), List.getElem?_map, h]; rfl
  · rw [List.getElem?_set_ne (Ne.symm e)]
theorem set_out {M : Mr} {q : Nat} {x : Int} {r : Option (List (List D))} {p : Int × Option (List (List D))} (hp : p ∈ M.set q (x, r)) (hk : p.1 ≠ x) : p ∈ M := by
  rcases List.mem_or_eq_of_mem_set hp with h | h
  · exact h
  · subst h; exact absurd rfl hk
theorem set_in {M : Mr} {q : Nat} {x : Int} {r r' : Option (List (List D))} (h : M[q]? = some (x, r)) {p : Int × Option (List (List D))} (hp : p ∈ M) (hk : p.1 ≠ x) : p ∈ M.set q (x, r') := by
  obtain ⟨j, hj⟩ := List.getElem?_of_mem hp
  have e : j ≠ q := by rintro rfl; rw [h] at hj; cases hj; exact hk rfl
  exact List.mem_of_getElem? (i := j) (by rw [List.getElem?_set_ne (Ne.symm e)]; exact hj)
def R58 : Ct := fun ss hp r out => ∃ (l : List Int) (a b : Ref), ss = [.one (.d (.sl 1 (l.map inC))), .v (.ag (a.c.map .d)), .v (.ag (b.c.map .d))] ∧ hp = [] ∧ l.length < 4611686018427387904 ∧ a.str.length < 4611686018427387904 ∧ b.str.length < 4611686018427387904 ∧ r = .tup [.c (.own 0), .c (.d (.int .i64 (pairsErr l a b)))] ∧ out = [.row 2 ((pairs l a b).map prC)]
set_option maxHeartbeats 4000000 in
theorem ok58 : VSound Tryz.prog (58, R58) := by
  refine vsound (T := ty) (F := [(36, R36), (74, R74)]) (pl := []) (nw := true) (cuts := []) mix tyOk (.cons (ok36) (.cons (ok74) .nil)) Tryz.func58 (by kernel_rfl) (by kernel_rfl) ?_
  rintro _ _ _ _ ⟨l, ⟨aa, ab, sa⟩, ⟨ba, bb, sb⟩, rfl, rfl, hl, ha, hb, rfl, rfl⟩
  conv => whnf
  refine ⟨[], false, false, ?_⟩
  conv => whnf
  refine ⟨_, _, ⟨l, ⟨aa, ab, sa⟩, rfl, rfl, hl, ha, rfl, rfl⟩, ?_⟩
  conv => whnf
  refine ⟨fun e1 => ?_, fun e1 => ?_⟩
  · conv => whnf
    (repeat' (first | ((with_reducible refine And.intro (fun (e : (_ : Bool) = true) => ?_) (fun (e : (_ : Bool) = false) => ?_)) <;> (try simp only [reduceCtorEq, ints_len, bools_len, bif_t, bif_f, zv0, zv1, zv2, zv3, zv4, zv5, zv6, zv7, zv8, zv9, zv10, zv11, zv12, zv13, zv14, zv15, zv16, zv17, zv18, zv19, zv20, zv21, zv22, zv23, zv24] at e) <;> (conv => whnf)) | (refine And.intro ?_ ?_; ((first | (with_reducible assumption) | (intro _; with_reducible assumption) | omega | (simp only [reduceCtorEq, ints_len, bools_len, bif_t, bif_f, zv0, zv1, zv2, zv3, zv4, zv5, zv6, zv7, zv8, zv9, zv10, zv11, zv12, zv13, zv14, zv15, zv16, zv17, zv18, zv19, zv20, zv21, zv22, zv23, zv24] at *; omega) | (intro hg; (try simp only [reduceCtorEq, ints_len, bools_len, bif_t, bif_f, zv0, zv1, zv2, zv3, zv4, zv5, zv6, zv7, zv8, zv9, zv10, zv11, zv12, zv13, zv14, zv15, zv16, zv17, zv18, zv19, zv20, zv21, zv22, zv23, zv24] at hg); first | (with_reducible assumption) | omega | (simp only [reduceCtorEq, ints_len, bools_len, bif_t, bif_f, zv0, zv1, zv2, zv3, zv4, zv5, zv6, zv7, zv8, zv9, zv10, zv11, zv12, zv13, zv14, zv15, zv16, zv17, zv18, zv19, zv20, zv21, zv22, zv23, zv24] at *; omega) | (refine ⟨?_, ?_⟩ <;> omega)) | (refine ⟨?_, ?_⟩ <;> omega) | (simp [*]; done) | grind)); (conv => whnf))))
    refine ⟨[], false, false, ?_⟩
    conv => whnf
    refine ⟨_, _, ⟨l, ⟨ba, bb, sb⟩, rfl, rfl, hl, hb, rfl, rfl⟩, ?_⟩
    conv => whnf
    simp at e1
    (repeat' (first | ((with_reducible refine And.intro (fun (e : (_ : Bool) = true) => ?_) (fun (e : (_ : Bool) = false) => ?_)) <;> (try simp only [reduceCtorEq, ints_len, bools_len, bif_t, bif_f, zv0, zv1, zv2, zv3, zv4, zv5, zv6, zv7, zv8, zv9, zv10, zv11, zv12, zv13, zv14, zv15, zv16, zv17, zv18, zv19, zv20, zv21, zv22, zv23, zv24] at e) <;> (conv => whnf)) | (refine And.intro ?_ ?_; ((first | (with_reducible assumption) | (intro _; with_reducible assumption) | omega | (simp only [reduceCtorEq, ints_len, bools_len, bif_t, bif_f, zv0, zv1, zv2, zv3, zv4, zv5, zv6, zv7, zv8, zv9, zv10, zv11, zv12, zv13, zv14, zv15, zv16, zv17, zv18, zv19, zv20, zv21, zv22, zv23, zv24] at *; omega) | (intro hg; (try simp only [reduceCtorEq, ints_len, bools_len, bif_t, bif_f, zv0, zv1, zv2, zv3, zv4, zv5, zv6, zv7, zv8, zv9, zv10, zv11, zv12, zv13, zv14, zv15, zv16, zv17, zv18, zv19, zv20, zv21, zv22, zv23, zv24] at hg); first | (with_reducible assumption) | omega | (simp only [reduceCtorEq, ints_len, bools_len, bif_t, bif_f, zv0, zv1, zv2, zv3, zv4, zv5, zv6, zv7, zv8, zv9, zv10, zv11, zv12, zv13, zv14, zv15, zv16, zv17, zv18, zv19, zv20, zv21, zv22, zv23, zv24] at *; omega) | (refine ⟨?_, ?_⟩ <;> omega)) | (refine ⟨?_, ?_⟩ <;> omega) | (simp [*]; done) | grind)); (conv => whnf))))
    · have e2 := e
      refine ⟨[.slot 6 true], ?_⟩
      conv => whnf
      refine ⟨[2], by simp, .cons ⟨_, rfl, rfl, ?_⟩ .nil, .cons rfl (.cons ?_ .nil)⟩
      · unfold pairs; rw [if_neg (by rintro ⟨h1, h2, h3⟩; rcases e2 with h | h; (rw [h1] at h; cases h); (rw [h2] at h; cases h))]; rfl
      · unfold pairsErr; rw [if_neg (by rintro ⟨h1, h2⟩; rcases e2 with h | h; (rw [h1] at h; cases h); (rw [h2] at h; cases h))]; rfl
    · have e2 := e
      rename_i e0
      obtain ⟨o1, o2⟩ := e0
      refine ⟨[.slot 6 true], ?_⟩
      conv => whnf
      refine ⟨[2], by simp, .cons ⟨_, rfl, rfl, ?_⟩ .nil, .cons rfl (.cons ?_ .nil)⟩
      · unfold pairs; rw [if_neg (by rintro ⟨h1, h2, h3⟩; exact e2 h3)]; rfl
      · unfold pairsErr; rw [if_pos ⟨o1, o2⟩]; rfl
    · have e2 := e
      rename_i e0
      obtain ⟨o1, o2⟩ := e0
      have hPp : pairs l ⟨aa, ab, sa⟩ ⟨ba, bb, sb⟩ = pairsTo (places l ⟨aa, ab, sa⟩) (places l ⟨ba, bb, sb⟩) (places l ⟨aa, ab, sa⟩).length := by unfold pairs; rw [if_pos ⟨o1, o2, e2⟩]
      have hPe : pairsErr l ⟨aa, ab, sa⟩ ⟨ba, bb, sb⟩ = 0 := by unfold pairsErr; rw [if_pos ⟨o1, o2⟩]
      have hA := places_len o1
      have hB := places_len o2
      rw [hPp, hPe]
      refine ⟨[], false, false, ?_⟩
      conv => whnf
      refine ⟨_, _, ⟨l, ⟨ba, bb, sb⟩, rfl, rfl, o2, rfl, rfl⟩, ?_⟩
      conv => whnf
      generalize places l ⟨ba, bb, sb⟩ = B at *
      refine ⟨[.rows 8 1], [0, 4, 8, 34, 35, 36], 4, fun n1 σ => ∃ (i : Nat) (M : Mr), i ≤ B.length ∧ n1 = B.length - i ∧ Told B i M ∧ σ = (⟨[.one (.d (.sl 1 (l.map inC))), .junk, .junk, .junk, .one (.ptr 0 0), .junk, .junk, .junk, .one (.town 2), .junk, .junk, .junk, .junk, .junk, .junk, .junk, .junk, .junk, .junk, .junk, .junk, .junk, .junk, .junk, .junk, .junk, .junk, .junk, .junk, .junk, .junk, .junk, .junk, .junk, .one (.own 3), .di .i64 B.length, .di .i64 i, .junk, .junk, .junk, .junk, .junk, .junk, .junk, .junk, .junk, .junk, .junk, .junk, .junk, .junk, .junk, .junk, .junk, .junk, .junk, .junk, .junk, .junk, .junk, .junk, .junk, .junk, .junk, .junk, .junk, .junk, .junk, .junk, .junk, .junk, .junk, .junk, .junk, .junk, .junk], [.box (List.map .d (Ref.mk aa ab sa).c), .box (List.map .d (Ref.mk ba bb sb).c), .mapr 1 M, .row 1 (B.map inC)]⟩ : St), ?_, ?_⟩
      · refine ⟨B.length, ?_⟩
        conv => whnf
        refine ⟨0, [], by omega, by omega, ⟨by simp, by simp [idxs], by simp⟩, ?_⟩
        rw [map_len]; rfl
      · rintro n1 _ ⟨i, M, hi, rfl, HM, rfl⟩
        conv => whnf
        ((with_reducible refine And.intro (fun (e : (_ : Bool) = true) => ?_) (fun (e : (_ : Bool) = false) => ?_)) <;> (try simp only [reduceCtorEq, ints_len, bools_len, bif_t, bif_f, zv0, zv1, zv2, zv3, zv4, zv5, zv6, zv7, zv8, zv9, zv10, zv11, zv12, zv13, zv14, zv15, zv16, zv17, zv18, zv19, zv20, zv21, zv22, zv23, zv24] at e) <;> (conv => whnf))
        · obtain ⟨x, hx⟩ := get_lt (l := B) (i := i) (by omega)
          refine And.intro ⟨by omega, by rw [map_len]; omega⟩ ?_
          conv => whnf
          refine ⟨_, And.intro (enc_get hx) ?_⟩
          conv => whnf
          refine ⟨fun q r hq => ?_, fun hno => ?_⟩
          · have hr := HM.own _ (List.mem_of_getElem? hq)
            simp only at hr
            subst hr
            have hil := idxs_len B x i
            refine ⟨by simp, ?_⟩
            conv => whnf
            refine ⟨_, _, And.intro hq ?_⟩
            conv => whnf
            refine ⟨by rw [map_len]; simp only [List.length_cons, List.length_nil]; omega, ?_⟩
            conv => whnf
            (refine And.intro ?_ ?_; ((first | (with_reducible assumption) | (intro _; with_reducible assumption) | omega | (simp only [reduceCtorEq, ints_len, bools_len, bif_t, bif_f, zv0, zv1, zv2, zv3, zv4, zv5, zv6, zv7, zv8, zv9, zv10, zv11, zv12, zv13, zv14, zv15, zv16, zv17, zv18, zv19, zv20, zv21, zv22, zv23, zv24] at *; omega) | (intro hg; (try simp only [reduceCtorEq, ints_len, bools_len, bif_t, bif_f, zv0, zv1, zv2, zv3, zv4, zv5, zv6, zv7, zv8, zv9, zv10, zv11, zv12, zv13, zv14, zv15, zv16, zv17, zv18, zv19, zv20, zv21, zv22, zv23, zv24] at hg); first | (with_reducible assumption) | omega | (simp only [reduceCtorEq, ints_len, bools_len, bif_t, bif_f, zv0, zv1, zv2, zv3, zv4, zv5, zv6, zv7, zv8, zv9, zv10, zv11, zv12, zv13, zv14, zv15, zv16, zv17, zv18, zv19, zv20, zv21, zv22, zv23, zv24] at *; omega) | (refine ⟨?_, ?_⟩ <;> omega)) | (refine ⟨?_, ?_⟩ <;> omega) | (simp [*]; done) | grind)); (conv => whnf))
            refine ⟨B.length - (i + 1), by omega, [], ?_⟩
            conv => whnf
            exact ⟨i + 1, putM (M.set q (x, none)) x (some ((idxs B x i).map inC ++ [inC (i : Int)])), by omega, rfl, told_put hx HM (by rw [set_keys hq]; exact HM.nd) (fun p hp hk => set_out hp hk) (fun p hp hk => set_in hq hp hk), rfl⟩
          · have h0 : idxs B x i = [] := by
              rcases Classical.em (idxs B x i = []) with h | h
              · exact h
              · obtain ⟨p, hp, e⟩ := HM.all x h
                exact absurd e (hno p hp)
            have ht := told_put hx HM (N := M) HM.nd (fun p hp _ => hp) (fun p hp _ => hp)
            rw [h0] at ht
            conv => whnf
            refine ⟨by simp, ?_⟩
            conv => whnf
            (refine And.intro ?_ ?_; ((first | (with_reducible assumption) | (intro _; with_reducible assumption) | omega | (simp only [reduceCtorEq, ints_len, bools_len, bif_t, bif_f, zv0, zv1, zv2, zv3, zv4, zv5, zv6, zv7, zv8, zv9, zv10, zv11, zv12, zv13, zv14, zv15, zv16, zv17, zv18, zv19, zv20, zv21, zv22, zv23, zv24] at *; omega) | (intro hg; (try simp only [reduceCtorEq, ints_len, bools_len, bif_t, bif_f, zv0, zv1, zv2, zv3, zv4, zv5, zv6, zv7, zv8, zv9, zv10, zv11, zv12, zv13, zv14, zv15, zv16, zv17, zv18, zv19, zv20, zv21, zv22, zv23, zv24] at hg); first | (with_reducible assumption) | omega | (simp only [reduceCtorEq, ints_len, bools_len, bif_t, bif_f, zv0, zv1, zv2, zv3, zv4, zv5, zv6, zv7, zv8, zv9, zv10, zv11, zv12, zv13, zv14, zv15, zv16, zv17, zv18, zv19, zv20, zv21, zv22, zv23, zv24] at *; omega) | (refine ⟨?_, ?_⟩ <;> omega)) | (refine ⟨?_, ?_⟩ <;> omega) | (simp [*]; done) | grind)); (conv => whnf))
            refine ⟨B.length - (i + 1), by omega, [], ?_⟩
            conv => whnf
            exact ⟨i + 1, _, by omega, rfl, ht, rfl⟩
        · have hi' : i = B.length := by omega
          subst hi'
          refine ⟨[], false, false, ?_⟩
          conv => whnf
          refine ⟨_, _, ⟨l, ⟨aa, ab, sa⟩, rfl, rfl, o1, rfl, rfl⟩, ?_⟩
          conv => whnf
          generalize places l ⟨aa, ab, sa⟩ = A at *
          have hM : ∀ key y, (key, y) ∈ M.map (fun p => (p.1, D.sl 1 (p.2.getD []))) → y = .sl 1 ((idxs B key B.length).map inC) := by
            intro key y h
            obtain ⟨p, hp, he⟩ := List.mem_map.1 h
            cases he
            rw [HM.own p hp]; rfl
          have hM2 : ∀ key, (∀ p ∈ M.map (fun p => (p.1, D.sl 1 (p.2.getD []))), p.1 ≠ key) → idxs B key B.length = [] := by
            intro key h
            rcases Classical.em (idxs B key B.length = []) with h0 | h0
            · exact h0
            · obtain ⟨p, hp, e⟩ := HM.all key h0
              exact absurd e (h _ (List.mem_map_of_mem (f := fun p : Int × Option (List (List D)) => (p.1, D.sl 1 (p.2.getD []))) hp))
          generalize hN : M.map (fun p => (p.1, D.sl 1 (p.2.getD []))) = N at *
          refine ⟨[.unrows 8, .slot 11 true], [8, 11, 52, 53, 54], 6, fun n1 σ => ∃ (i : Nat), i ≤ A.length ∧ n1 = A.length - i ∧ σ = (⟨[.junk, .junk, .junk, .junk, .junk, .junk, .junk, .junk, .one (.town 2), .junk, .junk, .one (.own 5), .junk, .junk, .junk, .junk, .junk, .junk, .junk, .junk, .junk, .junk, .junk, .junk, .junk, .junk, .junk, .junk, .junk, .junk, .junk, .junk, .junk, .junk, .junk, .junk, .junk, .junk, .junk, .junk, .junk, .junk, .junk, .junk, .junk, .junk, .junk, .junk, .junk, .junk, .junk, .junk, .one (.own 4), .di .i64 A.length, .di .i64 i, .junk, .junk, .junk, .junk, .junk, .junk, .junk, .junk, .junk, .junk, .junk, .junk, .junk, .junk, .junk, .junk, .junk, .junk, .junk, .junk, .junk], [.box (List.map .d (Ref.mk aa ab sa).c), .box (List.map .d (Ref.mk ba bb sb).c), .mapd N, .row 1 (B.map inC), .row 1 (A.map inC), .row 2 ((pairsTo A B i).map prC)]⟩ : St), ?_, ?_⟩
          · refine ⟨A.length, ?_⟩
            conv => whnf
            refine ⟨fun p hp => by rw [HM.own p hp]; simp, ?_⟩
            conv => whnf
            refine ⟨0, by omega, by omega, ?_⟩
            rw [map_len, hN]; rfl
          · rintro n1 _ ⟨i, hi, rfl, rfl⟩
            conv => whnf
            ((with_reducible refine And.intro (fun (e : (_ : Bool) = true) => ?_) (fun (e : (_ : Bool) = false) => ?_)) <;> (try simp only [reduceCtorEq, ints_len, bools_len, bif_t, bif_f, zv0, zv1, zv2, zv3, zv4, zv5, zv6, zv7, zv8, zv9, zv10, zv11, zv12, zv13, zv14, zv15, zv16, zv17, zv18, zv19, zv20, zv21, zv22, zv23, zv24] at e) <;> (conv => whnf))
            · obtain ⟨x, hx⟩ := get_lt (l := A) (i := i) (by omega)
              refine And.intro ⟨by omega, by rw [map_len]; omega⟩ ?_
              conv => whnf
              refine ⟨_, And.intro (enc_get hx) ?_⟩
              conv => whnf
              have hJl := idxs_len B x B.length
              have hpl := pairsTo_len A B i
              have hpm : i * B.length ≤ 400 * 400 := Nat.mul_le_mul (by omega) hB
              refine ⟨fun y hy => ?_, fun hno => ?_⟩
              · have hy2 := hM _ _ hy
                subst hy2
                conv => whnf
                generalize hJ : idxs B x B.length = J at *
                refine ⟨[], [8, 11, 12, 52, 53, 54, 61, 62, 63], 6, fun n2 σ => ∃ (j : Nat), j ≤ J.length ∧ n2 = J.length - j ∧ σ = (⟨[.junk, .junk, .junk, .junk, .junk, .junk, .junk, .junk, .one (.town 2), .junk, .junk, .one (.own 5), .di .i64 i, .junk, .junk, .junk, .junk, .junk, .junk, .junk, .junk, .junk, .junk, .junk, .junk, .junk, .junk, .junk, .junk, .junk, .junk, .junk, .junk, .junk, .junk, .junk, .junk, .junk, .junk, .junk, .junk, .junk, .junk, .junk, .junk, .junk, .junk, .junk, .junk, .junk, .junk, .junk, .one (.own 4), .di .i64 A.length, .di .i64 i, .junk, .junk, .junk, .junk, .junk, .junk, .one (.d (.sl 1 (J.map inC))), .di .i64 J.length, .di .i64 j, .junk, .junk, .junk, .junk, .junk, .junk, .junk, .junk, .junk, .junk, .junk, .junk], [.box (List.map .d (Ref.mk aa ab sa).c), .box (List.map .d (Ref.mk ba bb sb).c), .mapd N, .row 1 (B.map inC), .row 1 (A.map inC), .row 2 ((pairsTo A B i ++ (J.take j).map fun v => ((i : Int), v)).map prC)]⟩ : St), ?_, ?_⟩
                · refine ⟨J.length, ?_⟩
                  conv => whnf
                  refine ⟨0, by omega, by omega, ?_⟩
                  rw [List.take_zero, List.map_nil, List.append_nil, map_len]; rfl
                · rintro n2 _ ⟨j, hj, rfl, rfl⟩
                  conv => whnf
                  ((with_reducible refine And.intro (fun (e : (_ : Bool) = true) => ?_) (fun (e : (_ : Bool) = false) => ?_)) <;> (try simp only [reduceCtorEq, ints_len, bools_len, bif_t, bif_f, zv0, zv1, zv2, zv3, zv4, zv5, zv6, zv7, zv8, zv9, zv10, zv11, zv12, zv13, zv14, zv15, zv16, zv17, zv18, zv19, zv20, zv21, zv22, zv23, zv24] at e) <;> (conv => whnf))
                  · obtain ⟨y, hy⟩ := get_lt (l := J) (i := j) (by omega)
                    have hstep : (pairsTo A B i ++ (J.take (j + 1)).map fun v => ((i : Int), v)).map prC = (pairsTo A B i ++ (J.take j).map fun v => ((i : Int), v)).map prC ++ [prC ((i : Int), y)] := by
                      rw [List.take_add_one, hy]
                      simp only [Option.toList_some, List.map_append, List.map_cons, List.map_nil, List.append_assoc]
                    refine ⟨_, And.intro ⟨?_, enc_get hy⟩ ?_⟩
                    · omega
                    conv => whnf
                    refine ⟨by rw [map_len, List.length_append, List.length_map, List.length_take]; simp only [List.length_cons, List.length_nil]; omega, ?_⟩
                    conv => whnf
                    (refine And.intro ?_ ?_; ((first | (with_reducible assumption) | (intro _; with_reducible assumption) | omega | (simp only [reduceCtorEq, ints_len, bools_len, bif_t, bif_f, zv0, zv1, zv2, zv3, zv4, zv5, zv6, zv7, zv8, zv9, zv10, zv11, zv12, zv13, zv14, zv15, zv16, zv17, zv18, zv19, zv20, zv21, zv22, zv23, zv24] at *; omega) | (intro hg; (try simp only [reduceCtorEq, ints_len, bools_len, bif_t, bif_f, zv0, zv1, zv2, zv3, zv4, zv5, zv6, zv7, zv8, zv9, zv10, zv11, zv12, zv13, zv14, zv15, zv16, zv17, zv18, zv19, zv20, zv21, zv22, zv23, zv24] at hg); first | (with_reducible assumption) | omega | (simp only [reduceCtorEq, ints_len, bools_len, bif_t, bif_f, zv0, zv1, zv2, zv3, zv4, zv5, zv6, zv7, zv8, zv9, zv10, zv11, zv12, zv13, zv14, zv15, zv16, zv17, zv18, zv19, zv20, zv21, zv22, zv23, zv24] at *; omega) | (refine ⟨?_, ?_⟩ <;> omega)) | (refine ⟨?_, ?_⟩ <;> omega) | (simp [*]; done) | grind)); (conv => whnf))
                    refine ⟨J.length - (j + 1), by omega, [], ?_⟩
                    conv => whnf
                    refine ⟨j + 1, by omega, rfl, ?_⟩
                    rw [hstep]; rfl
                  · have hj' : j = J.length := by omega
                    have hrow : pairsTo A B i ++ ((J.take j).map fun v => ((i : Int), v)) = pairsTo A B (i + 1) := by
                      rw [hj', List.take_length, pairsTo, getD_of hx, hJ]
                    (refine And.intro ?_ ?_; ((first | (with_reducible assumption) | (intro _; with_reducible assumption) | omega | (simp only [reduceCtorEq, ints_len, bools_len, bif_t, bif_f, zv0, zv1, zv2, zv3, zv4, zv5, zv6, zv7, zv8, zv9, zv10, zv11, zv12, zv13, zv14, zv15, zv16, zv17, zv18, zv19, zv20, zv21, zv22, zv23, zv24] at *; omega) | (intro hg; (try simp only [reduceCtorEq, ints_len, bools_len, bif_t, bif_f, zv0, zv1, zv2, zv3, zv4, zv5, zv6, zv7, zv8, zv9, zv10, zv11, zv12, zv13, zv14, zv15, zv16, zv17, zv18, zv19, zv20, zv21, zv22, zv23, zv24] at hg); first | (with_reducible assumption) | omega | (simp only [reduceCtorEq, ints_len, bools_len, bif_t, bif_f, zv0, zv1, zv2, zv3, zv4, zv5, zv6, zv7, zv8, zv9, zv10, zv11, zv12, zv13, zv14, zv15, zv16, zv17, zv18, zv19, zv20, zv21, zv22, zv23, zv24] at *; omega) | (refine ⟨?_, ?_⟩ <;> omega)) | (refine ⟨?_, ?_⟩ <;> omega) | (simp [*]; done) | grind)); (conv => whnf))
                    refine ⟨A.length - (i + 1), by omega, [], ?_⟩
                    conv => whnf
                    refine ⟨i + 1, by omega, rfl, ?_⟩
                    rw [hrow]; rfl
              · have hy2 := hM2 x hno
                conv => whnf
                generalize hJ : idxs B x B.length = J at *
                refine ⟨[.slot 61 false], [8, 11, 12, 52, 53, 54, 61, 62, 63], 6, fun n2 σ => ∃ (j : Nat), j ≤ J.length ∧ n2 = J.length - j ∧ σ = (⟨[.junk, .junk, .junk, .junk, .junk, .junk, .junk, .junk, .one (.town 2), .junk, .junk, .one (.own 5), .di .i64 i, .junk, .junk, .junk, .junk, .junk, .junk, .junk, .junk, .junk, .junk, .junk, .junk, .junk, .junk, .junk, .junk, .junk, .junk, .junk, .junk, .junk, .junk, .junk, .junk, .junk, .junk, .junk, .junk, .junk, .junk, .junk, .junk, .junk, .junk, .junk, .junk, .junk, .junk, .junk, .one (.own 4), .di .i64 A.length, .di .i64 i, .junk, .junk, .junk, .junk, .junk, .junk, .one (.d (.sl 1 (J.map inC))), .di .i64 J.length, .di .i64 j, .junk, .junk, .junk, .junk, .junk, .junk, .junk, .junk, .junk, .junk, .junk, .junk], [.box (List.map .d (Ref.mk aa ab sa).c), .box (List.map .d (Ref.mk ba bb sb).c), .mapd N, .row 1 (B.map inC), .row 1 (A.map inC), .row 2 ((pairsTo A B i ++ (J.take j).map fun v => ((i : Int), v)).map prC)]⟩ : St), ?_, ?_⟩
                · refine ⟨J.length, ?_⟩
                  conv => whnf
                  refine ⟨0, by omega, by omega, ?_⟩
                  subst hy2; rw [List.take_zero, List.map_nil (f := fun v : Int => ((i : Int), v)), List.append_nil]; rfl
                · rintro n2 _ ⟨j, hj, rfl, rfl⟩
                  conv => whnf
                  ((with_reducible refine And.intro (fun (e : (_ : Bool) = true) => ?_) (fun (e : (_ : Bool) = false) => ?_)) <;> (try simp only [reduceCtorEq, ints_len, bools_len, bif_t, bif_f, zv0, zv1, zv2, zv3, zv4, zv5, zv6, zv7, zv8, zv9, zv10, zv11, zv12, zv13, zv14, zv15, zv16, zv17, zv18, zv19, zv20, zv21, zv22, zv23, zv24] at e) <;> (conv => whnf))
                  · obtain ⟨y, hy⟩ := get_lt (l := J) (i := j) (by omega)
                    have hstep : (pairsTo A B i ++ (J.take (j + 1)).map fun v => ((i : Int), v)).map prC = (pairsTo A B i ++ (J.take j).map fun v => ((i : Int), v)).map prC ++ [prC ((i : Int), y)] := by
                      rw [List.take_add_one, hy]
                      simp only [Option.toList_some, List.map_append, List.map_cons, List.map_nil, List.append_assoc]
                    refine ⟨_, And.intro ⟨?_, enc_get hy⟩ ?_⟩
                    · omega
                    conv => whnf
                    refine ⟨by rw [map_len, List.length_append, List.length_map, List.length_take]; simp only [List.length_cons, List.length_nil]; omega, ?_⟩
                    conv => whnf
                    (refine And.intro ?_ ?_; ((first | (with_reducible assumption) | (intro _; with_reducible assumption) | omega | (simp only [reduceCtorEq, ints_len, bools_len, bif_t, bif_f, zv0, zv1, zv2, zv3, zv4, zv5, zv6, zv7, zv8, zv9, zv10, zv11, zv12, zv13, zv14, zv15, zv16, zv17, zv18, zv19, zv20, zv21, zv22, zv23, zv24] at *; omega) | (intro hg; (try simp only [reduceCtorEq, ints_len, bools_len, bif_t, bif_f, zv0, zv1, zv2, zv3, zv4, zv5, zv6, zv7, zv8, zv9, zv10, zv11, zv12, zv13, zv14, zv15, zv16, zv17, zv18, zv19, zv20, zv21, zv22, zv23, zv24] at hg); first | (with_reducible assumption) | omega | (simp only [reduceCtorEq, ints_len, bools_len, bif_t, bif_f, zv0, zv1, zv2, zv3, zv4, zv5, zv6, zv7, zv8, zv9, zv10, zv11, zv12, zv13, zv14, zv15, zv16, zv17, zv18, zv19, zv20, zv21, zv22, zv23, zv24] at *; omega) | (refine ⟨?_, ?_⟩ <;> omega)) | (refine ⟨?_, ?_⟩ <;> omega) | (simp [*]; done) | grind)); (conv => whnf))
                    refine ⟨J.length - (j + 1), by omega, [], ?_⟩
                    conv => whnf
                    refine ⟨j + 1, by omega, rfl, ?_⟩
                    rw [hstep]; rfl
                  · have hj' : j = J.length := by omega
                    have hrow : pairsTo A B i ++ ((J.take j).map fun v => ((i : Int), v)) = pairsTo A B (i + 1) := by
                      rw [hj', List.take_length, pairsTo, getD_of hx, hJ]
                    (refine And.intro ?_ ?_; ((first | (with_reducible assumption) | (intro _; with_reducible assumption) | omega | (simp only [reduceCtorEq, ints_len, bools_len, bif_t, bif_f, zv0, zv1, zv2, zv3, zv4, zv5, zv6, zv7, zv8, zv9, zv10, zv11, zv12, zv13, zv14, zv15, zv16, zv17, zv18, zv19, zv20, zv21, zv22, zv23, zv24] at *; omega) | (intro hg; (try simp only [reduceCtorEq, ints_len, bools_len, bif_t, bif_f, zv0, zv1, zv2, zv3, zv4, zv5, zv6, zv7, zv8, zv9, zv10, zv11, zv12, zv13, zv14, zv15, zv16, zv17, zv18, zv19, zv20, zv21, zv22, zv23, zv24] at hg); first | (with_reducible assumption) | omega | (simp only [reduceCtorEq, ints_len, bools_len, bif_t, bif_f, zv0, zv1, zv2, zv3, zv4, zv5, zv6, zv7, zv8, zv9, zv10, zv11, zv12, zv13, zv14, zv15, zv16, zv17, zv18, zv19, zv20, zv21, zv22, zv23, zv24] at *; omega) | (refine ⟨?_, ?_⟩ <;> omega)) | (refine ⟨?_, ?_⟩ <;> omega) | (simp [*]; done) | grind)); (conv => whnf))
                    refine ⟨A.length - (i + 1), by omega, [], ?_⟩
                    conv => whnf
                    refine ⟨i + 1, by omega, rfl, ?_⟩
                    rw [hrow]; rfl
            · have hi' : i = A.length := by omega
              subst hi'
              refine ⟨[], ?_⟩
              conv => whnf
              exact ⟨[5], by simp, .cons ⟨_, rfl, rfl, rfl⟩ .nil, .cons rfl (.cons rfl .nil)⟩
  · conv => whnf
    (repeat' (first | ((with_reducible refine And.intro (fun (e : (_ : Bool) = true) => ?_) (fun (e : (_ : Bool) = false) => ?_)) <;> (try simp only [reduceCtorEq, ints_len, bools_len, bif_t, bif_f, zv0, zv1, zv2, zv3, zv4, zv5, zv6, zv7, zv8, zv9, zv10, zv11, zv12, zv13, zv14, zv15, zv16, zv17, zv18, zv19, zv20, zv21, zv22, zv23, zv24] at e) <;> (conv => whnf)) | (refine And.intro ?_ ?_; ((first | (with_reducible assumption) | (intro _; with_reducible assumption) | omega | (simp only [reduceCtorEq, ints_len, bools_len, bif_t, bif_f, zv0, zv1, zv2, zv3, zv4, zv5, zv6, zv7, zv8, zv9, zv10, zv11, zv12, zv13, zv14, zv15, zv16, zv17, zv18, zv19, zv20, zv21, zv22, zv23, zv24] at *; omega) | (intro hg; (try simp only [reduceCtorEq, ints_len, bools_len, bif_t, bif_f, zv0, zv1, zv2, zv3, zv4, zv5, zv6, zv7, zv8, zv9, zv10, zv11, zv12, zv13, zv14, zv15, zv16, zv17, zv18, zv19, zv20, zv21, zv22, zv23, zv24] at hg); first | (with_reducible assumption) | omega | (simp only [reduceCtorEq, ints_len, bools_len, bif_t, bif_f, zv0, zv1, zv2, zv3, zv4, zv5, zv6, zv7, zv8, zv9, zv10, zv11, zv12, zv13, zv14, zv15, zv16, zv17, zv18, zv19, zv20, zv21, zv22, zv23, zv24] at *; omega) | (refine ⟨?_, ?_⟩ <;> omega)) | (refine ⟨?_, ?_⟩ <;> omega) | (simp [*]; done) | grind)); (conv => whnf))))
    have e2 := e
    refine ⟨[.slot 6 true], ?_⟩
    conv => whnf
    simp at e1
    refine ⟨[2], by simp, .cons ⟨_, rfl, rfl, ?_⟩ .nil, .cons rfl (.cons ?_ .nil)⟩
    · unfold pairs; rw [if_neg (by rintro ⟨h1, h2, h3⟩; rw [h1] at e1; cases e1)]; rfl
    · unfold pairsErr; rw [if_neg (by rintro ⟨h1, h2⟩; rw [h1] at e1; cases e1)]; rfl
end Go.Proofs.YtahdihhhankhdaaGreat.V
-- Vpi
namespace Go.Proofs.YtahdihhhankhdaaGreat.V
open Go.Proofs.YtahdihhhankhdaaGreatVY Go.RowKit
theorem idxs_iff (l : List Int) (x : Int) : ∀ n ≤ l.length, ∀ v : Int, v ∈ idxs l x n ↔ ∃ j : Nat, v = j ∧ j < n ∧ l[j]? = some x
  | 0, _, v => by simp [idxs]
  | n + 1, hn, v => by
    obtain ⟨y, hy⟩ := get_lt (l := l) (i := n) (by omega)
    rw [idxs, List.mem_append, idxs_iff l x n (by omega), getD_of hy]
    constructor
    · rintro (⟨j, h1, h2, h3⟩ | h)
      · exact ⟨j, h1, by omega, h3⟩
      · split at h
        · rename_i e; simp at h; exact ⟨n, h, by omega, by rw [hy, e]⟩
        · simp at h
    · rintro ⟨j, h1, h2, h3⟩
      by_cases e : j = n
      · subst e; rw [hy] at h3; cases h3; right; rw [if_pos rfl]; simp [h1]
      · exact .inl ⟨j, h1, by omega, h3⟩
theorem pairsTo_iff (A B : List Int) : ∀ n ≤ A.length, ∀ p : Int × Int, p ∈ pairsTo A B n ↔ ∃ (i j : Nat) (v : Int), p = ((i : Int), (j : Int)) ∧ i < n ∧ A[i]? = some v ∧ B[j]? = some v
  | 0, _, p => by simp [pairsTo]
  | n + 1, hn, p => by
    obtain ⟨y, hy⟩ := get_lt (l := A) (i := n) (by omega)
    rw [pairsTo, List.mem_append, pairsTo_iff A B n (by omega), List.mem_map, getD_of hy]
    constructor
    · rintro (⟨i, j, v, h1, h2, h3, h4⟩ | ⟨w, hw, rfl⟩)
      · exact ⟨i, j, v, h1, by omega, h3, h4⟩
      · obtain ⟨j, rfl, _, hj⟩ := (idxs_iff B y B.length (Nat.le_refl _) w).1 hw
        exact ⟨n, j, y, rfl, by omega, hy, hj⟩
    · rintro ⟨i, j, v, h1, h2, h3, h4⟩
      by_cases e : i = n
      · subst e; rw [hy] at h3; cases h3
        exact .inr ⟨j, (idxs_iff B y B.length (Nat.le_refl _) _).2 ⟨j, rfl, (List.getElem?_eq_some_iff.1 h4).1, h4⟩, h1.symm⟩
      · exact .inl ⟨i, j, v, h1, by omega, h3, h4⟩
theorem pairs_iff {l : List Int} {a b : Ref} {p : Int × Int} : p ∈ pairs l a b ↔ (refOk l a = true ∧ refOk l b = true ∧ a.arr = b.arr) ∧ ∃ (i j : Nat) (v : Int), p = ((i : Int), (j : Int)) ∧ (places l a)[i]? = some v ∧ (places l b)[j]? = some v := by
  unfold pairs
  split
  · rename_i h
    rw [pairsTo_iff _ _ _ (Nat.le_refl _)]
    refine ⟨fun ⟨i, j, v, h1, _, h3, h4⟩ => ⟨h, i, j, v, h1, h3, h4⟩, fun ⟨_, i, j, v, h1, h3, h4⟩ => ⟨i, j, v, h1, (List.getElem?_eq_some_iff.1 h3).1, h3, h4⟩⟩
  · rename_i h
    simp [h]
theorem pairs_turn {l : List Int} {a b : Ref} {x y : Int} (h : (x, y) ∈ pairs l a b) : (y, x) ∈ pairs l b a := by
  obtain ⟨⟨h1, h2, h3⟩, i, j, v, e, h4, h5⟩ := pairs_iff.1 h
  cases e
  exact pairs_iff.2 ⟨⟨h2, h1, h3.symm⟩, j, i, v, rfl, h5, h4⟩
end Go.Proofs.YtahdihhhankhdaaGreat.V
-- Vgd
namespace Go.Proofs.YtahdihhhankhdaaGreat.V
open Go.Proofs.YtahdihhhankhdaaGreatVY Go.RowKit
theorem gD_of {l : List Int} {i : Nat} {x : Int} (h : l[i]? = some x) : l.getD i 0 = x := by simp [List.getD, h]
end Go.Proofs.YtahdihhhankhdaaGreat.V
-- Vcp
namespace Go.Proofs.YtahdihhhankhdaaGreat.V
open Go.Proofs.YtahdihhhankhdaaGreatVY Go.RowKit
/-- equal neighbours once -/
def compTo (l : List Int) : Nat → List Int
  | 0 => []
  | i + 1 => if 0 < i ∧ l.getD i 0 = l.getD (i - 1) 0 then compTo l i else compTo l i ++ [l.getD i 0]
def comp (l : List Int) : List Int := compTo l l.length
theorem compTo_le (l : List Int) : ∀ i, (compTo l i).length ≤ i
  | 0 => Nat.le_refl _
  | i + 1 => by
    have := compTo_le l i
    rw [compTo]
    split
    · omega
    · rw [List.length_append]; simp only [List.length_cons, List.length_nil]; omega
theorem compTo_diff {l : List Int} : ∀ {i : Nat}, i ≤ l.length → (∀ j < i, 0 < j → l.getD j 0 ≠ l.getD (j - 1) 0) → compTo l i = l.take i
  | 0, _, _ => rfl
  | i + 1, hi, h => by
    obtain ⟨x, hx⟩ := get_lt (l := l) (i := i) (by omega)
    rw [compTo, if_neg (fun hc => h i (by omega) hc.1 hc.2), compTo_diff (by omega) (fun j hj => h j (by omega)), gD_of hx, List.take_add_one, hx]; rfl
def R60 : Ct := fun ss hp r out => ∃ (l : List Int) (v : Value), ss = [.one (.own 0)] ∧ hp = [.row 1 (l.map inC), .mem v (.own 0)] ∧ l.length < 4611686018427387904 ∧ r = .one (.own 0) ∧ out = [.row 1 ((comp l).map inC), .mem v .junk]
set_option maxHeartbeats 4000000 in
theorem ok60 : VSound Tryz.prog (60, R60) := by
  refine vsound (T := ty) (F := []) (pl := [(6, [[], [], [0, 1], [0, 1, 2], [], [], [5], [4, 5, 6], [4, 5, 6, 7], [0, 1, 2, 3, 4, 5, 6, 7, 8]], .look 0 (.look 1 (.look 2 (.look 3 (.look 4 (.look 5 (.look 6 (.look 7 (.look 8 (.look 9 .done)))))))))), (11, [[], [], [0, 1], [0, 1, 2], [], [], [5], [4, 5, 6], [4, 5, 6, 7], [0, 1, 2, 3, 4, 5, 6, 7, 8]], .look 0 (.look 1 (.look 2 (.look 3 (.look 4 (.look 5 (.look 6 (.look 7 (.look 8 (.look 9 .done))))))))))]) (nw := true) (cuts := []) mix tyOk .nil Tryz.func60 (by kernel_rfl) (by kernel_rfl) ?_
  rintro _ _ _ _ ⟨l, v, rfl, rfl, hl, rfl, rfl⟩
  conv => whnf
  rw [map_len]
  ((with_reducible refine And.intro (fun (e : (_ : Bool) = true) => ?_) (fun (e : (_ : Bool) = false) => ?_)) <;> (try simp only [reduceCtorEq, ints_len, bools_len, bif_t, bif_f, zv0, zv1, zv2, zv3, zv4, zv5, zv6, zv7, zv8, zv9, zv10, zv11, zv12, zv13, zv14, zv15, zv16, zv17, zv18, zv19, zv20, zv21, zv22, zv23, zv24] at e) <;> (conv => whnf))
  · have hc : comp l = l := by
      unfold comp
      rw [compTo_diff (Nat.le_refl _) (fun j hj h0 => by omega), List.take_length]
    refine ⟨[], ?_⟩
    conv => whnf
    rw [hc]
    exact ⟨[0, 1], by simp, .cons ⟨_, rfl, rfl, rfl⟩ (.cons ⟨_, rfl, rfl, trivial⟩ .nil), rfl⟩
  · refine ⟨[], [0, 3], 2, fun n1 σ => ∃ i : Nat, 1 ≤ i ∧ i ≤ l.length ∧ n1 = l.length - i ∧ (∀ j < i, 0 < j → l.getD j 0 ≠ l.getD (j - 1) 0) ∧ σ = (⟨[.one (.own 0), .junk, .junk, .di .i64 i, .junk, .junk, .junk, .junk, .junk, .junk, .junk, .junk, .junk, .junk, .junk, .junk, .junk, .junk, .junk, .junk, .junk, .junk, .junk, .junk, .junk, .junk, .junk, .junk, .junk, .junk, .junk, .junk, .junk, .junk, .junk, .junk, .junk, .junk, .junk, .junk, .junk, .junk, .junk, .junk, .junk, .junk, .junk, .junk, .junk, .junk, .junk, .junk, .junk, .junk, .junk, .junk, .junk, .junk, .junk, .junk, .junk], [.row 1 (l.map inC), .mem v (.own 0)]⟩ : St), ?_, ?_⟩
    · refine ⟨l.length - 1, ?_⟩
      conv => whnf
      exact ⟨1, by omega, by omega, rfl, fun j hj h0 => by omega, rfl⟩
    · rintro n1 _ ⟨i, hi1, hi, rfl, hd, rfl⟩
      conv => whnf
      rw [map_len]
      ((with_reducible refine And.intro (fun (e : (_ : Bool) = true) => ?_) (fun (e : (_ : Bool) = false) => ?_)) <;> (try simp only [reduceCtorEq, ints_len, bools_len, bif_t, bif_f, zv0, zv1, zv2, zv3, zv4, zv5, zv6, zv7, zv8, zv9, zv10, zv11, zv12, zv13, zv14, zv15, zv16, zv17, zv18, zv19, zv20, zv21, zv22, zv23, zv24] at e) <;> (conv => whnf))
      · obtain ⟨x, hx⟩ := get_lt (l := l) (i := i) (by omega)
        obtain ⟨q, rfl⟩ : ∃ q, i = q + 1 := ⟨i - 1, by omega⟩
        obtain ⟨y, hy⟩ := get_lt (l := l) (i := q) (by omega)
        have hq1 : ((q + 1 : Nat) : Int) - 1 = (q : Int) := by omega
        (repeat (refine And.intro ?_ ?_; ((first | (with_reducible assumption) | (intro _; with_reducible assumption) | omega | (simp only [reduceCtorEq, ints_len, bools_len, bif_t, bif_f, zv0, zv1, zv2, zv3, zv4, zv5, zv6, zv7, zv8, zv9, zv10, zv11, zv12, zv13, zv14, zv15, zv16, zv17, zv18, zv19, zv20, zv21, zv22, zv23, zv24] at *; omega) | (intro hg; (try simp only [reduceCtorEq, ints_len, bools_len, bif_t, bif_f, zv0, zv1, zv2, zv3, zv4, zv5, zv6, zv7, zv8, zv9, zv10, zv11, zv12, zv13, zv14, zv15, zv16, zv17, zv18, zv19, zv20, zv21, zv22, zv23, zv24] at hg); first | (with_reducible assumption) | omega | (simp only [reduceCtorEq, ints_len, bools_len, bif_t, bif_f, zv0, zv1, zv2, zv3, zv4, zv5, zv6, zv7, zv8, zv9, zv10, zv11, zv12, zv13, zv14, zv15, zv16, zv17, zv18, zv19, zv20, zv21, zv22, zv23, zv24] at *; omega) | (refine ⟨?_, ?_⟩ <;> omega)) | (refine ⟨?_, ?_⟩ <;> omega) | (simp [*]; done) | grind)); (conv => whnf)))
        refine ⟨_, And.intro (enc_get hx) ?_⟩
        conv => whnf
        (repeat (refine And.intro ?_ ?_; ((first | (with_reducible assumption) | (intro _; with_reducible assumption) | omega | (simp only [reduceCtorEq, ints_len, bools_len, bif_t, bif_f, zv0, zv1, zv2, zv3, zv4, zv5, zv6, zv7, zv8, zv9, zv10, zv11, zv12, zv13, zv14, zv15, zv16, zv17, zv18, zv19, zv20, zv21, zv22, zv23, zv24] at *; omega) | (intro hg; (try simp only [reduceCtorEq, ints_len, bools_len, bif_t, bif_f, zv0, zv1, zv2, zv3, zv4, zv5, zv6, zv7, zv8, zv9, zv10, zv11, zv12, zv13, zv14, zv15, zv16, zv17, zv18, zv19, zv20, zv21, zv22, zv23, zv24] at hg); first | (with_reducible assumption) | omega | (simp only [reduceCtorEq, ints_len, bools_len, bif_t, bif_f, zv0, zv1, zv2, zv3, zv4, zv5, zv6, zv7, zv8, zv9, zv10, zv11, zv12, zv13, zv14, zv15, zv16, zv17, zv18, zv19, zv20, zv21, zv22, zv23, zv24] at *; omega) | (refine ⟨?_, ?_⟩ <;> omega)) | (refine ⟨?_, ?_⟩ <;> omega) | (simp [*]; done) | grind)); (conv => whnf)))
        refine ⟨inC y, And.intro (by rw [hq1]; exact enc_get hy) ?_⟩
        conv => whnf
        ((with_reducible refine And.intro (fun (e : (_ : Bool) = true) => ?_) (fun (e : (_ : Bool) = false) => ?_)) <;> (try simp only [reduceCtorEq, ints_len, bools_len, bif_t, bif_f, zv0, zv1, zv2, zv3, zv4, zv5, zv6, zv7, zv8, zv9, zv10, zv11, zv12, zv13, zv14, zv15, zv16, zv17, zv18, zv19, zv20, zv21, zv22, zv23, zv24] at e) <;> (conv => whnf))
        · have exy : x = y := e
          have hc0 : compTo l (q + 1 + 1) = l.take (q + 1) := by
            rw [compTo, if_pos ⟨by omega, by rw [gD_of hx, show q + 1 - 1 = q by omega, gD_of hy, exy]⟩, compTo_diff hi hd]
          (refine And.intro ?_ ?_; ((first | (with_reducible assumption) | (intro _; with_reducible assumption) | omega | (simp only [reduceCtorEq, ints_len, bools_len, bif_t, bif_f, zv0, zv1, zv2, zv3, zv4, zv5, zv6, zv7, zv8, zv9, zv10, zv11, zv12, zv13, zv14, zv15, zv16, zv17, zv18, zv19, zv20, zv21, zv22, zv23, zv24] at *; omega) | (intro hg; (try simp only [reduceCtorEq, ints_len, bools_len, bif_t, bif_f, zv0, zv1, zv2, zv3, zv4, zv5, zv6, zv7, zv8, zv9, zv10, zv11, zv12, zv13, zv14, zv15, zv16, zv17, zv18, zv19, zv20, zv21, zv22, zv23, zv24] at hg); first | (with_reducible assumption) | omega | (simp only [reduceCtorEq, ints_len, bools_len, bif_t, bif_f, zv0, zv1, zv2, zv3, zv4, zv5, zv6, zv7, zv8, zv9, zv10, zv11, zv12, zv13, zv14, zv15, zv16, zv17, zv18, zv19, zv20, zv21, zv22, zv23, zv24] at *; omega) | (refine ⟨?_, ?_⟩ <;> omega)) | (refine ⟨?_, ?_⟩ <;> omega) | (simp [*]; done) | grind)); (conv => whnf))
          refine ⟨[], [0, 3, 4, 5], 2, fun n2 σ => ∃ (j k : Nat) (Q : List Int), 1 ≤ j ∧ q + 1 + j ≤ l.length ∧ n2 = l.length - (q + 1 + j) ∧ Q.length = l.length ∧ (compTo l (q + 1 + j)).length = k ∧ k ≤ q + 1 + j - 1 ∧ Q.take k = compTo l (q + 1 + j) ∧ Q.drop (q + 1 + j - 1) = l.drop (q + 1 + j - 1) ∧ σ = (⟨[.one (.own 0), .junk, .junk, .di .i64 k, .v (.c (.win 0 1 (q + 1) (l.length - (q + 1)))), .di .i64 j, .junk, .junk, .junk, .junk, .junk, .junk, .junk, .junk, .junk, .junk, .junk, .junk, .junk, .junk, .junk, .junk, .junk, .junk, .junk, .junk, .junk, .junk, .junk, .junk, .junk, .junk, .junk, .junk, .junk, .junk, .junk, .junk, .junk, .junk, .junk, .junk, .junk, .junk, .junk, .junk, .junk, .junk, .junk, .junk, .junk, .junk, .junk, .junk, .junk, .junk, .junk, .junk, .junk, .junk, .junk], [.row 1 (Q.map inC), .mem v (.own 0)]⟩ : St), ?_, ?_⟩
          · refine ⟨l.length - (q + 1 + 1), ?_⟩
            conv => whnf
            refine ⟨1, q + 1, l, by omega, by omega, rfl, rfl, ?_, by omega, hc0.symm, rfl, ?_⟩
            · rw [hc0, List.length_take]; omega
            · rw [map_len]; rfl
          · rintro n2 _ ⟨j, k, Q, hj1, hj, rfl, hQ, hk, hkj, hT, hD, rfl⟩
            have hwl : (((Q.map inC).drop (q + 1)).take (l.length - (q + 1))).length = l.length - (q + 1) := by
              rw [List.length_take, List.length_drop, map_len]; omega
            conv => whnf
            rw [hwl]
            ((with_reducible refine And.intro (fun (e : (_ : Bool) = true) => ?_) (fun (e : (_ : Bool) = false) => ?_)) <;> (try simp only [reduceCtorEq, ints_len, bools_len, bif_t, bif_f, zv0, zv1, zv2, zv3, zv4, zv5, zv6, zv7, zv8, zv9, zv10, zv11, zv12, zv13, zv14, zv15, zv16, zv17, zv18, zv19, zv20, zv21, zv22, zv23, zv24] at e) <;> (conv => whnf))
            · obtain ⟨x2, hx2⟩ := get_lt (l := l) (i := q + 1 + j) (by omega)
              obtain ⟨j, rfl⟩ : ∃ j', j = j' + 1 := ⟨j - 1, by omega⟩
              obtain ⟨y2, hy2⟩ := get_lt (l := l) (i := q + 1 + j) (by omega)
              have hQd : ∀ m, Q[q + 1 + j + m]? = l[q + 1 + j + m]? := fun m => by
                have : (Q.drop (q + 1 + (j + 1) - 1))[m]? = (l.drop (q + 1 + (j + 1) - 1))[m]? := by rw [hD]
                rw [List.getElem?_drop, List.getElem?_drop] at this
                rwa [show q + 1 + (j + 1) - 1 + m = q + 1 + j + m by omega] at this
              have hQx : Q[q + 1 + (j + 1)]? = some x2 := by rw [← hx2]; exact hQd 1
              have hQy : Q[q + 1 + j]? = some y2 := by rw [← hy2]; exact hQd 0
              have hj2 : ((j + 1 : Nat) : Int) - 1 = (j : Int) := by omega
              have hcx : compTo l (q + 1 + (j + 1) + 1) = if x2 = y2 then compTo l (q + 1 + (j + 1)) else compTo l (q + 1 + (j + 1)) ++ [x2] := by
                rw [compTo, gD_of hx2, show q + 1 + (j + 1) - 1 = q + 1 + j by omega, gD_of hy2]
                by_cases h : x2 = y2
                · rw [if_pos ⟨by omega, h⟩, if_pos h]
                · rw [if_neg (fun hc => h hc.2), if_neg h]
              have hD2 : Q.drop (q + 1 + (j + 1 + 1) - 1) = l.drop (q + 1 + (j + 1 + 1) - 1) := by
                rw [show q + 1 + (j + 1 + 1) - 1 = q + 1 + (j + 1) - 1 + 1 by omega, ← List.drop_drop, hD, List.drop_drop]
              (repeat (refine And.intro ?_ ?_; ((first | (with_reducible assumption) | (intro _; with_reducible assumption) | omega | (simp only [reduceCtorEq, ints_len, bools_len, bif_t, bif_f, zv0, zv1, zv2, zv3, zv4, zv5, zv6, zv7, zv8, zv9, zv10, zv11, zv12, zv13, zv14, zv15, zv16, zv17, zv18, zv19, zv20, zv21, zv22, zv23, zv24] at *; omega) | (intro hg; (try simp only [reduceCtorEq, ints_len, bools_len, bif_t, bif_f, zv0, zv1, zv2, zv3, zv4, zv5, zv6, zv7, zv8, zv9, zv10, zv11, zv12, zv13, zv14, zv15, zv16, zv17, zv18, zv19, zv20, zv21, zv22, zv23, zv24] at hg); first | (with_reducible assumption) | omega | (simp only [reduceCtorEq, ints_len, bools_len, bif_t, bif_f, zv0, zv1, zv2, zv3, zv4, zv5, zv6, zv7, zv8, zv9, zv10, zv11, zv12, zv13, zv14, zv15, zv16, zv17, zv18, zv19, zv20, zv21, zv22, zv23, zv24] at *; omega) | (refine ⟨?_, ?_⟩ <;> omega)) | (refine ⟨?_, ?_⟩ <;> omega) | (simp [*]; done) | grind)); (conv => whnf)))
              refine ⟨inC x2, And.intro (by rw [List.getElem?_map, Int.toNat_natCast, hQx]; rfl) ?_⟩
              conv => whnf
              (repeat (refine And.intro ?_ ?_; ((first | (with_reducible assumption) | (intro _; with_reducible assumption) | omega | (simp only [reduceCtorEq, ints_len, bools_len, bif_t, bif_f, zv0, zv1, zv2, zv3, zv4, zv5, zv6, zv7, zv8, zv9, zv10, zv11, zv12, zv13, zv14, zv15, zv16, zv17, zv18, zv19, zv20, zv21, zv22, zv23, zv24] at *; omega) | (intro hg; (try simp only [reduceCtorEq, ints_len, bools_len, bif_t, bif_f, zv0, zv1, zv2, zv3, zv4, zv5, zv6, zv7, zv8, zv9, zv10, zv11, zv12, zv13, zv14, zv15, zv16, zv17, zv18, zv19, zv20, zv21, zv22, zv23, zv24] at hg); first | (with_reducible assumption) | omega | (simp only [reduceCtorEq, ints_len, bools_len, bif_t, bif_f, zv0, zv1, zv2, zv3, zv4, zv5, zv6, zv7, zv8, zv9, zv10, zv11, zv12, zv13, zv14, zv15, zv16, zv17, zv18, zv19, zv20, zv21, zv22, zv23, zv24] at *; omega) | (refine ⟨?_, ?_⟩ <;> omega)) | (refine ⟨?_, ?_⟩ <;> omega) | (simp [*]; done) | grind)); (conv => whnf)))
              refine ⟨inC y2, And.intro (by rw [hj2, List.getElem?_map, Int.toNat_natCast, hQy]; rfl) ?_⟩
              conv => whnf
              ((with_reducible refine And.intro (fun (e : (_ : Bool) = true) => ?_) (fun (e : (_ : Bool) = false) => ?_)) <;> (try simp only [reduceCtorEq, ints_len, bools_len, bif_t, bif_f, zv0, zv1, zv2, zv3, zv4, zv5, zv6, zv7, zv8, zv9, zv10, zv11, zv12, zv13, zv14, zv15, zv16, zv17, zv18, zv19, zv20, zv21, zv22, zv23, zv24] at e) <;> (conv => whnf))
              · have exy2 : x2 ≠ y2 := e
                rw [if_neg exy2] at hcx
                obtain ⟨w, hw⟩ := get_lt (l := Q) (i := k) (by omega)
                (repeat (refine And.intro ?_ ?_; ((first | (with_reducible assumption) | (intro _; with_reducible assumption) | omega | (simp only [reduceCtorEq, ints_len, bools_len, bif_t, bif_f, zv0, zv1, zv2, zv3, zv4, zv5, zv6, zv7, zv8, zv9, zv10, zv11, zv12, zv13, zv14, zv15, zv16, zv17, zv18, zv19, zv20, zv21, zv22, zv23, zv24] at *; omega) | (intro hg; (try simp only [reduceCtorEq, ints_len, bools_len, bif_t, bif_f, zv0, zv1, zv2, zv3, zv4, zv5, zv6, zv7, zv8, zv9, zv10, zv11, zv12, zv13, zv14, zv15, zv16, zv17, zv18, zv19, zv20, zv21, zv22, zv23, zv24] at hg); first | (with_reducible assumption) | omega | (simp only [reduceCtorEq, ints_len, bools_len, bif_t, bif_f, zv0, zv1, zv2, zv3, zv4, zv5, zv6, zv7, zv8, zv9, zv10, zv11, zv12, zv13, zv14, zv15, zv16, zv17, zv18, zv19, zv20, zv21, zv22, zv23, zv24] at *; omega) | (refine ⟨?_, ?_⟩ <;> omega)) | (refine ⟨?_, ?_⟩ <;> omega) | (simp [*]; done) | grind)); (conv => whnf)))
                refine ⟨inC x2, And.intro (by rw [List.getElem?_map, Int.toNat_natCast, hQx]; rfl) ?_⟩
                conv => whnf
                refine And.intro ⟨by omega, by rw [map_len]; omega⟩ ?_
                show St.apply _ _ _ _ _ _ _
                unfold St.apply
                simp only [updsK, appK, putD, setK]
                unfold vcOps
                simp only [isLook, winAt]
                unfold actStep evM
                simp only [operand, nthK, strip]
                conv => whnf
                refine ⟨_, And.intro (enc_get hw) ?_⟩
                conv => whnf
                have hset : ((Q.map inC).set (k : Int).toNat [D.int .i64 x2]) = (Q.set k x2).map inC := by rw [Int.toNat_natCast, List.map_set]
                rw [hset]
                (refine And.intro ?_ ?_; ((first | (with_reducible assumption) | (intro _; with_reducible assumption) | omega | (simp only [reduceCtorEq, ints_len, bools_len, bif_t, bif_f, zv0, zv1, zv2, zv3, zv4, zv5, zv6, zv7, zv8, zv9, zv10, zv11, zv12, zv13, zv14, zv15, zv16, zv17, zv18, zv19, zv20, zv21, zv22, zv23, zv24] at *; omega) | (intro hg; (try simp only [reduceCtorEq, ints_len, bools_len, bif_t, bif_f, zv0, zv1, zv2, zv3, zv4, zv5, zv6, zv7, zv8, zv9, zv10, zv11, zv12, zv13, zv14, zv15, zv16, zv17, zv18, zv19, zv20, zv21, zv22, zv23, zv24] at hg); first | (with_reducible assumption) | omega | (simp only [reduceCtorEq, ints_len, bools_len, bif_t, bif_f, zv0, zv1, zv2, zv3, zv4, zv5, zv6, zv7, zv8, zv9, zv10, zv11, zv12, zv13, zv14, zv15, zv16, zv17, zv18, zv19, zv20, zv21, zv22, zv23, zv24] at *; omega) | (refine ⟨?_, ?_⟩ <;> omega)) | (refine ⟨?_, ?_⟩ <;> omega) | (simp [*]; done) | grind)); (conv => whnf))
                (refine And.intro ?_ ?_; ((first | (with_reducible assumption) | (intro _; with_reducible assumption) | omega | (simp only [reduceCtorEq, ints_len, bools_len, bif_t, bif_f, zv0, zv1, zv2, zv3, zv4, zv5, zv6, zv7, zv8, zv9, zv10, zv11, zv12, zv13, zv14, zv15, zv16, zv17, zv18, zv19, zv20, zv21, zv22, zv23, zv24] at *; omega) | (intro hg; (try simp only [reduceCtorEq, ints_len, bools_len, bif_t, bif_f, zv0, zv1, zv2, zv3, zv4, zv5, zv6, zv7, zv8, zv9, zv10, zv11, zv12, zv13, zv14, zv15, zv16, zv17, zv18, zv19, zv20, zv21, zv22, zv23, zv24] at hg); first | (with_reducible assumption) | omega | (simp only [reduceCtorEq, ints_len, bools_len, bif_t, bif_f, zv0, zv1, zv2, zv3, zv4, zv5, zv6, zv7, zv8, zv9, zv10, zv11, zv12, zv13, zv14, zv15, zv16, zv17, zv18, zv19, zv20, zv21, zv22, zv23, zv24] at *; omega) | (refine ⟨?_, ?_⟩ <;> omega)) | (refine ⟨?_, ?_⟩ <;> omega) | (simp [*]; done) | grind)); (conv => whnf))
                refine ⟨l.length - (q + 1 + (j + 1 + 1)), by omega, [], ?_⟩
                conv => whnf
                refine ⟨j + 1 + 1, k + 1, Q.set k x2, by omega, by omega, rfl, by rw [List.length_set]; exact hQ, ?_, by omega, ?_, ?_, rfl⟩
                · rw [show q + 1 + (j + 1 + 1) = q + 1 + (j + 1) + 1 by omega, hcx, List.length_append, hk]; rfl
                · rw [show q + 1 + (j + 1 + 1) = q + 1 + (j + 1) + 1 by omega, hcx, List.take_add_one, List.take_set_of_le (Nat.le_refl _), hT, List.getElem?_set_self (by omega)]; rfl
                · rw [List.drop_set_of_lt (by omega)]; exact hD2
              · have exy2 : x2 = y2 := e
                rw [if_pos exy2] at hcx
                (refine And.intro ?_ ?_; ((first | (with_reducible assumption) | (intro _; with_reducible assumption) | omega | (simp only [reduceCtorEq, ints_len, bools_len, bif_t, bif_f, zv0, zv1, zv2, zv3, zv4, zv5, zv6, zv7, zv8, zv9, zv10, zv11, zv12, zv13, zv14, zv15, zv16, zv17, zv18, zv19, zv20, zv21, zv22, zv23, zv24] at *; omega) | (intro hg; (try simp only [reduceCtorEq, ints_len, bools_len, bif_t, bif_f, zv0, zv1, zv2, zv3, zv4, zv5, zv6, zv7, zv8, zv9, zv10, zv11, zv12, zv13, zv14, zv15, zv16, zv17, zv18, zv19, zv20, zv21, zv22, zv23, zv24] at hg); first | (with_reducible assumption) | omega | (simp only [reduceCtorEq, ints_len, bools_len, bif_t, bif_f, zv0, zv1, zv2, zv3, zv4, zv5, zv6, zv7, zv8, zv9, zv10, zv11, zv12, zv13, zv14, zv15, zv16, zv17, zv18, zv19, zv20, zv21, zv22, zv23, zv24] at *; omega) | (refine ⟨?_, ?_⟩ <;> omega)) | (refine ⟨?_, ?_⟩ <;> omega) | (simp [*]; done) | grind)); (conv => whnf))
                refine ⟨l.length - (q + 1 + (j + 1 + 1)), by omega, [], ?_⟩
                conv => whnf
                refine ⟨j + 1 + 1, k, Q, by omega, by omega, rfl, hQ, ?_, by omega, ?_, hD2, rfl⟩
                · rw [show q + 1 + (j + 1 + 1) = q + 1 + (j + 1) + 1 by omega, hcx]; exact hk
                · rw [show q + 1 + (j + 1 + 1) = q + 1 + (j + 1) + 1 by omega, hcx]; exact hT
            · have hlj : q + 1 + j = l.length := by omega
              have hcut : ∀ X : List (List D), ((Q.map inC).take k ++ X).take k = (comp l).map inC := by
                intro X
                rw [List.take_left' (by rw [List.length_take, map_len]; omega), ← List.map_take, hT, hlj]; rfl
              refine ⟨⟨by omega, by rw [map_len]; omega, by omega⟩, ?_⟩
              conv => whnf
              refine ⟨⟨by omega, by omega, ?_⟩, ?_⟩
              · simp only [List.length_append, List.length_take, map_len]; omega
              conv => whnf
              refine ⟨[.trim 2], ?_⟩
              conv => whnf
              refine ⟨[0, 1], by simp, .cons ⟨_, rfl, rfl, ?_⟩ (.cons ⟨_, rfl, rfl, trivial⟩ .nil), rfl⟩
              rw [Int.toNat_natCast, Int.toNat_zero, Nat.sub_zero, List.drop_zero, List.append_assoc]
              exact hcut _
        · (refine And.intro ?_ ?_; ((first | (with_reducible assumption) | (intro _; with_reducible assumption) | omega | (simp only [reduceCtorEq, ints_len, bools_len, bif_t, bif_f, zv0, zv1, zv2, zv3, zv4, zv5, zv6, zv7, zv8, zv9, zv10, zv11, zv12, zv13, zv14, zv15, zv16, zv17, zv18, zv19, zv20, zv21, zv22, zv23, zv24] at *; omega) | (intro hg; (try simp only [reduceCtorEq, ints_len, bools_len, bif_t, bif_f, zv0, zv1, zv2, zv3, zv4, zv5, zv6, zv7, zv8, zv9, zv10, zv11, zv12, zv13, zv14, zv15, zv16, zv17, zv18, zv19, zv20, zv21, zv22, zv23, zv24] at hg); first | (with_reducible assumption) | omega | (simp only [reduceCtorEq, ints_len, bools_len, bif_t, bif_f, zv0, zv1, zv2, zv3, zv4, zv5, zv6, zv7, zv8, zv9, zv10, zv11, zv12, zv13, zv14, zv15, zv16, zv17, zv18, zv19, zv20, zv21, zv22, zv23, zv24] at *; omega) | (refine ⟨?_, ?_⟩ <;> omega)) | (refine ⟨?_, ?_⟩ <;> omega) | (simp [*]; done) | grind)); (conv => whnf))
          refine ⟨l.length - (q + 1 + 1), by omega, [], ?_⟩
          conv => whnf
          refine ⟨q + 1 + 1, by omega, by omega, rfl, ?_, rfl⟩
          intro j hj h0
          by_cases ej : j = q + 1
          · subst ej
            rw [gD_of hx, show q + 1 - 1 = q by omega, gD_of hy]; exact e
          · exact hd j (by omega) h0
      · have hi' : i = l.length := by omega
        have hc : comp l = l := by
          unfold comp
          rw [compTo_diff (Nat.le_refl _) (fun j hj h0 => hd j (by omega) h0), List.take_length]
        refine ⟨[], ?_⟩
        conv => whnf
        rw [hc]
        exact ⟨[0, 1], by simp, .cons ⟨_, rfl, rfl, rfl⟩ (.cons ⟨_, rfl, rfl, trivial⟩ .nil), rfl⟩
end Go.Proofs.YtahdihhhankhdaaGreat.V
-- Vshelf
namespace Go.Proofs
open Go.Shelf
def Tryz.lays189_ren : Go.Shelf.Ren := ⟨fun | 189 => 59 | 125 => 76 | 257 => 75 | 128 => 95 | 129 => 96 | 294 => 86 | 295 => 87 | 296 => 88 | 297 => 89 | 298 => 90 | 299 => 91 | 216 => 92 | 300 => 93 | 301 => 94 | 328 => 106 | 329 => 107 | 330 => 108 | 331 => 109 | 332 => 110 | 215 => 111 | 343 => 120 | n => n, fun | 28 => 22 | 3 => 3 | 46 => 117 | 0 => 0 | 51 => 138 | 53 => 140 | 4 => 4 | 183 => 131 | 182 => 130 | 131 => 135 | 5 => 5 | 9 => 9 | 218 => 148 | 222 => 152 | 228 => 168 | 229 => 120 | n => n, fun | n => n⟩
theorem Tryz.lays189 : Go.Proofs.Lays.n189 Tryz.prog Tryz.lays189_ren := {
  mixed := by kernel_rfl
  f125 := Tryz.func76.trans (congrArg some (by kernel_rfl))
  f128 := Tryz.func95.trans (congrArg some (by kernel_rfl))
  f129 := Tryz.func96.trans (congrArg some (by kernel_rfl))
  f189 := Tryz.func59.trans (congrArg some (by kernel_rfl))
  f215 := Tryz.func111.trans (congrArg some (by kernel_rfl))
  f216 := Tryz.func92.trans (congrArg some (by kernel_rfl))
  f257 := Tryz.func75.trans (congrArg some (by kernel_rfl))
  f294 := Tryz.func86.trans (congrArg some (by kernel_rfl))
  f295 := Tryz.func87.trans (congrArg some (by kernel_rfl))
  f296 := Tryz.func88.trans (congrArg some (by kernel_rfl))
  f297 := Tryz.func89.trans (congrArg some (by kernel_rfl))
  f298 := Tryz.func90.trans (congrArg some (by kernel_rfl))
  f299 := Tryz.func91.trans (congrArg some (by kernel_rfl))
  f300 := Tryz.func93.trans (congrArg some (by kernel_rfl))
  f301 := Tryz.func94.trans (congrArg some (by kernel_rfl))
  f328 := Tryz.func106.trans (congrArg some (by kernel_rfl))
  f329 := Tryz.func107.trans (congrArg some (by kernel_rfl))
  f330 := Tryz.func108.trans (congrArg some (by kernel_rfl))
  f331 := Tryz.func109.trans (congrArg some (by kernel_rfl))
  f332 := Tryz.func110.trans (congrArg some (by kernel_rfl))
  f343 := Tryz.func120.trans (congrArg some (by kernel_rfl))
  t0 := Tryz.underlying0
  a0 := Tryz.isAgg0
  z0 := Tryz.sizeOf0
  v0 := Tryz.zeroValue0
  t3 := Tryz.underlying3
  a3 := Tryz.isAgg3
  z3 := Tryz.sizeOf3
  v3 := Tryz.zeroValue3
  t4 := Tryz.underlying4
  a4 := Tryz.isAgg4
  z4 := Tryz.sizeOf4
  v4 := Tryz.zeroValue4
  t5 := Tryz.underlying5
  a5 := Tryz.isAgg5
  z5 := Tryz.sizeOf5
  v5 := Tryz.zeroValue5
  t9 := Tryz.underlying9
  a9 := Tryz.isAgg9
  z9 := Tryz.sizeOf9
  v9 := Tryz.zeroValue9
  t28 := Tryz.underlying22
  a28 := Tryz.isAgg22
  z28 := Tryz.sizeOf22
  v28 := Tryz.zeroValue22
  t46 := Tryz.underlying117
  a46 := Tryz.isAgg117
  z46 := Tryz.sizeOf117
  v46 := Tryz.zeroValue117
  t51 := Tryz.underlying138
  a51 := Tryz.isAgg138
  z51 := Tryz.sizeOf138
  v51 := Tryz.zeroValue138
  t53 := Tryz.underlying140
  a53 := Tryz.isAgg140
  z53 := Tryz.sizeOf140
  v53 := Tryz.zeroValue140
  t131 := Tryz.underlying135
  a131 := Tryz.isAgg135
  z131 := Tryz.sizeOf135
  v131 := Tryz.zeroValue135
  t182 := Tryz.underlying130
  a182 := Tryz.isAgg130
  z182 := Tryz.sizeOf130
  v182 := Tryz.zeroValue130
  t183 := Tryz.underlying131
  a183 := Tryz.isAgg131
  z183 := Tryz.sizeOf131
  v183 := Tryz.zeroValue131
  t218 := Tryz.underlying148
  a218 := Tryz.isAgg148
  z218 := Tryz.sizeOf148
  v218 := Tryz.zeroValue148
  t222 := Tryz.underlying152
  a222 := Tryz.isAgg152
  z222 := Tryz.sizeOf152
  v222 := Tryz.zeroValue152
  t228 := Tryz.underlying168
  a228 := Tryz.isAgg168
  z228 := Tryz.sizeOf168
  v228 := Tryz.zeroValue168
  t229 := Tryz.underlying120
  a229 := Tryz.isAgg120
  z229 := Tryz.sizeOf120
  v229 := Tryz.zeroValue120 }
open Go.Sort Go.RowKit in
theorem Tryz.slices_Sort_int (blk off cap : Nat) (zs : List Int) (w : World) (hH : Holds (Value.int .i64) w blk off zs.toArray) (hblk : blk < w.heap.size) (hsz : zs.length < 4611686018427387904) :
    Calls Tryz.prog 59 #[.slice (some ⟨blk, off, none⟩) zs.length cap] w fun e w' =>
      e = .returned (.tuple #[]) ∧ ∃ n os, w' = grow (putRow (Value.int .i64) (Sort.ahead w n) blk off (zs.mergeSort fun x y => decide (x ≤ y)).toArray) os := Any.slices_Sort_int Tryz.lays189 blk off cap zs w hH hblk hsz
open Go.RowKit Go.Sort in
/-- .. and plain. (LAID: no walk: one application.) -/
theorem Tryz.slices_Sort_int_none (p : Option Addr) (cap : Nat) (w : World) :
    Calls Tryz.prog 59 #[.slice p 0 cap] w fun e w' => e = .returned (.tuple #[]) ∧ w' = w := Any.slices_Sort_int_none Tryz.lays189 p cap w
end Go.Proofs
