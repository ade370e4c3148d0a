/-
  V: contracts of functions, texts of the session's own hand, in one file.
-/
import Derived.Test.YtphmcgmblkbijaaVy17
import Derived.Test.YtphmcgmblkbijaaProg
import Derived.KernelRfl
import Derived.Shelf.SlSortCmp.WholeK
import Derived.Ground.SlsfProg
import Derived.Shelf.Sort.Plain
import Derived.Ground.Names2Prog
import Derived.Shelf.Slices.In.SortNone
import Derived.Sort.Grow
set_option linter.unusedVariables false
set_option linter.unusedSimpArgs false
set_option maxRecDepth 100000
set_option linter.all false
set_option linter.unnecessarySimpa false
set_option linter.deprecated false
-- Vh
namespace Go.Proofs.Ytphmcgmblkbijaa.V
open Go.Proofs.YtphmcgmblkbijaaVY Go.RowKit
def ty : List (Nat × TI) := [
  (1, ⟨.sca none, 1, [(C.d (.val .nilFunc))]⟩),
  (2, ⟨.sca (some .i64), 1, [(C.d (.int .i64 0))]⟩),
  (3, ⟨.sca (some .i64), 1, [(C.d (.int .i64 0))]⟩),
  (4, ⟨.bool, 1, [(C.d (.bool false))]⟩),
  (5, ⟨.sca (some .u8), 1, [(C.d (.int .u8 0))]⟩),
  (6, ⟨.sca (some .u8), 1, [(C.d (.int .u8 0))]⟩),
  (7, ⟨.agg [(0, 1, false), (1, 1, false), (2, 1, false), (3, 1, false)], 4, [(C.d (.int .i64 0)), (C.d (.int .i64 0)), (C.d (.bool false)), (C.d (.int .u8 0))]⟩),
  (8, ⟨.agg [(0, 1, false), (1, 1, false), (2, 1, false), (3, 1, false)], 4, [(C.d (.int .i64 0)), (C.d (.int .i64 0)), (C.d (.bool false)), (C.d (.int .u8 0))]⟩),
  (9, ⟨.str, 1, [(C.d (.str ByteArray.empty))]⟩),
  (10, ⟨.str, 1, [(C.d (.str ByteArray.empty))]⟩),
  (11, ⟨.str, 1, [(C.d (.str ByteArray.empty))]⟩),
  (12, ⟨.sca (some .u64), 1, [(C.d (.int .u64 0))]⟩),
  (13, ⟨.agg [(0, 1, false), (1, 1, false)], 2, [(C.d (.str ByteArray.empty)), (C.d (.int .u64 0))]⟩),
  (14, ⟨.agg [(0, 1, false), (1, 1, false)], 2, [(C.d (.str ByteArray.empty)), (C.d (.int .u64 0))]⟩),
  (15, ⟨.ptr, 1, [(C.d (.val (.pointer none)))]⟩),
  (16, ⟨.ptr, 1, [(C.d (.val (.pointer none)))]⟩),
  (17, ⟨.ptr, 1, [(C.d (.val (.pointer none)))]⟩),
  (18, ⟨.agg [(0, 1, false)], 1, [(C.d (.val (.pointer none)))]⟩),
  (19, ⟨.agg [(0, 1, false)], 1, [(C.d (.val (.pointer none)))]⟩),
  (20, ⟨.sca none, 1, [(C.d (.val .nilIface))]⟩),
  (21, ⟨.sca (some .i32), 1, [(C.d (.int .i32 0))]⟩),
  (22, ⟨.sl 3 1 8 [(.int .i64 0)], 1, [(.emp 1)]⟩),
  (23, ⟨.sl 68 11 160 [(.int .i64 0), (.int .i64 0), (D.sl 1 []), (D.sl 7 []), (.str ByteArray.empty), (.int .i64 0), (.int .i64 0), (.int .i64 0), (.int .i64 0), (D.sl 1 []), (D.sl 7 [])], 1, [(.emp 11)]⟩),
  (24, ⟨.agg [(0, 1, false), (1, 1, false)], 2, [(.emp 1), (.emp 11)]⟩),
  (25, ⟨.agg [(0, 1, false), (1, 1, false)], 2, [(.emp 1), (.emp 11)]⟩),
  (26, ⟨.sca none, 1, [(C.d (.val .nilFunc))]⟩),
  (27, ⟨.sca none, 1, [(C.d (.val .nilFunc))]⟩),
  (28, ⟨.sca (some .i64), 1, [(C.d (.int .i64 0))]⟩),
  (30, ⟨.sca none, 1, [(C.d (.val .nilFunc))]⟩),
  (32, ⟨.sca none, 1, [(C.d (.val .nilFunc))]⟩),
  (33, ⟨.sca none, 1, [(C.d (.val .nilFunc))]⟩),
  (34, ⟨.sca none, 1, [(C.d (.val .nilFunc))]⟩),
  (35, ⟨.sca none, 1, [(C.d (.val .nilFunc))]⟩),
  (36, ⟨.sl 42 4 64 [(.int .i64 0), (.int .i64 0), (D.sl 1 []), (D.sl 1 [])], 1, [(.emp 4)]⟩),
  (38, ⟨.ptr, 1, [(C.d (.val (.pointer none)))]⟩),
  (42, ⟨.agg [(0, 1, false), (1, 1, false), (2, 1, false), (3, 1, false)], 4, [(C.d (.int .i64 0)), (C.d (.int .i64 0)), (.emp 1), (.emp 1)]⟩),
  (47, ⟨.map (C.d (.int .i64 0)), 1, [.junk]⟩),
  (51, ⟨.ptr, 1, [(C.d (.val (.pointer none)))]⟩),
  (63, ⟨.agg [(0, 1, false), (1, 1, false), (2, 1, false)], 3, [(C.d (.int .i64 0)), (C.d (.int .i64 0)), (.emp 1)]⟩),
  (64, ⟨.sl 66 7 96 [(.str ByteArray.empty), (.int .i64 0), (.int .i64 0), (.int .i64 0), (.int .i64 0), (D.sl 1 []), (D.sl 7 [])], 1, [(.emp 7)]⟩),
  (66, ⟨.agg [(0, 1, false), (1, 1, false), (2, 1, false), (3, 3, true), (6, 1, false)], 7, [(C.d (.str ByteArray.empty)), (C.d (.int .i64 0)), (C.d (.int .i64 0)), (C.d (.int .i64 0)), (C.d (.int .i64 0)), (.emp 1), (.emp 7)]⟩),
  (68, ⟨.agg [(0, 3, true), (3, 1, false), (4, 7, true)], 11, [(C.d (.int .i64 0)), (C.d (.int .i64 0)), (.emp 1), (.emp 7), (C.d (.str ByteArray.empty)), (C.d (.int .i64 0)), (C.d (.int .i64 0)), (C.d (.int .i64 0)), (C.d (.int .i64 0)), (.emp 1), (.emp 7)]⟩),
  (72, ⟨.sl 74 2 16 [(.int .i64 0), (.int .i64 0)], 1, [(.emp 2)]⟩),
  (74, ⟨.arr 2 1 false, 2, [(C.d (.int .i64 0)), (C.d (.int .i64 0))]⟩),
  (75, ⟨.sl 4 1 1 [(.bool false)], 1, [(.emp 1)]⟩),
  (80, ⟨.agg [(0, 1, false), (1, 1, false)], 2, [(C.d (.int .i64 0)), (.emp 1)]⟩),
  (81, ⟨.sl 80 2 32 [(.int .i64 0), (D.sl 1 [])], 1, [(.emp 2)]⟩),
  (82, ⟨.map (C.d (.bool false)), 1, [.junk]⟩),
  (84, ⟨.agg [(0, 1, false), (1, 1, false)], 2, [(.emp 2), .junk]⟩),
  (85, ⟨.sca none, 1, [(C.d (.val .nilFunc))]⟩),
  (86, ⟨.map (.emp 4), 1, [.junk]⟩),
  (87, ⟨.sl 89 4 32 [(.int .i64 0), (.int .i64 0), (.int .i64 0), (.int .i64 0)], 1, [(.emp 4)]⟩),
  (89, ⟨.agg [(0, 1, false), (1, 1, false), (2, 1, false), (3, 1, false)], 4, [(C.d (.int .i64 0)), (C.d (.int .i64 0)), (C.d (.int .i64 0)), (C.d (.int .i64 0))]⟩),
  (92, ⟨.sca none, 1, [(C.d (.val .nilFunc))]⟩),
  (93, ⟨.sl 22 1 24 [(D.sl 1 [])], 1, [(.emp 1)]⟩),
  (95, ⟨.agg [(0, 1, false), (1, 1, false), (2, 1, false)], 3, [(.emp 1), (.emp 1), .junk]⟩),
  (102, ⟨.sl 63 3 40 [(.int .i64 0), (.int .i64 0), (D.sl 1 [])], 1, [(.emp 3)]⟩),
  (104, ⟨.sca none, 1, [(C.d (.val .nilFunc))]⟩),
  (109, ⟨.sca none, 1, [(C.d (.val .nilFunc))]⟩),
  (114, ⟨.sca none, 1, [(C.d (.val .nilFunc))]⟩),
  (120, ⟨.agg [(0, 1, false), (1, 1, false)], 2, [(C.d (.int .i64 0)), (C.d (.int .i64 0))]⟩),
  (124, ⟨.sca (some .u64), 1, [(C.d (.int .u64 0))]⟩),
  (133, ⟨.sca none, 1, [(C.d (.val .nilFunc))]⟩),
  (134, ⟨.sca none, 1, [(C.d (.val .nilFunc))]⟩),
  (137, ⟨.map (.emp 1), 1, [.junk]⟩),
  (144, ⟨.sca (some .i64), 1, [(C.d (.int .i64 0))]⟩),
  (153, ⟨.sca (some .u32), 1, [(C.d (.int .u32 0))]⟩),
  (155, ⟨.sca (some .u64), 1, [(C.d (.int .u64 0))]⟩),
  (166, ⟨.sca (some .u64), 1, [(C.d (.int .u64 0))]⟩),
  (170, ⟨.ptr, 1, [(C.d (.val (.pointer none)))]⟩),
  (178, ⟨.ptr, 1, [(C.d (.val (.pointer none)))]⟩)]
theorem tyOk : (ty.all fun x => chkTI Try.prog x.1 x.2) = true := by kernel_rfl
theorem mix : Try.prog.follows .mixedOrders = true := by kernel_rfl
/-! the rules by which conditions are read, under short names -/
abbrev zv0 := @Bool.not_false
abbrev zv1 := @Bool.not_true
abbrev zv2 := @List.length_map
abbrev zv3 := @decide_eq_true_eq
abbrev zv4 := @decide_eq_false_iff_not
abbrev zv5 := @Bool.not_eq_true'
abbrev zv6 := @Bool.not_eq_false'
abbrev zv7 := @Bool.and_eq_true
abbrev zv8 := @Bool.or_eq_true
abbrev zv9 := @Bool.and_eq_false_iff
abbrev zv10 := @Bool.or_eq_false_iff
abbrev zv11 := @beq_iff_eq
abbrev zv12 := @bne_iff_ne
abbrev zv13 := @beq_eq_false_iff_ne
abbrev zv14 := @bne_eq_false_iff_eq
abbrev zv15 := @Int.not_lt
abbrev zv16 := @Int.not_le
abbrev zv17 := @ge_iff_le
abbrev zv18 := @gt_iff_lt
abbrev zv19 := @not_or
abbrev zv20 := @not_and
abbrev zv21 := @Bool.cond_true_right
abbrev zv22 := @Bool.cond_true_left
abbrev zv23 := @Bool.cond_false_right
abbrev zv24 := @Bool.cond_false_left
theorem bif_t (c a b : Bool) : ((bif c then a else b) = true) = ((c = true ∧ a = true) ∨ (c = false ∧ b = true)) := by cases c <;> simp
theorem bif_f (c a b : Bool) : ((bif c then a else b) = false) = ((c = true ∧ a = false) ∨ (c = false ∧ b = false)) := by cases c <;> simp
/-- ints, bools, as rows -/
def ints (l : List Int) : List (List D) := l.map fun n => [.int .i64 n]
def bools (l : List Bool) : List (List D) := l.map fun b => [.bool b]
theorem ints_len (l : List Int) : (ints l).length = l.length := by simp [ints]
theorem bools_len (l : List Bool) : (bools l).length = l.length := by simp [bools]
theorem ints_get {l : List Int} {i : Int} (h : 0 ≤ i) (h' : i < l.length) : (ints l)[i.toNat]? = some [.int .i64 (l.getD i.toNat 0)] := by
  have : i.toNat < l.length := by omega
  simp [ints, this]
theorem bools_get {l : List Bool} {i : Int} (h : 0 ≤ i) (h' : i < l.length) : (bools l)[i.toNat]? = some [.bool (l.getD i.toNat false)] := by
  have : i.toNat < l.length := by omega
  simp [bools, this]
theorem ints_snoc (l : List Int) (v : Int) : ints l ++ [[.int .i64 v]] = ints (l ++ [v]) := by simp [ints]
theorem ints_app (l m : List Int) : ints l ++ ints m = ints (l ++ m) := by simp [ints]
theorem ints_nil : ints [] = [] := rfl
theorem ints_set (l : List Int) (i : Nat) (v : Int) : (ints l).set i [.int .i64 v] = ints (l.set i v) := by simp [ints, List.map_set]
theorem ints_take (l : List Int) (i : Nat) : (ints l).take i = ints (l.take i) := by simp [ints]
theorem ints_drop (l : List Int) (i : Nat) : (ints l).drop i = ints (l.drop i) := by simp [ints]
theorem ints_free (l : List Int) : ∀ e ∈ ints l, ∀ x ∈ e, nslB x = true := by
  intro e he x hx
  simp only [ints, List.mem_map] at he
  obtain ⟨n, _, rfl⟩ := he
  simp at hx; subst hx; rfl
/-- captured by value, or only read -/
def capFree : Cap → Bool
  | .pel _ | .d _ | .fn0 _ | .junk => true
  | _ => false
theorem lendCaps_id {hp : List Reg} {hs : List Nat} {em : Bool} {caps : List Cap} : ∀ {k : List Cap → Lt → Prop}, caps.all capFree = true → k caps [] → lendCaps hp hs em caps k := by
  induction caps with
  | nil => intro k _ hk; exact hk
  | cons c cs ih =>
    intro k h hk
    simp only [List.all_cons, Bool.and_eq_true] at h
    obtain ⟨h1, h2⟩ := h
    cases c <;> first | exact ih h2 hk | (cases h1; done)
theorem under_fn {f n : Nat} {caps : List Cap} (h : caps.all capFree = true) : S.under n (S.one (C.fn f caps)) = true := by
  show caps.all (Cap.under n) = true
  rw [List.all_eq_true] at h ⊢
  intro c hc
  have := h c hc
  cases c <;> first | rfl | (cases this; done)
theorem findF_self {f : Nat} {R : Ct} {l : List (Nat × Ct)} : findF ((f, R) :: l) f = some R := by
  show (match Nat.beq f f with | true => some R | false => findF l f) = some R
  rw [Nat.beq_refl]
def idx {α : Type} (p : α → Bool) : List α → Int
  | [] => -1
  | x :: l => if p x then 0 else if idx p l < 0 then -1 else idx p l + 1
theorem idx_nn {α : Type} (p : α → Bool) : ∀ l : List α, idx p l = -1 ∨ 0 ≤ idx p l
  | [] => .inl rfl
  | x :: l => by
    unfold idx
    rcases idx_nn p l with h | h <;> split <;> simp_all <;> (try omega)
theorem idx_any {α : Type} (p : α → Bool) : ∀ l : List α, decide (0 ≤ idx p l) = l.any p
  | [] => rfl
  | x :: l => by
    have := idx_any p l
    have h2 := idx_nn p l
    unfold idx
    rw [List.any_cons, ← this]
    by_cases hx : p x = true
    · simp [hx]
    · have hx' : p x = false := by simpa using hx
      rw [hx']
      simp only [Bool.false_eq_true, if_false, Bool.false_or]
      rcases h2 with h | h
      · rw [h]; simp
      · rw [if_neg (by omega)]
        simp only [decide_eq_decide]; omega
theorem idx_at {α : Type} {p : α → Bool} {l : List α} {i : Nat} {x : α} (hx : l[i]? = some x) (hp : p x = true) (hb : ∀ j < i, ∀ y, l[j]? = some y → p y = false) : idx p l = i := by
  induction l generalizing i with
  | nil => simp at hx
  | cons y l ih =>
    unfold idx
    cases i with
    | zero => simp at hx; subst hx; simp [hp]
    | succ i =>
      have h0 := hb 0 (by omega) y (by simp)
      have := ih (i := i) (by simpa using hx) fun j hj z hz => hb (j + 1) (by omega) z (by simpa using hz)
      rw [if_neg (by simp [h0]), this, if_neg (by omega)]
      push_cast; rfl
theorem idx_none {α : Type} {p : α → Bool} {l : List α} (hb : ∀ y ∈ l, p y = false) : idx p l = -1 := by
  induction l with
  | nil => rfl
  | cons y l ih =>
    unfold idx
    rw [if_neg (by simp [hb y (List.mem_cons_self ..)]), ih fun z hz => hb z (List.mem_cons_of_mem _ hz)]
    simp
/-! what the programs' types read as -/
structure Ref where
  arr : Int
  base : Int
  str : List Int
def Ref.c (r : Ref) : List D := [.int .i64 r.arr, .int .i64 r.base, .sl 1 (ints r.str)]
inductive Tree where
  | mk (op : ByteArray) (kind n : Int) (ref : Ref) (kids : List Tree)
mutual
def Tree.c : Tree → List D
  | .mk op kind n ref kids => [.str op, .int .i64 kind, .int .i64 n, .int .i64 ref.arr, .int .i64 ref.base, .sl 1 (ints ref.str), .sl 7 (treesC kids)]
def treesC : List Tree → List (List D)
  | [] => []
  | t :: l => t.c :: treesC l
end
theorem treesC_map : ∀ l : List Tree, treesC l = l.map Tree.c
  | [] => rfl
  | t :: l => by rw [treesC, treesC_map l]; rfl
structure ASet where
  to : Ref
  mask : List Tree
  val : Tree
def ASet.c (s : ASet) : List D := s.to.c ++ [.sl 7 (s.mask.map Tree.c)] ++ s.val.c
structure Kern where
  ext : List Int
  sets : List ASet
def Kern.c (k : Kern) : List D := [.sl 1 (ints k.ext), .sl 11 (k.sets.map ASet.c)]
def prC (p : Int × Int) : List D := [.int .i64 p.1, .int .i64 p.2]
abbrev inC (n : Int) : List D := [.int .i64 n]
abbrev boC (b : Bool) : List D := [.bool b]
theorem enc_get {α : Type} {enc : α → List D} {l : List α} {i : Nat} {x : α} (h : l[i]? = some x) : (l.map enc)[(i : Int).toNat]? = some (enc x) := by
  rw [show (i : Int).toNat = i from rfl, List.getElem?_map, h]; rfl
theorem get_lt {α : Type} {l : List α} {i : Nat} (h : i < l.length) : ∃ x, l[i]? = some x := ⟨l[i], by simp [h]⟩
theorem map_len {α : Type} {enc : α → List D} (l : List α) : (l.map enc).length = l.length := List.length_map ..

end Go.Proofs.Ytphmcgmblkbijaa.V
-- Va
namespace Go.Proofs.Ytphmcgmblkbijaa.V
open Go.Proofs.YtphmcgmblkbijaaVY Go.RowKit
def R89 : Ct := fun ss hp r out => ∃ n : Int, ss = [.di .i64 n] ∧ hp = [] ∧ r = .db (decide (n < 0 ∨ 400 < n)) ∧ out = []
set_option maxHeartbeats 4000000 in
theorem ok89 : VSound Try.prog (89, R89) := by
  refine vsound (T := ty) (F := []) (pl := []) (nw := true) (cuts := []) mix tyOk .nil Try.func89 (by kernel_rfl) (by kernel_rfl) ?_
  rintro _ _ _ _ ⟨n, rfl, rfl, rfl, rfl⟩
  conv => whnf
  (repeat' (first | ((with_reducible refine And.intro (fun (e : (_ : Bool) = true) => ?_) (fun (e : (_ : Bool) = false) => ?_)) <;> (try simp only [reduceCtorEq, ints_len, bools_len, bif_t, bif_f, zv0, zv1, zv2, zv3, zv4, zv5, zv6, zv7, zv8, zv9, zv10, zv11, zv12, zv13, zv14, zv15, zv16, zv17, zv18, zv19, zv20, zv21, zv22, zv23, zv24] at e) <;> (conv => whnf)) | (refine And.intro ?_ ?_; ((first | (with_reducible assumption) | (intro _; with_reducible assumption) | omega | (simp only [reduceCtorEq, ints_len, bools_len, bif_t, bif_f, zv0, zv1, zv2, zv3, zv4, zv5, zv6, zv7, zv8, zv9, zv10, zv11, zv12, zv13, zv14, zv15, zv16, zv17, zv18, zv19, zv20, zv21, zv22, zv23, zv24] at *; omega) | (intro hg; (try simp only [reduceCtorEq, ints_len, bools_len, bif_t, bif_f, zv0, zv1, zv2, zv3, zv4, zv5, zv6, zv7, zv8, zv9, zv10, zv11, zv12, zv13, zv14, zv15, zv16, zv17, zv18, zv19, zv20, zv21, zv22, zv23, zv24] at hg); first | (with_reducible assumption) | omega | (simp only [reduceCtorEq, ints_len, bools_len, bif_t, bif_f, zv0, zv1, zv2, zv3, zv4, zv5, zv6, zv7, zv8, zv9, zv10, zv11, zv12, zv13, zv14, zv15, zv16, zv17, zv18, zv19, zv20, zv21, zv22, zv23, zv24] at *; omega) | (refine ⟨?_, ?_⟩ <;> omega)) | (refine ⟨?_, ?_⟩ <;> omega) | (simp [*]; done) | grind)); (conv => whnf))))
  (refine ⟨[], ?_⟩; (conv => whnf); refine ⟨[], .nil, .nil, ?_⟩; (conv => whnf))
  congr 1
  simp only [reduceCtorEq, ints_len, bools_len, bif_t, bif_f, zv0, zv1, zv2, zv3, zv4, zv5, zv6, zv7, zv8, zv9, zv10, zv11, zv12, zv13, zv14, zv15, zv16, zv17, zv18, zv19, zv20, zv21, zv22, zv23, zv24]
  grind
def R92 : Ct := fun ss hp r out => ∃ n : Int, ss = [.di .i64 n] ∧ hp = [] ∧ r = .db (decide (-1000000 ≤ n ∧ n ≤ 1000000)) ∧ out = []
set_option maxHeartbeats 4000000 in
theorem ok92 : VSound Try.prog (92, R92) := by
  refine vsound (T := ty) (F := []) (pl := []) (nw := true) (cuts := []) mix tyOk .nil Try.func92 (by kernel_rfl) (by kernel_rfl) ?_
  rintro _ _ _ _ ⟨n, rfl, rfl, rfl, rfl⟩
  conv => whnf
  (repeat' (first | ((with_reducible refine And.intro (fun (e : (_ : Bool) = true) => ?_) (fun (e : (_ : Bool) = false) => ?_)) <;> (try simp only [reduceCtorEq, ints_len, bools_len, bif_t, bif_f, zv0, zv1, zv2, zv3, zv4, zv5, zv6, zv7, zv8, zv9, zv10, zv11, zv12, zv13, zv14, zv15, zv16, zv17, zv18, zv19, zv20, zv21, zv22, zv23, zv24] at e) <;> (conv => whnf)) | (refine And.intro ?_ ?_; ((first | (with_reducible assumption) | (intro _; with_reducible assumption) | omega | (simp only [reduceCtorEq, ints_len, bools_len, bif_t, bif_f, zv0, zv1, zv2, zv3, zv4, zv5, zv6, zv7, zv8, zv9, zv10, zv11, zv12, zv13, zv14, zv15, zv16, zv17, zv18, zv19, zv20, zv21, zv22, zv23, zv24] at *; omega) | (intro hg; (try simp only [reduceCtorEq, ints_len, bools_len, bif_t, bif_f, zv0, zv1, zv2, zv3, zv4, zv5, zv6, zv7, zv8, zv9, zv10, zv11, zv12, zv13, zv14, zv15, zv16, zv17, zv18, zv19, zv20, zv21, zv22, zv23, zv24] at hg); first | (with_reducible assumption) | omega | (simp only [reduceCtorEq, ints_len, bools_len, bif_t, bif_f, zv0, zv1, zv2, zv3, zv4, zv5, zv6, zv7, zv8, zv9, zv10, zv11, zv12, zv13, zv14, zv15, zv16, zv17, zv18, zv19, zv20, zv21, zv22, zv23, zv24] at *; omega) | (refine ⟨?_, ?_⟩ <;> omega)) | (refine ⟨?_, ?_⟩ <;> omega) | (simp [*]; done) | grind)); (conv => whnf))))
  (refine ⟨[], ?_⟩; (conv => whnf); refine ⟨[], .nil, .nil, ?_⟩; (conv => whnf))
  congr 1
  grind
def R93 : Ct := fun ss hp r out => ∃ n : Int, ss = [.di .i64 n] ∧ hp = [] ∧ r = .db (!decide (-1000000 ≤ n ∧ n ≤ 1000000)) ∧ out = []
set_option maxHeartbeats 4000000 in
theorem ok93 : VSound Try.prog (93, R93) := by
  refine vsound (T := ty) (F := [(92, R92)]) (pl := []) (nw := true) (cuts := []) mix tyOk (.cons (ok92) .nil) Try.func93 (by kernel_rfl) (by kernel_rfl) ?_
  rintro _ _ _ _ ⟨n, rfl, rfl, rfl, rfl⟩
  conv => whnf
  refine ⟨[], false, false, ?_⟩
  conv => whnf
  refine ⟨_, _, ⟨_, rfl, rfl, rfl, rfl⟩, ?_⟩
  conv => whnf
  (repeat' (first | ((with_reducible refine And.intro (fun (e : (_ : Bool) = true) => ?_) (fun (e : (_ : Bool) = false) => ?_)) <;> (try simp only [reduceCtorEq, ints_len, bools_len, bif_t, bif_f, zv0, zv1, zv2, zv3, zv4, zv5, zv6, zv7, zv8, zv9, zv10, zv11, zv12, zv13, zv14, zv15, zv16, zv17, zv18, zv19, zv20, zv21, zv22, zv23, zv24] at e) <;> (conv => whnf)) | (refine And.intro ?_ ?_; ((first | (with_reducible assumption) | (intro _; with_reducible assumption) | omega | (simp only [reduceCtorEq, ints_len, bools_len, bif_t, bif_f, zv0, zv1, zv2, zv3, zv4, zv5, zv6, zv7, zv8, zv9, zv10, zv11, zv12, zv13, zv14, zv15, zv16, zv17, zv18, zv19, zv20, zv21, zv22, zv23, zv24] at *; omega) | (intro hg; (try simp only [reduceCtorEq, ints_len, bools_len, bif_t, bif_f, zv0, zv1, zv2, zv3, zv4, zv5, zv6, zv7, zv8, zv9, zv10, zv11, zv12, zv13, zv14, zv15, zv16, zv17, zv18, zv19, zv20, zv21, zv22, zv23, zv24] at hg); first | (with_reducible assumption) | omega | (simp only [reduceCtorEq, ints_len, bools_len, bif_t, bif_f, zv0, zv1, zv2, zv3, zv4, zv5, zv6, zv7, zv8, zv9, zv10, zv11, zv12, zv13, zv14, zv15, zv16, zv17, zv18, zv19, zv20, zv21, zv22, zv23, zv24] at *; omega) | (refine ⟨?_, ?_⟩ <;> omega)) | (refine ⟨?_, ?_⟩ <;> omega) | (simp [*]; done) | grind)); (conv => whnf))))
  (refine ⟨[], ?_⟩; (conv => whnf); refine ⟨[], .nil, .nil, ?_⟩; (conv => whnf))
end Go.Proofs.Ytphmcgmblkbijaa.V
-- Vb
namespace Go.Proofs.Ytphmcgmblkbijaa.V
open Go.Proofs.YtphmcgmblkbijaaVY Go.RowKit
def R108 (f : Nat) (Rf : Ct) : Ct := fun ss hp r out => ∃ (l : List Int) (caps : List Cap) (p : Int → Bool), ss = [.one (.d (.sl 1 (l.map inC))), .one (.fn f caps)] ∧ hp = [] ∧ l.length < 4611686018427387904 ∧ caps.all capFree = true ∧ (∀ x ∈ l, Rf (.di .i64 x :: caps.map fun c => .one c.toC) [] (.db (p x)) []) ∧ r = .di .i64 (idx p l) ∧ out = []
set_option maxHeartbeats 4000000 in
theorem ok108 (f : Nat) (Rf : Ct) (hf : VSound Try.prog (f, Rf)) : VSound Try.prog (108, R108 f Rf) := by
  refine vsound (T := ty) (F := [(f, Rf)]) (pl := []) (nw := true) (cuts := []) mix tyOk (.cons (hf) .nil) Try.func108 (by kernel_rfl) (by kernel_rfl) ?_
  rintro _ _ _ _ ⟨l, caps, p, rfl, rfl, hl, hc, hp, rfl, rfl⟩
  conv => whnf
  refine ⟨[], [0, 1, 7, 8], 0, fun n σ => ∃ i : Nat, i ≤ l.length ∧ n = l.length - i ∧ (∀ j < i, ∀ y, l[j]? = some y → p y = false) ∧ σ = (⟨[.one (.d (.sl 1 (l.map inC))), .one (.fn f caps), .junk, .junk, .junk, .junk, .junk, .di .i64 l.length, .di .i64 i, .junk, .junk, .junk, .junk, .junk, .junk, .junk, .junk, .junk, .junk], []⟩ : St), ?_, ?_⟩
  · refine ⟨l.length, ?_⟩
    conv => whnf
    rw [under_fn hc]
    conv => whnf
    exact ⟨0, by omega, by omega, by omega, by rw [map_len]; rfl⟩
  · rintro n _ ⟨i, hi, rfl, hb, rfl⟩
    conv => whnf
    ((with_reducible refine And.intro (fun (e : (_ : Bool) = true) => ?_) (fun (e : (_ : Bool) = false) => ?_)) <;> (try simp only [reduceCtorEq, ints_len, bools_len, bif_t, bif_f, zv0, zv1, zv2, zv3, zv4, zv5, zv6, zv7, zv8, zv9, zv10, zv11, zv12, zv13, zv14, zv15, zv16, zv17, zv18, zv19, zv20, zv21, zv22, zv23, zv24] at e) <;> (conv => whnf))
    · have hlt : i < l.length := by omega
      obtain ⟨x, hget⟩ := get_lt hlt
      refine ⟨_, And.intro ⟨?_, enc_get hget⟩ ?_⟩
      · omega
      obtain x := x
      conv => whnf
      rw [show (cx ty [(f, Rf)] []).fns f = some Rf from findF_self]
      conv => whnf
      refine ⟨[], false, false, ?_⟩
      conv => whnf
      refine lendCaps_id hc ?_
      conv => whnf
      refine ⟨_, _, hp _ (List.mem_of_getElem? hget), ?_⟩
      conv => whnf
      ((with_reducible refine And.intro (fun (e : (_ : Bool) = true) => ?_) (fun (e : (_ : Bool) = false) => ?_)) <;> (try simp only [reduceCtorEq, ints_len, bools_len, bif_t, bif_f, zv0, zv1, zv2, zv3, zv4, zv5, zv6, zv7, zv8, zv9, zv10, zv11, zv12, zv13, zv14, zv15, zv16, zv17, zv18, zv19, zv20, zv21, zv22, zv23, zv24] at e) <;> (conv => whnf))
      · (refine ⟨[], ?_⟩; (conv => whnf); refine ⟨[], .nil, .nil, ?_⟩; (conv => whnf))
        congr 1
        exact (idx_at hget e hb).symm
      · have he := e
        (refine And.intro ?_ ?_; ((first | (with_reducible assumption) | (intro _; with_reducible assumption) | omega | (simp only [reduceCtorEq, ints_len, bools_len, bif_t, bif_f, zv0, zv1, zv2, zv3, zv4, zv5, zv6, zv7, zv8, zv9, zv10, zv11, zv12, zv13, zv14, zv15, zv16, zv17, zv18, zv19, zv20, zv21, zv22, zv23, zv24] at *; omega) | (intro hg; (try simp only [reduceCtorEq, ints_len, bools_len, bif_t, bif_f, zv0, zv1, zv2, zv3, zv4, zv5, zv6, zv7, zv8, zv9, zv10, zv11, zv12, zv13, zv14, zv15, zv16, zv17, zv18, zv19, zv20, zv21, zv22, zv23, zv24] at hg); first | (with_reducible assumption) | omega | (simp only [reduceCtorEq, ints_len, bools_len, bif_t, bif_f, zv0, zv1, zv2, zv3, zv4, zv5, zv6, zv7, zv8, zv9, zv10, zv11, zv12, zv13, zv14, zv15, zv16, zv17, zv18, zv19, zv20, zv21, zv22, zv23, zv24] at *; omega) | (refine ⟨?_, ?_⟩ <;> omega)) | (refine ⟨?_, ?_⟩ <;> omega) | (simp [*]; done) | grind)); (conv => whnf))
        refine ⟨l.length - (i + 1), by omega, [], ?_⟩
        conv => whnf
        rw [under_fn hc]
        conv => whnf
        refine ⟨i + 1, by omega, rfl, fun j hj y hy => ?_, rfl⟩
        by_cases ej : j = i
        · subst ej; rw [hget] at hy; cases hy; exact he
        · exact hb j (by omega) y hy
    · (refine ⟨[], ?_⟩; (conv => whnf); refine ⟨[], .nil, .nil, ?_⟩; (conv => whnf))
      congr 1
      refine (idx_none fun y hy => ?_).symm
      obtain ⟨j, hj⟩ := List.getElem?_of_mem hy
      have := (List.getElem?_eq_some_iff.1 hj).1
      exact hb j (by omega) y hj
def R79 (f : Nat) (Rf : Ct) : Ct := fun ss hp r out => ∃ (l : List Int) (caps : List Cap) (p : Int → Bool), ss = [.one (.d (.sl 1 (l.map inC))), .one (.fn f caps)] ∧ hp = [] ∧ l.length < 4611686018427387904 ∧ caps.all capFree = true ∧ (∀ x ∈ l, Rf (.di .i64 x :: caps.map fun c => .one c.toC) [] (.db (p x)) []) ∧ r = .db (l.any p) ∧ out = []
set_option maxHeartbeats 4000000 in
theorem ok79 (f : Nat) (Rf : Ct) (hf : VSound Try.prog (f, Rf)) : VSound Try.prog (79, R79 f Rf) := by
  refine vsound (T := ty) (F := [(108, R108 f Rf)]) (pl := []) (nw := true) (cuts := []) mix tyOk (.cons (ok108 f Rf hf) .nil) Try.func79 (by kernel_rfl) (by kernel_rfl) ?_
  rintro _ _ _ _ ⟨l, caps, p, rfl, rfl, hl, hc, hp, rfl, rfl⟩
  conv => whnf
  refine ⟨[], false, false, ?_⟩
  conv => whnf
  refine lendCaps_id hc ?_
  conv => whnf
  refine ⟨_, _, ⟨l, caps, p, rfl, rfl, hl, hc, hp, rfl, rfl⟩, ?_⟩
  conv => whnf
  (refine ⟨[], ?_⟩; (conv => whnf); refine ⟨[], .nil, .nil, ?_⟩; (conv => whnf))
  congr 1
  exact idx_any p l
def R94 (f : Nat) (Rf : Ct) : Ct := fun ss hp r out => ∃ (l : List Ref) (caps : List Cap) (p : Ref → Bool), ss = [.one (.d (.sl 3 (l.map Ref.c))), .one (.fn f caps)] ∧ hp = [] ∧ l.length < 4611686018427387904 ∧ caps.all capFree = true ∧ (∀ x ∈ l, Rf (.v (.ag (x.c.map .d)) :: caps.map fun c => .one c.toC) [] (.db (p x)) []) ∧ r = .di .i64 (idx p l) ∧ out = []
set_option maxHeartbeats 4000000 in
theorem ok94 (f : Nat) (Rf : Ct) (hf : VSound Try.prog (f, Rf)) : VSound Try.prog (94, R94 f Rf) := by
  refine vsound (T := ty) (F := [(f, Rf)]) (pl := []) (nw := true) (cuts := []) mix tyOk (.cons (hf) .nil) Try.func94 (by kernel_rfl) (by kernel_rfl) ?_
  rintro _ _ _ _ ⟨l, caps, p, rfl, rfl, hl, hc, hp, rfl, rfl⟩
  conv => whnf
  refine ⟨[], [0, 1, 7, 8], 0, fun n σ => ∃ i : Nat, i ≤ l.length ∧ n = l.length - i ∧ (∀ j < i, ∀ y, l[j]? = some y → p y = false) ∧ σ = (⟨[.one (.d (.sl 3 (l.map Ref.c))), .one (.fn f caps), .junk, .junk, .junk, .junk, .junk, .di .i64 l.length, .di .i64 i, .junk, .junk, .junk, .junk, .junk, .junk, .junk, .junk, .junk, .junk], []⟩ : St), ?_, ?_⟩
  · refine ⟨l.length, ?_⟩
    conv => whnf
    rw [under_fn hc]
    conv => whnf
    exact ⟨0, by omega, by omega, by omega, by rw [map_len]; rfl⟩
  · rintro n _ ⟨i, hi, rfl, hb, rfl⟩
    conv => whnf
    ((with_reducible refine And.intro (fun (e : (_ : Bool) = true) => ?_) (fun (e : (_ : Bool) = false) => ?_)) <;> (try simp only [reduceCtorEq, ints_len, bools_len, bif_t, bif_f, zv0, zv1, zv2, zv3, zv4, zv5, zv6, zv7, zv8, zv9, zv10, zv11, zv12, zv13, zv14, zv15, zv16, zv17, zv18, zv19, zv20, zv21, zv22, zv23, zv24] at e) <;> (conv => whnf))
    · have hlt : i < l.length := by omega
      obtain ⟨x, hget⟩ := get_lt hlt
      refine ⟨_, And.intro ⟨?_, enc_get hget⟩ ?_⟩
      · omega
      obtain ⟨xa, xb, xs⟩ := x
      conv => whnf
      rw [show (cx ty [(f, Rf)] []).fns f = some Rf from findF_self]
      conv => whnf
      refine ⟨[], false, false, ?_⟩
      conv => whnf
      refine lendCaps_id hc ?_
      conv => whnf
      refine ⟨_, _, hp _ (List.mem_of_getElem? hget), ?_⟩
      conv => whnf
      ((with_reducible refine And.intro (fun (e : (_ : Bool) = true) => ?_) (fun (e : (_ : Bool) = false) => ?_)) <;> (try simp only [reduceCtorEq, ints_len, bools_len, bif_t, bif_f, zv0, zv1, zv2, zv3, zv4, zv5, zv6, zv7, zv8, zv9, zv10, zv11, zv12, zv13, zv14, zv15, zv16, zv17, zv18, zv19, zv20, zv21, zv22, zv23, zv24] at e) <;> (conv => whnf))
      · (refine ⟨[], ?_⟩; (conv => whnf); refine ⟨[], .nil, .nil, ?_⟩; (conv => whnf))
        congr 1
        exact (idx_at hget e hb).symm
      · have he := e
        (refine And.intro ?_ ?_; ((first | (with_reducible assumption) | (intro _; with_reducible assumption) | omega | (simp only [reduceCtorEq, ints_len, bools_len, bif_t, bif_f, zv0, zv1, zv2, zv3, zv4, zv5, zv6, zv7, zv8, zv9, zv10, zv11, zv12, zv13, zv14, zv15, zv16, zv17, zv18, zv19, zv20, zv21, zv22, zv23, zv24] at *; omega) | (intro hg; (try simp only [reduceCtorEq, ints_len, bools_len, bif_t, bif_f, zv0, zv1, zv2, zv3, zv4, zv5, zv6, zv7, zv8, zv9, zv10, zv11, zv12, zv13, zv14, zv15, zv16, zv17, zv18, zv19, zv20, zv21, zv22, zv23, zv24] at hg); first | (with_reducible assumption) | omega | (simp only [reduceCtorEq, ints_len, bools_len, bif_t, bif_f, zv0, zv1, zv2, zv3, zv4, zv5, zv6, zv7, zv8, zv9, zv10, zv11, zv12, zv13, zv14, zv15, zv16, zv17, zv18, zv19, zv20, zv21, zv22, zv23, zv24] at *; omega) | (refine ⟨?_, ?_⟩ <;> omega)) | (refine ⟨?_, ?_⟩ <;> omega) | (simp [*]; done) | grind)); (conv => whnf))
        refine ⟨l.length - (i + 1), by omega, [], ?_⟩
        conv => whnf
        rw [under_fn hc]
        conv => whnf
        refine ⟨i + 1, by omega, rfl, fun j hj y hy => ?_, rfl⟩
        by_cases ej : j = i
        · subst ej; rw [hget] at hy; cases hy; exact he
        · exact hb j (by omega) y hy
    · (refine ⟨[], ?_⟩; (conv => whnf); refine ⟨[], .nil, .nil, ?_⟩; (conv => whnf))
      congr 1
      refine (idx_none fun y hy => ?_).symm
      obtain ⟨j, hj⟩ := List.getElem?_of_mem hy
      have := (List.getElem?_eq_some_iff.1 hj).1
      exact hb j (by omega) y hj
def R64 (f : Nat) (Rf : Ct) : Ct := fun ss hp r out => ∃ (l : List Ref) (caps : List Cap) (p : Ref → Bool), ss = [.one (.d (.sl 3 (l.map Ref.c))), .one (.fn f caps)] ∧ hp = [] ∧ l.length < 4611686018427387904 ∧ caps.all capFree = true ∧ (∀ x ∈ l, Rf (.v (.ag (x.c.map .d)) :: caps.map fun c => .one c.toC) [] (.db (p x)) []) ∧ r = .db (l.any p) ∧ out = []
set_option maxHeartbeats 4000000 in
theorem ok64 (f : Nat) (Rf : Ct) (hf : VSound Try.prog (f, Rf)) : VSound Try.prog (64, R64 f Rf) := by
  refine vsound (T := ty) (F := [(94, R94 f Rf)]) (pl := []) (nw := true) (cuts := []) mix tyOk (.cons (ok94 f Rf hf) .nil) Try.func64 (by kernel_rfl) (by kernel_rfl) ?_
  rintro _ _ _ _ ⟨l, caps, p, rfl, rfl, hl, hc, hp, rfl, rfl⟩
  conv => whnf
  refine ⟨[], false, false, ?_⟩
  conv => whnf
  refine lendCaps_id hc ?_
  conv => whnf
  refine ⟨_, _, ⟨l, caps, p, rfl, rfl, hl, hc, hp, rfl, rfl⟩, ?_⟩
  conv => whnf
  (refine ⟨[], ?_⟩; (conv => whnf); refine ⟨[], .nil, .nil, ?_⟩; (conv => whnf))
  congr 1
  exact idx_any p l
def R9142 (f : Nat) (Rf : Ct) : Ct := fun ss hp r out => ∃ (l : List (Int × Int)) (caps : List Cap) (p : (Int × Int) → Bool), ss = [.one (.d (.sl 2 (l.map prC))), .one (.fn f caps)] ∧ hp = [] ∧ l.length < 4611686018427387904 ∧ caps.all capFree = true ∧ (∀ x ∈ l, Rf (.v (.ag [.d (.int .i64 x.1), .d (.int .i64 x.2)]) :: caps.map fun c => .one c.toC) [] (.db (p x)) []) ∧ r = .di .i64 (idx p l) ∧ out = []
def R9123 (f : Nat) (Rf : Ct) : Ct := fun ss hp r out => ∃ (l : List (Int × Int)) (caps : List Cap) (p : (Int × Int) → Bool), ss = [.one (.d (.sl 2 (l.map prC))), .one (.fn f caps)] ∧ hp = [] ∧ l.length < 4611686018427387904 ∧ caps.all capFree = true ∧ (∀ x ∈ l, Rf (.v (.ag [.d (.int .i64 x.1), .d (.int .i64 x.2)]) :: caps.map fun c => .one c.toC) [] (.db (p x)) []) ∧ r = .db (l.any p) ∧ out = []
def R9114 (f : Nat) (Rf : Ct) : Ct := fun ss hp r out => ∃ (l : List Kern) (caps : List Cap) (p : Kern → Bool), ss = [.one (.d (.sl 2 (l.map Kern.c))), .one (.fn f caps)] ∧ hp = [] ∧ l.length < 4611686018427387904 ∧ caps.all capFree = true ∧ (∀ x ∈ l, Rf (.v (.ag (x.c.map .d)) :: caps.map fun c => .one c.toC) [] (.db (p x)) []) ∧ r = .di .i64 (idx p l) ∧ out = []
def R9088 (f : Nat) (Rf : Ct) : Ct := fun ss hp r out => ∃ (l : List Kern) (caps : List Cap) (p : Kern → Bool), ss = [.one (.d (.sl 2 (l.map Kern.c))), .one (.fn f caps)] ∧ hp = [] ∧ l.length < 4611686018427387904 ∧ caps.all capFree = true ∧ (∀ x ∈ l, Rf (.v (.ag (x.c.map .d)) :: caps.map fun c => .one c.toC) [] (.db (p x)) []) ∧ r = .db (l.any p) ∧ out = []
end Go.Proofs.Ytphmcgmblkbijaa.V
-- Vc
namespace Go.Proofs.Ytphmcgmblkbijaa.V
open Go.Proofs.YtphmcgmblkbijaaVY Go.RowKit
def R46 : Ct := fun ss hp r out => ∃ (l : List Int), ss = [.one (.d (.sl 1 (l.map inC)))] ∧ hp = [] ∧ l.length ≤ 4194304 ∧ r = .one (.own 0) ∧ out = [.row 1 (l.map inC)]
set_option maxHeartbeats 4000000 in
theorem ok46 : VSound Try.prog (46, R46) := by
  refine vsound (T := ty) (F := []) (pl := []) (nw := true) (cuts := []) mix tyOk .nil Try.func46 (by kernel_rfl) (by kernel_rfl) ?_
  rintro _ _ _ _ ⟨l, rfl, rfl, hl, rfl, rfl⟩
  conv => whnf
  refine ⟨fun h0 => ?_, ?_⟩
  · conv => whnf
    refine ⟨[.slot 2 true], ?_⟩
    conv => whnf
    have : l = [] := by simpa using h0
    subst this
    exact ⟨[0], by simp, .cons ⟨_, rfl, rfl, rfl⟩ .nil, rfl⟩
  · conv => whnf
    refine ⟨?_, ?_⟩
    · simp; omega
    conv => whnf
    refine ⟨[], ?_⟩
    conv => whnf
    exact ⟨[0], by simp, .cons ⟨_, rfl, rfl, rfl⟩ .nil, rfl⟩
end Go.Proofs.Ytphmcgmblkbijaa.V
-- Ta
namespace Go.Proofs.Ytphmcgmblkbijaa.V
open Go.Proofs.YtphmcgmblkbijaaVY Go.RowKit
/-- a team: its parent, and its images -/
structure Tm where
  par : Int
  im : List Int
def Tm.c (t : Tm) : List D := [.int .i64 t.par, .sl 1 (t.im.map inC)]
/-- images that have failed -/
def mdF (F : List Int) : List (Int × D) := F.map fun i => (i, .bool true)
/-- teams, where they lie -/
def tB : List C := [.own 1, .own 2]
def tRow (T : List Tm) : List (List D) := T.map Tm.c
structure TOk (T : List Tm) : Prop where
  pos : 0 < T.length
  few : T.length ≤ 50
  im : ∀ t ∈ T, t.im.length ≤ 8
def tErr (T : List Tm) (k : Int) : Int := if 0 ≤ k ∧ k < T.length then 0 else 5
theorem tRow_len (T : List Tm) : (tRow T).length = T.length := List.length_map ..
theorem tRow_get {T : List Tm} {i : Nat} {t : Tm} (h : T[i]? = some t) : (tRow T)[i]? = some t.c := by unfold tRow; rw [List.getElem?_map, h]; rfl
def R43 : Ct := fun ss hp r out => ∃ (T : List Tm) (F : List Int) (v0 v1 v2 : Value), ss = [.one (.ptr 0 0)] ∧ hp = [.box tB, .row 2 (tRow T), .mapd (mdF F), .mem v0 (.ptr 0 0), .mem v1 (.own 1), .mem v2 (.own 2)] ∧ 0 < T.length ∧ r = .db false ∧ out = [.box tB, .row 2 (tRow T), .mapd (mdF F), .mem v0 (.ptr 0 0), .mem v1 (.own 1), .mem v2 (.own 2)]
set_option maxHeartbeats 4000000 in
theorem ok43 : VSound Try.prog (43, R43) := by
  refine vsound (T := ty) (F := []) (pl := []) (nw := true) (cuts := []) mix tyOk .nil Try.func43 (by kernel_rfl) (by kernel_rfl) ?_
  rintro _ _ _ _ ⟨T, F, v0, v1, v2, rfl, rfl, hT, rfl, rfl⟩
  conv => whnf
  (repeat ((first | with_reducible refine And.intro (fun h => h) ?_ | with_reducible refine And.intro (fun _ => rfl) ?_ | with_reducible refine And.intro rfl ?_); conv => whnf))
  (refine ⟨[], ?_⟩; (conv => whnf); refine ⟨[0, 1, 2, 3, 4, 5], by simp, .cons ⟨_, rfl, .cons rfl (.cons rfl .nil)⟩ (.cons ⟨_, rfl, rfl, ?_⟩ (.cons ⟨_, rfl, ?_⟩ (.cons ⟨_, rfl, rfl, rfl, rfl⟩ (.cons ⟨_, rfl, rfl, rfl⟩ (.cons ⟨_, rfl, rfl, rfl⟩ .nil))))), ?_⟩)
  · rfl
  · rfl
  · show D.bool _ = D.bool _
    congr 1
    rw [tRow_len]
    exact beq_eq_false_iff_ne.2 (by omega)
def R45 : Ct := fun ss hp r out => ∃ (T : List Tm) (F : List Int) (k : Int) (v0 v1 v2 : Value), ss = [.one (.ptr 0 0), .di .i64 k] ∧ hp = [.box tB, .row 2 (tRow T), .mapd (mdF F), .mem v0 (.ptr 0 0), .mem v1 (.own 1), .mem v2 (.own 2)] ∧ 0 < T.length ∧ r = .di .i64 (tErr T k) ∧ out = [.box tB, .row 2 (tRow T), .mapd (mdF F), .mem v0 (.ptr 0 0), .mem v1 (.own 1), .mem v2 (.own 2)]
set_option maxHeartbeats 4000000 in
theorem ok45 : VSound Try.prog (45, R45) := by
  refine vsound (T := ty) (F := [(43, R43)]) (pl := []) (nw := true) (cuts := []) mix tyOk (.cons (ok43) .nil) Try.func45 (by kernel_rfl) (by kernel_rfl) ?_
  rintro _ _ _ _ ⟨T, F, k, v0, v1, v2, rfl, rfl, hT, rfl, rfl⟩
  conv => whnf
  (refine ⟨[0, 1, 2], false, false, ?_⟩; (conv => whnf); intro u0 u1 u2; (conv => whnf); refine ⟨_, _, ⟨T, F, u0, u1, u2, rfl, rfl, hT, rfl, rfl⟩, ?_⟩; (conv => whnf); refine ⟨rfl, ?_⟩; (conv => whnf); refine ⟨rfl, ?_⟩; (conv => whnf); refine ⟨rfl, ?_⟩; (conv => whnf))
  ((first | refine And.intro (fun _ => ?_) (fun h => absurd h (by decide)) | refine And.intro (fun h => absurd h (by decide)) (fun _ => ?_)); (conv => whnf))
  (repeat ((first | with_reducible refine And.intro (fun h => h) ?_ | with_reducible refine And.intro (fun _ => rfl) ?_ | with_reducible refine And.intro rfl ?_); conv => whnf))
  rw [tRow_len]
  ((with_reducible refine And.intro (fun (e : (_ : Bool) = true) => ?_) (fun (e : (_ : Bool) = false) => ?_)) <;> (try simp only [reduceCtorEq, ints_len, bools_len, bif_t, bif_f, zv0, zv1, zv2, zv3, zv4, zv5, zv6, zv7, zv8, zv9, zv10, zv11, zv12, zv13, zv14, zv15, zv16, zv17, zv18, zv19, zv20, zv21, zv22, zv23, zv24] at e) <;> (conv => whnf))
  · (refine ⟨[], ?_⟩; (conv => whnf); refine ⟨[0, 1, 2, 3, 4, 5], by simp, .cons ⟨_, rfl, .cons rfl (.cons rfl .nil)⟩ (.cons ⟨_, rfl, rfl, ?_⟩ (.cons ⟨_, rfl, ?_⟩ (.cons ⟨_, rfl, rfl, rfl, rfl⟩ (.cons ⟨_, rfl, rfl, rfl⟩ (.cons ⟨_, rfl, rfl, rfl⟩ .nil))))), ?_⟩)
    · rfl
    · rfl
    · show D.int _ _ = D.int _ _
      congr 1
      unfold tErr
      rw [if_neg (by omega)]
  · (refine ⟨[], ?_⟩; (conv => whnf); refine ⟨[0, 1, 2, 3, 4, 5], by simp, .cons ⟨_, rfl, .cons rfl (.cons rfl .nil)⟩ (.cons ⟨_, rfl, rfl, ?_⟩ (.cons ⟨_, rfl, ?_⟩ (.cons ⟨_, rfl, rfl, rfl, rfl⟩ (.cons ⟨_, rfl, rfl, rfl⟩ (.cons ⟨_, rfl, rfl, rfl⟩ .nil))))), ?_⟩)
    · rfl
    · rfl
    · show D.int _ _ = D.int _ _
      congr 1
      unfold tErr
      rw [if_pos (by omega)]
def R53 : Ct := fun ss hp r out => ∃ (T : List Tm) (F : List Int) (v0 v1 v2 : Value), ss = [.one (.ptr 0 0)] ∧ hp = [.box tB, .row 2 (tRow T), .mapd (mdF F), .mem v0 (.ptr 0 0), .mem v1 (.own 1), .mem v2 (.own 2)] ∧ 0 < T.length ∧ r = .di .i64 T.length ∧ out = [.box tB, .row 2 (tRow T), .mapd (mdF F), .mem v0 (.ptr 0 0), .mem v1 (.own 1), .mem v2 (.own 2)]
set_option maxHeartbeats 4000000 in
theorem ok53 : VSound Try.prog (53, R53) := by
  refine vsound (T := ty) (F := [(43, R43)]) (pl := []) (nw := true) (cuts := []) mix tyOk (.cons (ok43) .nil) Try.func53 (by kernel_rfl) (by kernel_rfl) ?_
  rintro _ _ _ _ ⟨T, F, v0, v1, v2, rfl, rfl, hT, rfl, rfl⟩
  conv => whnf
  (refine ⟨[0, 1, 2], false, false, ?_⟩; (conv => whnf); intro u0 u1 u2; (conv => whnf); refine ⟨_, _, ⟨T, F, u0, u1, u2, rfl, rfl, hT, rfl, rfl⟩, ?_⟩; (conv => whnf); refine ⟨rfl, ?_⟩; (conv => whnf); refine ⟨rfl, ?_⟩; (conv => whnf); refine ⟨rfl, ?_⟩; (conv => whnf))
  ((first | refine And.intro (fun _ => ?_) (fun h => absurd h (by decide)) | refine And.intro (fun h => absurd h (by decide)) (fun _ => ?_)); (conv => whnf))
  (refine ⟨[], ?_⟩; (conv => whnf); refine ⟨[0, 1, 2, 3, 4, 5], by simp, .cons ⟨_, rfl, .cons rfl (.cons rfl .nil)⟩ (.cons ⟨_, rfl, rfl, ?_⟩ (.cons ⟨_, rfl, ?_⟩ (.cons ⟨_, rfl, rfl, rfl, rfl⟩ (.cons ⟨_, rfl, rfl, rfl⟩ (.cons ⟨_, rfl, rfl, rfl⟩ .nil))))), ?_⟩)
  · rfl
  · rfl
  · show D.int _ _ = D.int _ _
    rw [tRow_len]
def tPar (T : List Tm) (k : Int) : Int := if 0 ≤ k then ((T[k.toNat]?).map Tm.par).getD 0 else 0
theorem tErr_at {T : List Tm} {k : Int} (h : tErr T k = 0) : 0 ≤ k ∧ k.toNat < T.length ∧ ∃ t, T[k.toNat]? = some t := by
  unfold tErr at h
  split at h
  · exact ⟨by omega, by omega, get_lt (by omega)⟩
  · cases h
theorem tErr_no {T : List Tm} {k : Int} (h : tErr T k ≠ 0) : tErr T k = 5 ∧ ¬ (0 ≤ k ∧ k.toNat < T.length) := by
  unfold tErr at h ⊢
  split at h
  · exact absurd rfl h
  · rename_i h1; rw [if_neg h1]; exact ⟨rfl, by omega⟩
def R23 : Ct := fun ss hp r out => ∃ (T : List Tm) (F : List Int) (k : Int) (v0 v1 v2 : Value), ss = [.one (.ptr 0 0), .di .i64 k] ∧ hp = [.box tB, .row 2 (tRow T), .mapd (mdF F), .mem v0 (.ptr 0 0), .mem v1 (.own 1), .mem v2 (.own 2)] ∧ 0 < T.length ∧ r = .tup [.c (.d (.int .i64 (tPar T k))), .c (.d (.int .i64 (tErr T k)))] ∧ out = [.box tB, .row 2 (tRow T), .mapd (mdF F), .mem v0 (.ptr 0 0), .mem v1 (.own 1), .mem v2 (.own 2)]
set_option maxHeartbeats 4000000 in
theorem ok23 : VSound Try.prog (23, R23) := by
  refine vsound (T := ty) (F := [(45, R45)]) (pl := []) (nw := true) (cuts := []) mix tyOk (.cons (ok45) .nil) Try.func23 (by kernel_rfl) (by kernel_rfl) ?_
  rintro _ _ _ _ ⟨T, F, k, v0, v1, v2, rfl, rfl, hT, rfl, rfl⟩
  conv => whnf
  (refine ⟨[0, 1, 2], false, false, ?_⟩; (conv => whnf); intro u0 u1 u2; (conv => whnf); refine ⟨_, _, ⟨T, F, k, u0, u1, u2, rfl, rfl, hT, rfl, rfl⟩, ?_⟩; (conv => whnf); refine ⟨rfl, ?_⟩; (conv => whnf); refine ⟨rfl, ?_⟩; (conv => whnf); refine ⟨rfl, ?_⟩; (conv => whnf))
  ((with_reducible refine And.intro (fun (e : (_ : Bool) = true) => ?_) (fun (e : (_ : Bool) = false) => ?_)) <;> (try simp only [reduceCtorEq, ints_len, bools_len, bif_t, bif_f, zv0, zv1, zv2, zv3, zv4, zv5, zv6, zv7, zv8, zv9, zv10, zv11, zv12, zv13, zv14, zv15, zv16, zv17, zv18, zv19, zv20, zv21, zv22, zv23, zv24] at e) <;> (conv => whnf))
  · (refine ⟨[], ?_⟩; (conv => whnf); refine ⟨[0, 1, 2, 3, 4, 5], by simp, .cons ⟨_, rfl, .cons rfl (.cons rfl .nil)⟩ (.cons ⟨_, rfl, rfl, ?_⟩ (.cons ⟨_, rfl, ?_⟩ (.cons ⟨_, rfl, rfl, rfl, rfl⟩ (.cons ⟨_, rfl, rfl, rfl⟩ (.cons ⟨_, rfl, rfl, rfl⟩ .nil))))), ?_⟩)
    · rfl
    · rfl
    · obtain ⟨h1, h2⟩ := tErr_no e
      refine .cons (show D.int _ _ = D.int _ _ from ?_) (.cons rfl .nil)
      congr 1
      unfold tPar
      split
      · rw [List.getElem?_eq_none (by omega)]; rfl
      · rfl
  · obtain ⟨h1, h2, t, ht⟩ := tErr_at e
    refine And.intro ⟨h1, by rw [tRow_len]; exact h2⟩ ?_
    conv => whnf
    refine ⟨_, And.intro (tRow_get ht) ?_⟩
    conv => whnf
    (refine ⟨[], ?_⟩; (conv => whnf); refine ⟨[0, 1, 2, 3, 4, 5], by simp, .cons ⟨_, rfl, .cons rfl (.cons rfl .nil)⟩ (.cons ⟨_, rfl, rfl, ?_⟩ (.cons ⟨_, rfl, ?_⟩ (.cons ⟨_, rfl, rfl, rfl, rfl⟩ (.cons ⟨_, rfl, rfl, rfl⟩ (.cons ⟨_, rfl, rfl, rfl⟩ .nil))))), ?_⟩)
    · rfl
    · rfl
    · refine .cons (show D.int _ _ = D.int _ _ from ?_) (.cons (show D.int _ _ = D.int _ _ from ?_) .nil)
      · congr 1; unfold tPar; rw [if_pos h1, ht]; rfl
      · rw [e]
def tIm (T : List Tm) (k : Int) : List Int := if 0 ≤ k then ((T[k.toNat]?).map Tm.im).getD [] else []
def R21 : Ct := fun ss hp r out => ∃ (T : List Tm) (F : List Int) (k : Int) (v0 v1 v2 : Value), ss = [.one (.ptr 0 0), .di .i64 k] ∧ hp = [.box tB, .row 2 (tRow T), .mapd (mdF F), .mem v0 (.ptr 0 0), .mem v1 (.own 1), .mem v2 (.own 2)] ∧ TOk T ∧ r = .tup [.c (.own 6), .c (.d (.int .i64 (tErr T k)))] ∧ out = [.box tB, .row 2 (tRow T), .mapd (mdF F), .mem v0 (.ptr 0 0), .mem v1 (.own 1), .mem v2 (.own 2), .row 1 ((tIm T k).map inC)]
set_option maxHeartbeats 4000000 in
theorem ok21 : VSound Try.prog (21, R21) := by
  refine vsound (T := ty) (F := [(45, R45), (46, R46)]) (pl := []) (nw := true) (cuts := []) mix tyOk (.cons (ok45) (.cons (ok46) .nil)) Try.func21 (by kernel_rfl) (by kernel_rfl) ?_
  rintro _ _ _ _ ⟨T, F, k, v0, v1, v2, rfl, rfl, hT, rfl, rfl⟩
  have hT0 := hT.pos
  conv => whnf
  (refine ⟨[0, 1, 2], false, false, ?_⟩; (conv => whnf); intro u0 u1 u2; (conv => whnf); refine ⟨_, _, ⟨T, F, k, u0, u1, u2, rfl, rfl, hT0, rfl, rfl⟩, ?_⟩; (conv => whnf); refine ⟨rfl, ?_⟩; (conv => whnf); refine ⟨rfl, ?_⟩; (conv => whnf); refine ⟨rfl, ?_⟩; (conv => whnf))
  ((with_reducible refine And.intro (fun (e : (_ : Bool) = true) => ?_) (fun (e : (_ : Bool) = false) => ?_)) <;> (try simp only [reduceCtorEq, ints_len, bools_len, bif_t, bif_f, zv0, zv1, zv2, zv3, zv4, zv5, zv6, zv7, zv8, zv9, zv10, zv11, zv12, zv13, zv14, zv15, zv16, zv17, zv18, zv19, zv20, zv21, zv22, zv23, zv24] at e) <;> (conv => whnf))
  · refine ⟨[.slot 4 true], ?_⟩
    conv => whnf
    (refine ⟨[0, 1, 2, 3, 4, 5, 6], by simp, .cons ⟨_, rfl, .cons rfl (.cons rfl .nil)⟩ (.cons ⟨_, rfl, rfl, ?_⟩ (.cons ⟨_, rfl, ?_⟩ (.cons ⟨_, rfl, rfl, rfl, rfl⟩ (.cons ⟨_, rfl, rfl, rfl⟩ (.cons ⟨_, rfl, rfl, rfl⟩ (.cons ⟨_, rfl, rfl, ?_⟩ .nil)))))), ?_⟩)
    · rfl
    · rfl
    · obtain ⟨h1, h2⟩ := tErr_no e
      unfold tIm
      split
      · rw [List.getElem?_eq_none (by omega)]; rfl
      · rfl
    · exact .cons rfl (.cons rfl .nil)
  · obtain ⟨h1, h2, t, ht⟩ := tErr_at e
    refine And.intro ⟨h1, by rw [tRow_len]; exact h2⟩ ?_
    conv => whnf
    refine ⟨_, And.intro (tRow_get ht) ?_⟩
    conv => whnf
    have h8 := hT.im _ (List.mem_of_getElem? ht)
    (refine ⟨[], true, false, ?_⟩; (conv => whnf); refine ⟨_, _, ⟨t.im, rfl, rfl, by omega, rfl, rfl⟩, ?_⟩; (conv => whnf))
    refine ⟨[], ?_⟩
    conv => whnf
    (refine ⟨[0, 1, 2, 3, 4, 5, 6], by simp, .cons ⟨_, rfl, .cons rfl (.cons rfl .nil)⟩ (.cons ⟨_, rfl, rfl, ?_⟩ (.cons ⟨_, rfl, ?_⟩ (.cons ⟨_, rfl, rfl, rfl, rfl⟩ (.cons ⟨_, rfl, rfl, rfl⟩ (.cons ⟨_, rfl, rfl, rfl⟩ (.cons ⟨_, rfl, rfl, ?_⟩ .nil)))))), ?_⟩)
    · rfl
    · rfl
    · unfold tIm; rw [if_pos h1, ht]; rfl
    · refine .cons rfl (.cons (show D.int _ _ = D.int _ _ from ?_) .nil)
      rw [e]
def R88 : Ct := fun ss hp r out => ∃ (l : List Int) (x : Int), ss = [.one (.d (.sl 1 (l.map inC))), .di .i64 x] ∧ hp = [] ∧ l.length < 4611686018427387904 ∧ r = .di .i64 (idx (fun y => x == y) l) ∧ out = []
set_option maxHeartbeats 4000000 in
theorem ok88 : VSound Try.prog (88, R88) := by
  refine vsound (T := ty) (F := []) (pl := []) (nw := true) (cuts := []) mix tyOk .nil Try.func88 (by kernel_rfl) (by kernel_rfl) ?_
  rintro _ _ _ _ ⟨l, x, rfl, rfl, hl, rfl, rfl⟩
  conv => whnf
  refine ⟨[], [0, 1, 7, 8], 0, fun n σ => ∃ i : Nat, i ≤ l.length ∧ n = l.length - i ∧ (∀ j < i, ∀ y, l[j]? = some y → (x == y) = false) ∧ σ = (⟨[.one (.d (.sl 1 (l.map inC))), .di .i64 x, .junk, .junk, .junk, .junk, .junk, .di .i64 l.length, .di .i64 i, .junk, .junk, .junk, .junk, .junk, .junk, .junk, .junk, .junk, .junk], []⟩ : St), ?_, ?_⟩
  · refine ⟨l.length, ?_⟩
    conv => whnf
    exact ⟨0, by omega, by omega, by omega, by rw [map_len]; rfl⟩
  · rintro n _ ⟨i, hi, rfl, hb, rfl⟩
    conv => whnf
    ((with_reducible refine And.intro (fun (e : (_ : Bool) = true) => ?_) (fun (e : (_ : Bool) = false) => ?_)) <;> (try simp only [reduceCtorEq, ints_len, bools_len, bif_t, bif_f, zv0, zv1, zv2, zv3, zv4, zv5, zv6, zv7, zv8, zv9, zv10, zv11, zv12, zv13, zv14, zv15, zv16, zv17, zv18, zv19, zv20, zv21, zv22, zv23, zv24] at e) <;> (conv => whnf))
    · obtain ⟨y, hget⟩ := get_lt (l := l) (i := i) (by omega)
      (refine ⟨_, And.intro ⟨by omega, enc_get hget⟩ ?_⟩; (conv => whnf))
      refine And.intro (fun (e2 : (_ : Bool) = true) => ?_) (fun (e2 : (_ : Bool) = false) => ?_)
      · conv => whnf
        (refine ⟨[], ?_⟩; (conv => whnf); refine ⟨[], .nil, .nil, ?_⟩; (conv => whnf))
        congr 1
        exact (idx_at hget e2 hb).symm
      · conv => whnf
        (refine And.intro ?_ ?_; ((first | (with_reducible assumption) | (intro _; with_reducible assumption) | omega | (simp only [reduceCtorEq, ints_len, bools_len, bif_t, bif_f, zv0, zv1, zv2, zv3, zv4, zv5, zv6, zv7, zv8, zv9, zv10, zv11, zv12, zv13, zv14, zv15, zv16, zv17, zv18, zv19, zv20, zv21, zv22, zv23, zv24] at *; omega) | (intro hg; (try simp only [reduceCtorEq, ints_len, bools_len, bif_t, bif_f, zv0, zv1, zv2, zv3, zv4, zv5, zv6, zv7, zv8, zv9, zv10, zv11, zv12, zv13, zv14, zv15, zv16, zv17, zv18, zv19, zv20, zv21, zv22, zv23, zv24] at hg); first | (with_reducible assumption) | omega | (simp only [reduceCtorEq, ints_len, bools_len, bif_t, bif_f, zv0, zv1, zv2, zv3, zv4, zv5, zv6, zv7, zv8, zv9, zv10, zv11, zv12, zv13, zv14, zv15, zv16, zv17, zv18, zv19, zv20, zv21, zv22, zv23, zv24] at *; omega) | (refine ⟨?_, ?_⟩ <;> omega)) | (refine ⟨?_, ?_⟩ <;> omega) | (simp [*]; done) | grind)); (conv => whnf))
        refine ⟨l.length - (i + 1), by omega, [], ?_⟩
        conv => whnf
        refine ⟨i + 1, by omega, rfl, fun j hj y' hy => ?_, rfl⟩
        by_cases ej : j = i
        · subst ej; rw [hget] at hy; cases hy; exact e2
        · exact hb j (by omega) y' hy
    · (refine ⟨[], ?_⟩; (conv => whnf); refine ⟨[], .nil, .nil, ?_⟩; (conv => whnf))
      congr 1
      refine (idx_none fun y hy => ?_).symm
      obtain ⟨j, hj⟩ := List.getElem?_of_mem hy
      have := (List.getElem?_eq_some_iff.1 hj).1
      exact hb j (by omega) y hj
def tMany (T : List Tm) : Int := (tIm T 0).length
def R44 : Ct := fun ss hp r out => ∃ (T : List Tm) (F : List Int) (i : Int) (v0 v1 v2 : Value), ss = [.one (.ptr 0 0), .di .i64 i] ∧ hp = [.box tB, .row 2 (tRow T), .mapd (mdF F), .mem v0 (.ptr 0 0), .mem v1 (.own 1), .mem v2 (.own 2)] ∧ TOk T ∧ r = .db (decide (1 ≤ i ∧ i ≤ tMany T)) ∧ out = [.box tB, .row 2 (tRow T), .mapd (mdF F), .mem v0 (.ptr 0 0), .mem v1 (.own 1), .mem v2 (.own 2)]
set_option maxHeartbeats 4000000 in
theorem ok44 : VSound Try.prog (44, R44) := by
  refine vsound (T := ty) (F := []) (pl := []) (nw := true) (cuts := []) mix tyOk .nil Try.func44 (by kernel_rfl) (by kernel_rfl) ?_
  rintro _ _ _ _ ⟨T, F, i, v0, v1, v2, rfl, rfl, hT, rfl, rfl⟩
  have hT0 := hT.pos
  obtain ⟨t, ht⟩ := get_lt (l := T) (i := 0) hT0
  conv => whnf
  (repeat ((first | with_reducible refine And.intro (fun h => h) ?_ | with_reducible refine And.intro (fun _ => rfl) ?_ | with_reducible refine And.intro rfl ?_); conv => whnf))
  refine And.intro (fun _ => ⟨by omega, by rw [tRow_len]; exact hT0⟩) ?_
  conv => whnf
  (repeat ((first | with_reducible refine And.intro (fun h => h) ?_ | with_reducible refine And.intro (fun _ => rfl) ?_ | with_reducible refine And.intro rfl ?_); conv => whnf))
  refine ⟨_, And.intro (fun _ => tRow_get ht) ?_⟩
  conv => whnf
  (repeat ((first | with_reducible refine And.intro (fun h => h) ?_ | with_reducible refine And.intro (fun _ => rfl) ?_ | with_reducible refine And.intro rfl ?_); conv => whnf))
  (refine ⟨[], ?_⟩; (conv => whnf); refine ⟨[0, 1, 2, 3, 4, 5], by simp, .cons ⟨_, rfl, .cons rfl (.cons rfl .nil)⟩ (.cons ⟨_, rfl, rfl, ?_⟩ (.cons ⟨_, rfl, ?_⟩ (.cons ⟨_, rfl, rfl, rfl, rfl⟩ (.cons ⟨_, rfl, rfl, rfl⟩ (.cons ⟨_, rfl, rfl, rfl⟩ .nil))))), ?_⟩)
  · rfl
  · rfl
  · show D.bool _ = D.bool _
    congr 1
    have e : tMany T = t.im.length := by unfold tMany tIm; rw [if_pos (by omega), show (0 : Int).toNat = 0 from rfl, ht]; rfl
    rw [e, map_len]
    by_cases h : 1 ≤ i <;> by_cases h2 : i ≤ (t.im.length : Int) <;> simp [h, h2] <;> omega
theorem idx_bd {α : Type} (p : α → Bool) : ∀ l : List α, -1 ≤ idx p l ∧ idx p l < l.length
  | [] => by simp [idx]
  | x :: l => by
    have := idx_bd p l
    unfold idx
    rw [List.length_cons]
    split
    · omega
    · split <;> omega
def tNumE (T : List Tm) (k i : Int) : Int := if tErr T k ≠ 0 then tErr T k else if 1 ≤ i ∧ i ≤ tMany T then 0 else 2
def tNum (T : List Tm) (k i : Int) : Int := if tNumE T k i = 0 then idx (fun y => i == y) (tIm T k) + 1 else 0
def R58 : Ct := fun ss hp r out => ∃ (T : List Tm) (F : List Int) (k i : Int) (v0 v1 v2 : Value), ss = [.one (.ptr 0 0), .di .i64 k, .di .i64 i] ∧ hp = [.box tB, .row 2 (tRow T), .mapd (mdF F), .mem v0 (.ptr 0 0), .mem v1 (.own 1), .mem v2 (.own 2)] ∧ TOk T ∧ r = .tup [.c (.d (.int .i64 (tNum T k i))), .c (.d (.int .i64 (tNumE T k i)))] ∧ out = [.box tB, .row 2 (tRow T), .mapd (mdF F), .mem v0 (.ptr 0 0), .mem v1 (.own 1), .mem v2 (.own 2)]
set_option maxHeartbeats 4000000 in
theorem ok58 : VSound Try.prog (58, R58) := by
  refine vsound (T := ty) (F := [(44, R44), (45, R45), (88, R88)]) (pl := []) (nw := true) (cuts := []) mix tyOk (.cons (ok44) (.cons (ok45) (.cons (ok88) .nil))) Try.func58 (by kernel_rfl) (by kernel_rfl) ?_
  rintro _ _ _ _ ⟨T, F, k, i, v0, v1, v2, rfl, rfl, hT, rfl, rfl⟩
  have hT0 := hT.pos
  conv => whnf
  (refine ⟨[0, 1, 2], false, false, ?_⟩; (conv => whnf); intro u0 u1 u2; (conv => whnf); refine ⟨_, _, ⟨T, F, k, u0, u1, u2, rfl, rfl, hT0, rfl, rfl⟩, ?_⟩; (conv => whnf); refine ⟨rfl, ?_⟩; (conv => whnf); refine ⟨rfl, ?_⟩; (conv => whnf); refine ⟨rfl, ?_⟩; (conv => whnf))
  ((with_reducible refine And.intro (fun (e : (_ : Bool) = true) => ?_) (fun (e : (_ : Bool) = false) => ?_)) <;> (try simp only [reduceCtorEq, ints_len, bools_len, bif_t, bif_f, zv0, zv1, zv2, zv3, zv4, zv5, zv6, zv7, zv8, zv9, zv10, zv11, zv12, zv13, zv14, zv15, zv16, zv17, zv18, zv19, zv20, zv21, zv22, zv23, zv24] at e) <;> (conv => whnf))
  · (refine ⟨[], ?_⟩; (conv => whnf); refine ⟨[0, 1, 2, 3, 4, 5], by simp, .cons ⟨_, rfl, .cons rfl (.cons rfl .nil)⟩ (.cons ⟨_, rfl, rfl, ?_⟩ (.cons ⟨_, rfl, ?_⟩ (.cons ⟨_, rfl, rfl, rfl, rfl⟩ (.cons ⟨_, rfl, rfl, rfl⟩ (.cons ⟨_, rfl, rfl, rfl⟩ .nil))))), ?_⟩)
    · rfl
    · rfl
    · obtain ⟨h1, h2⟩ := tErr_no e
      refine .cons (show D.int _ _ = D.int _ _ from ?_) (.cons (show D.int _ _ = D.int _ _ from ?_) .nil)
      · unfold tNum tNumE; rw [if_pos e, if_neg e]
      · unfold tNumE; rw [if_pos e]
  · obtain ⟨h1, h2, t, ht⟩ := tErr_at e
    (refine ⟨[0, 1, 2], false, false, ?_⟩; (conv => whnf); intro u0 u1 u2; (conv => whnf); refine ⟨_, _, ⟨T, F, i, u0, u1, u2, rfl, rfl, hT, rfl, rfl⟩, ?_⟩; (conv => whnf); refine ⟨rfl, ?_⟩; (conv => whnf); refine ⟨rfl, ?_⟩; (conv => whnf); refine ⟨rfl, ?_⟩; (conv => whnf))
    refine And.intro (fun (e2 : (_ : Bool) = true) => ?_) (fun (e2 : (_ : Bool) = false) => ?_) <;> (conv => whnf)
    · (refine ⟨[], ?_⟩; (conv => whnf); refine ⟨[0, 1, 2, 3, 4, 5], by simp, .cons ⟨_, rfl, .cons rfl (.cons rfl .nil)⟩ (.cons ⟨_, rfl, rfl, ?_⟩ (.cons ⟨_, rfl, ?_⟩ (.cons ⟨_, rfl, rfl, rfl, rfl⟩ (.cons ⟨_, rfl, rfl, rfl⟩ (.cons ⟨_, rfl, rfl, rfl⟩ .nil))))), ?_⟩)
      · rfl
      · rfl
      · refine .cons (show D.int _ _ = D.int _ _ from ?_) (.cons (show D.int _ _ = D.int _ _ from ?_) .nil)
        · have : tNumE T k i = 2 := by unfold tNumE; rw [if_neg (by rw [e]; decide)]; exact if_neg (by have := e2; simp at this; omega)
          unfold tNum; rw [this]; rfl
        · congr 1
          unfold tNumE; rw [if_neg (by rw [e]; decide)]; exact (if_neg (by have := e2; simp at this; omega)).symm
    · have hok : 1 ≤ i ∧ i ≤ tMany T := by simpa using e2
      have hE : tNumE T k i = 0 := by unfold tNumE; rw [if_neg (by rw [e]; decide), if_pos hok]
      refine And.intro ⟨h1, by rw [tRow_len]; exact h2⟩ ?_
      conv => whnf
      refine ⟨_, And.intro (tRow_get ht) ?_⟩
      conv => whnf
      have h8 := hT.im _ (List.mem_of_getElem? ht)
      (refine ⟨[], false, false, ?_⟩; (conv => whnf); refine ⟨_, _, ⟨t.im, i, rfl, rfl, by omega, rfl, rfl⟩, ?_⟩; (conv => whnf))
      have hid := idx_bd (fun y => i == y) t.im
      (refine And.intro ?_ ?_; ((first | (with_reducible assumption) | (intro _; with_reducible assumption) | omega | (simp only [reduceCtorEq, ints_len, bools_len, bif_t, bif_f, zv0, zv1, zv2, zv3, zv4, zv5, zv6, zv7, zv8, zv9, zv10, zv11, zv12, zv13, zv14, zv15, zv16, zv17, zv18, zv19, zv20, zv21, zv22, zv23, zv24] at *; omega) | (intro hg; (try simp only [reduceCtorEq, ints_len, bools_len, bif_t, bif_f, zv0, zv1, zv2, zv3, zv4, zv5, zv6, zv7, zv8, zv9, zv10, zv11, zv12, zv13, zv14, zv15, zv16, zv17, zv18, zv19, zv20, zv21, zv22, zv23, zv24] at hg); first | (with_reducible assumption) | omega | (simp only [reduceCtorEq, ints_len, bools_len, bif_t, bif_f, zv0, zv1, zv2, zv3, zv4, zv5, zv6, zv7, zv8, zv9, zv10, zv11, zv12, zv13, zv14, zv15, zv16, zv17, zv18, zv19, zv20, zv21, zv22, zv23, zv24] at *; omega) | (refine ⟨?_, ?_⟩ <;> omega)) | (refine ⟨?_, ?_⟩ <;> omega) | (simp [*]; done) | grind)); (conv => whnf))
      (refine ⟨[], ?_⟩; (conv => whnf); refine ⟨[0, 1, 2, 3, 4, 5], by simp, .cons ⟨_, rfl, .cons rfl (.cons rfl .nil)⟩ (.cons ⟨_, rfl, rfl, ?_⟩ (.cons ⟨_, rfl, ?_⟩ (.cons ⟨_, rfl, rfl, rfl, rfl⟩ (.cons ⟨_, rfl, rfl, rfl⟩ (.cons ⟨_, rfl, rfl, rfl⟩ .nil))))), ?_⟩)
      · rfl
      · rfl
      · refine .cons (show D.int _ _ = D.int _ _ from ?_) (.cons (show D.int _ _ = D.int _ _ from ?_) .nil)
        · congr 1
          unfold tNum tIm; rw [if_pos hE, if_pos h1, ht]; rfl
        · rw [hE]
end Go.Proofs.Ytphmcgmblkbijaa.V
-- Tb
namespace Go.Proofs.Ytphmcgmblkbijaa.V
open Go.Proofs.YtphmcgmblkbijaaVY Go.RowKit
def addF (F : List Int) (i : Int) : List Int := if i ∈ F then F else F ++ [i]
theorem mdF_put : ∀ (F : List Int) (i : Int), putM (mdF F) i (.bool true) = mdF (addF F i)
  | [], i => rfl
  | x :: F, i => by
    have ih := mdF_put F i
    show (if x = i then (i, D.bool true) :: mdF F else (x, D.bool true) :: putM (mdF F) i (.bool true)) = _
    unfold addF at ih ⊢
    by_cases h : x = i
    · subst h; rw [if_pos rfl, if_pos (List.mem_cons_self ..)]; rfl
    · rw [if_neg h, ih]
      by_cases h2 : i ∈ F
      · rw [if_pos h2, if_pos (List.mem_cons_of_mem _ h2)]; rfl
      · rw [if_neg h2, if_neg (by simp [h2]; exact fun e => h e.symm)]; rfl
theorem mdF_mem {F : List Int} {i : Int} {x : D} (h : (i, x) ∈ mdF F) : i ∈ F ∧ x = .bool true := by
  unfold mdF at h
  obtain ⟨y, hy, e⟩ := List.mem_map.1 h
  cases e
  exact ⟨hy, rfl⟩
theorem mdF_no {F : List Int} {i : Int} (h : ∀ p ∈ mdF F, p.1 ≠ i) : i ∉ F := fun hi => h (i, .bool true) (List.mem_map.2 ⟨i, hi, rfl⟩) rfl
def failE (T : List Tm) (i : Int) : Int := if 1 ≤ i ∧ i ≤ tMany T then 0 else 2
def failF (T : List Tm) (F : List Int) (i : Int) : List Int := if 1 ≤ i ∧ i ≤ tMany T then addF F i else F
def R20 : Ct := fun ss hp r out => ∃ (T : List Tm) (F : List Int) (i : Int) (v0 v1 v2 : Value), ss = [.one (.ptr 0 0), .di .i64 i] ∧ hp = [.box tB, .row 2 (tRow T), .mapd (mdF F), .mem v0 (.ptr 0 0), .mem v1 (.own 1), .mem v2 (.own 2)] ∧ TOk T ∧ r = .di .i64 (failE T i) ∧ out = [.box tB, .row 2 (tRow T), .mapd (mdF (failF T F i)), .mem v0 (.ptr 0 0), .mem v1 (.own 1), .mem v2 (.own 2)]
set_option maxHeartbeats 4000000 in
theorem ok20 : VSound Try.prog (20, R20) := by
  refine vsound (T := ty) (F := [(43, R43), (44, R44)]) (pl := []) (nw := true) (cuts := []) mix tyOk (.cons (ok43) (.cons (ok44) .nil)) Try.func20 (by kernel_rfl) (by kernel_rfl) ?_
  rintro _ _ _ _ ⟨T, F, i, v0, v1, v2, rfl, rfl, hT, rfl, rfl⟩
  have hT0 := hT.pos
  conv => whnf
  (refine ⟨[0, 1, 2], false, false, ?_⟩; (conv => whnf); intro u0 u1 u2; (conv => whnf); refine ⟨_, _, ⟨T, F, u0, u1, u2, rfl, rfl, hT0, rfl, rfl⟩, ?_⟩; (conv => whnf); refine ⟨rfl, ?_⟩; (conv => whnf); refine ⟨rfl, ?_⟩; (conv => whnf); refine ⟨rfl, ?_⟩; (conv => whnf))
  ((first | refine And.intro (fun _ => ?_) (fun h => absurd h (by decide)) | refine And.intro (fun h => absurd h (by decide)) (fun _ => ?_)); (conv => whnf))
  (refine ⟨[0, 1, 2], false, false, ?_⟩; (conv => whnf); intro u0 u1 u2; (conv => whnf); refine ⟨_, _, ⟨T, F, i, u0, u1, u2, rfl, rfl, hT, rfl, rfl⟩, ?_⟩; (conv => whnf); refine ⟨rfl, ?_⟩; (conv => whnf); refine ⟨rfl, ?_⟩; (conv => whnf); refine ⟨rfl, ?_⟩; (conv => whnf))
  refine And.intro (fun (e2 : (_ : Bool) = true) => ?_) (fun (e2 : (_ : Bool) = false) => ?_) <;> (conv => whnf)
  · have hn : ¬ (1 ≤ i ∧ i ≤ tMany T) := by have := e2; simp at this; omega
    (refine ⟨[], ?_⟩; (conv => whnf); refine ⟨[0, 1, 2, 3, 4, 5], by simp, .cons ⟨_, rfl, .cons rfl (.cons rfl .nil)⟩ (.cons ⟨_, rfl, rfl, ?_⟩ (.cons ⟨_, rfl, ?_⟩ (.cons ⟨_, rfl, rfl, rfl, rfl⟩ (.cons ⟨_, rfl, rfl, rfl⟩ (.cons ⟨_, rfl, rfl, rfl⟩ .nil))))), ?_⟩)
    · rfl
    · unfold failF; rw [if_neg hn]; rfl
    · show D.int _ _ = D.int _ _
      unfold failE; rw [if_neg hn]
  · have hn : 1 ≤ i ∧ i ≤ tMany T := by have := e2; simp at this; omega
    (refine ⟨[], ?_⟩; (conv => whnf); refine ⟨[0, 1, 2, 3, 4, 5], by simp, .cons ⟨_, rfl, .cons rfl (.cons rfl .nil)⟩ (.cons ⟨_, rfl, rfl, ?_⟩ (.cons ⟨_, rfl, ?_⟩ (.cons ⟨_, rfl, rfl, rfl, rfl⟩ (.cons ⟨_, rfl, rfl, rfl⟩ (.cons ⟨_, rfl, rfl, rfl⟩ .nil))))), ?_⟩)
    · rfl
    · unfold failF; rw [if_pos hn]; exact mdF_put F i
    · show D.int _ _ = D.int _ _
      unfold failE; rw [if_pos hn]
def tFld (T : List Tm) (F : List Int) : List Int := (tIm T 0).filter fun i => decide (i ∈ F)
def R54 : Ct := fun ss hp r out => ∃ (T : List Tm) (F : List Int) (v0 v1 v2 : Value), ss = [.one (.ptr 0 0)] ∧ hp = [.box tB, .row 2 (tRow T), .mapd (mdF F), .mem v0 (.ptr 0 0), .mem v1 (.own 1), .mem v2 (.own 2)] ∧ TOk T ∧ r = .one (.own 6) ∧ out = [.box tB, .row 2 (tRow T), .mapd (mdF F), .mem v0 (.ptr 0 0), .mem v1 (.own 1), .mem v2 (.own 2), .row 1 ((tFld T F).map inC)]
set_option maxHeartbeats 4000000 in
theorem ok54 : VSound Try.prog (54, R54) := by
  refine vsound (T := ty) (F := [(43, R43)]) (pl := []) (nw := true) (cuts := []) mix tyOk (.cons (ok43) .nil) Try.func54 (by kernel_rfl) (by kernel_rfl) ?_
  rintro _ _ _ _ ⟨T, F, v0, v1, v2, rfl, rfl, hT, rfl, rfl⟩
  have hT0 := hT.pos
  obtain ⟨t, ht⟩ := get_lt (l := T) (i := 0) hT0
  have h8 := hT.im _ (List.mem_of_getElem? ht)
  have e0 : tIm T 0 = t.im := by unfold tIm; rw [if_pos (by omega), show (0 : Int).toNat = 0 from rfl, ht]; rfl
  unfold tFld
  rw [e0]
  conv => whnf
  (refine ⟨[0, 1, 2], false, false, ?_⟩; (conv => whnf); intro u0 u1 u2; (conv => whnf); refine ⟨_, _, ⟨T, F, u0, u1, u2, rfl, rfl, hT0, rfl, rfl⟩, ?_⟩; (conv => whnf); refine ⟨rfl, ?_⟩; (conv => whnf); refine ⟨rfl, ?_⟩; (conv => whnf); refine ⟨rfl, ?_⟩; (conv => whnf))
  ((first | refine And.intro (fun _ => ?_) (fun h => absurd h (by decide)) | refine And.intro (fun h => absurd h (by decide)) (fun _ => ?_)); (conv => whnf))
  refine And.intro ⟨by omega, by rw [tRow_len]; exact hT0⟩ ?_
  conv => whnf
  refine ⟨_, And.intro (tRow_get ht) ?_⟩
  conv => whnf
  refine ⟨[.slot 3 true], [0, 3, 14, 15, 16], 7, fun n1 σ => ∃ i : Nat, i ≤ t.im.length ∧ n1 = t.im.length - i ∧ σ = (⟨[.one (.ptr 0 0), .junk, .junk, .one (.own 6), .junk, .junk, .junk, .junk, .junk, .junk, .junk, .junk, .junk, .junk, .one (.d (.sl 1 (t.im.map inC))), .di .i64 t.im.length, .di .i64 i, .junk, .junk, .junk, .junk, .junk, .junk, .junk, .junk, .junk, .junk, .junk, .junk, .junk, .junk, .junk], [.box tB, .row 2 (tRow T), .mapd (mdF F), .mem v0 (.ptr 0 0), .mem v1 (.own 1), .mem v2 (.own 2), .row 1 (((t.im.take i).filter fun i => decide (i ∈ F)).map inC)]⟩ : St), ?_, ?_⟩
  · refine ⟨t.im.length, ?_⟩
    conv => whnf
    exact ⟨0, by omega, by omega, by rw [map_len]; rfl⟩
  · rintro n1 _ ⟨i, hi, rfl, rfl⟩
    conv => whnf
    ((with_reducible refine And.intro (fun (e : (_ : Bool) = true) => ?_) (fun (e : (_ : Bool) = false) => ?_)) <;> (try simp only [reduceCtorEq, ints_len, bools_len, bif_t, bif_f, zv0, zv1, zv2, zv3, zv4, zv5, zv6, zv7, zv8, zv9, zv10, zv11, zv12, zv13, zv14, zv15, zv16, zv17, zv18, zv19, zv20, zv21, zv22, zv23, zv24] at e) <;> (conv => whnf))
    · obtain ⟨y, hget⟩ := get_lt (l := t.im) (i := i) (by omega)
      (refine ⟨_, And.intro ⟨by omega, enc_get hget⟩ ?_⟩; (conv => whnf))
      have htk : t.im.take (i + 1) = t.im.take i ++ [y] := by rw [List.take_add_one, hget]; rfl
      have hfl : ((t.im.take i).filter fun i => decide (i ∈ F)).length ≤ 8 := Nat.le_trans (List.length_filter_le ..) (by rw [List.length_take]; omega)
      refine ⟨fun x hx => ?_, fun hx => ?_⟩
      · obtain ⟨h1, rfl⟩ := mdF_mem hx
        conv => whnf
        ((first | refine And.intro (fun _ => ?_) (fun h => absurd h (by decide)) | refine And.intro (fun h => absurd h (by decide)) (fun _ => ?_)); (conv => whnf))
        repeat' (first | (refine And.intro ?_ ?_; (rw [map_len]; simp only [List.length_cons, List.length_nil]; omega); (conv => whnf)) | (refine And.intro ?_ ?_; ((first | (with_reducible assumption) | (intro _; with_reducible assumption) | omega | (simp only [reduceCtorEq, ints_len, bools_len, bif_t, bif_f, zv0, zv1, zv2, zv3, zv4, zv5, zv6, zv7, zv8, zv9, zv10, zv11, zv12, zv13, zv14, zv15, zv16, zv17, zv18, zv19, zv20, zv21, zv22, zv23, zv24] at *; omega) | (intro hg; (try simp only [reduceCtorEq, ints_len, bools_len, bif_t, bif_f, zv0, zv1, zv2, zv3, zv4, zv5, zv6, zv7, zv8, zv9, zv10, zv11, zv12, zv13, zv14, zv15, zv16, zv17, zv18, zv19, zv20, zv21, zv22, zv23, zv24] at hg); first | (with_reducible assumption) | omega | (simp only [reduceCtorEq, ints_len, bools_len, bif_t, bif_f, zv0, zv1, zv2, zv3, zv4, zv5, zv6, zv7, zv8, zv9, zv10, zv11, zv12, zv13, zv14, zv15, zv16, zv17, zv18, zv19, zv20, zv21, zv22, zv23, zv24] at *; omega) | (refine ⟨?_, ?_⟩ <;> omega)) | (refine ⟨?_, ?_⟩ <;> omega) | (simp [*]; done) | grind)); (conv => whnf)) | (refine And.intro ?_ ?_ <;> (conv => whnf)))
        all_goals
          refine ⟨t.im.length - (i + 1), by omega, [], ?_⟩
          conv => whnf
          refine ⟨i + 1, by omega, rfl, ?_⟩
          rw [htk, List.filter_append, show [y].filter (fun i => decide (i ∈ F)) = [y] from List.filter_cons_of_pos (by simpa using h1), List.map_append]; rfl
      · have h1 := mdF_no hx
        conv => whnf
        ((first | refine And.intro (fun _ => ?_) (fun h => absurd h (by decide)) | refine And.intro (fun h => absurd h (by decide)) (fun _ => ?_)); (conv => whnf))
        (refine And.intro ?_ ?_; ((first | (with_reducible assumption) | (intro _; with_reducible assumption) | omega | (simp only [reduceCtorEq, ints_len, bools_len, bif_t, bif_f, zv0, zv1, zv2, zv3, zv4, zv5, zv6, zv7, zv8, zv9, zv10, zv11, zv12, zv13, zv14, zv15, zv16, zv17, zv18, zv19, zv20, zv21, zv22, zv23, zv24] at *; omega) | (intro hg; (try simp only [reduceCtorEq, ints_len, bools_len, bif_t, bif_f, zv0, zv1, zv2, zv3, zv4, zv5, zv6, zv7, zv8, zv9, zv10, zv11, zv12, zv13, zv14, zv15, zv16, zv17, zv18, zv19, zv20, zv21, zv22, zv23, zv24] at hg); first | (with_reducible assumption) | omega | (simp only [reduceCtorEq, ints_len, bools_len, bif_t, bif_f, zv0, zv1, zv2, zv3, zv4, zv5, zv6, zv7, zv8, zv9, zv10, zv11, zv12, zv13, zv14, zv15, zv16, zv17, zv18, zv19, zv20, zv21, zv22, zv23, zv24] at *; omega) | (refine ⟨?_, ?_⟩ <;> omega)) | (refine ⟨?_, ?_⟩ <;> omega) | (simp [*]; done) | grind)); (conv => whnf))
        refine ⟨t.im.length - (i + 1), by omega, [], ?_⟩
        conv => whnf
        refine ⟨i + 1, by omega, rfl, ?_⟩
        rw [htk, List.filter_append, show [y].filter (fun i => decide (i ∈ F)) = [] from List.filter_cons_of_neg (by simpa using h1), List.append_nil]
        rfl
    · have hi' : i = t.im.length := by omega
      subst hi'
      rw [List.take_length]
      refine ⟨[], ?_⟩
      conv => whnf
      (refine ⟨[0, 1, 2, 3, 4, 5, 6], by simp, .cons ⟨_, rfl, .cons rfl (.cons rfl .nil)⟩ (.cons ⟨_, rfl, rfl, ?_⟩ (.cons ⟨_, rfl, ?_⟩ (.cons ⟨_, rfl, rfl, rfl, rfl⟩ (.cons ⟨_, rfl, rfl, rfl⟩ (.cons ⟨_, rfl, rfl, rfl⟩ (.cons ⟨_, rfl, rfl, ?_⟩ .nil)))))), ?_⟩)
      · rfl
      · rfl
      · rfl
      · rfl
/-- a pointer to teams in a box, the teams behind it -/
def tC : List C := [.own 2, .own 3]
def R80 : Ct := fun ss hp r out => ∃ (T : List Tm) (F : List Int) (x : Int) (v0 v1 v2 v3 : Value), ss = [.di .i64 x, .one (.ptr 0 0)] ∧ hp = [.box [.ptr 1 0], .box tC, .row 2 (tRow T), .mapd (mdF F), .mem v0 (.ptr 0 0), .mem v1 (.ptr 1 0), .mem v2 (.own 2), .mem v3 (.own 3)] ∧ r = .db (decide (x ∈ F)) ∧ out = [.box [.ptr 1 0], .box tC, .row 2 (tRow T), .mapd (mdF F), .mem v0 (.ptr 0 0), .mem v1 (.ptr 1 0), .mem v2 (.own 2), .mem v3 (.own 3)]
set_option maxHeartbeats 4000000 in
theorem ok80 : VSound Try.prog (80, R80) := by
  refine vsound (T := ty) (F := []) (pl := []) (nw := true) (cuts := []) mix tyOk .nil Try.func80 (by kernel_rfl) (by kernel_rfl) ?_
  rintro _ _ _ _ ⟨T, F, x, v0, v1, v2, v3, rfl, rfl, rfl, rfl⟩
  conv => whnf
  refine ⟨fun y hy => ?_, fun hy => ?_⟩
  · obtain ⟨h1, rfl⟩ := mdF_mem hy
    conv => whnf
    (refine ⟨[], ?_⟩; (conv => whnf); refine ⟨[0, 1, 2, 3, 4, 5, 6, 7], by simp, .cons ⟨_, rfl, .cons ⟨rfl, rfl⟩ .nil⟩ (.cons ⟨_, rfl, .cons rfl (.cons rfl .nil)⟩ (.cons ⟨_, rfl, rfl, rfl⟩ (.cons ⟨_, rfl, rfl⟩ (.cons ⟨_, rfl, rfl, rfl, rfl⟩ (.cons ⟨_, rfl, rfl, rfl, rfl⟩ (.cons ⟨_, rfl, rfl, rfl⟩ (.cons ⟨_, rfl, rfl, rfl⟩ .nil))))))), ?_⟩)
    show D.bool _ = D.bool _
    rw [decide_eq_true h1]
  · have h1 := mdF_no hy
    conv => whnf
    (refine ⟨[], ?_⟩; (conv => whnf); refine ⟨[0, 1, 2, 3, 4, 5, 6, 7], by simp, .cons ⟨_, rfl, .cons ⟨rfl, rfl⟩ .nil⟩ (.cons ⟨_, rfl, .cons rfl (.cons rfl .nil)⟩ (.cons ⟨_, rfl, rfl, rfl⟩ (.cons ⟨_, rfl, rfl⟩ (.cons ⟨_, rfl, rfl, rfl, rfl⟩ (.cons ⟨_, rfl, rfl, rfl, rfl⟩ (.cons ⟨_, rfl, rfl, rfl⟩ (.cons ⟨_, rfl, rfl, rfl⟩ .nil))))))), ?_⟩)
    show D.bool _ = D.bool _
    rw [decide_eq_false h1]
def R108m : Ct := fun ss hp r out => ∃ (T : List Tm) (F : List Int) (l : List Int) (v0 v1 v2 v3 : Value), ss = [.one (.d (.sl 1 (l.map inC))), .one (.fn 80 [.ptr 0])] ∧ hp = [.box [.ptr 1 0], .box tC, .row 2 (tRow T), .mapd (mdF F), .mem v0 (.ptr 0 0), .mem v1 (.ptr 1 0), .mem v2 (.own 2), .mem v3 (.own 3)] ∧ l.length < 4611686018427387904 ∧ r = .di .i64 (idx (fun y => decide (y ∈ F)) l) ∧ out = [.box [.ptr 1 0], .box tC, .row 2 (tRow T), .mapd (mdF F), .mem v0 (.ptr 0 0), .mem v1 (.ptr 1 0), .mem v2 (.own 2), .mem v3 (.own 3)]
set_option maxHeartbeats 4000000 in
theorem ok108m : VSound Try.prog (108, R108m) := by
  refine vsound (T := ty) (F := [(80, R80)]) (pl := []) (nw := true) (cuts := []) mix tyOk (.cons (ok80) .nil) Try.func108 (by kernel_rfl) (by kernel_rfl) ?_
  rintro _ _ _ _ ⟨T, F, l, v0, v1, v2, v3, rfl, rfl, hl, rfl, rfl⟩
  conv => whnf
  refine ⟨[], [0, 1, 7, 8], 8, fun n σ => ∃ i : Nat, i ≤ l.length ∧ n = l.length - i ∧ (∀ j < i, ∀ y, l[j]? = some y → decide (y ∈ F) = false) ∧ σ = (⟨[.one (.d (.sl 1 (l.map inC))), .one (.fn 80 [.ptr 0]), .junk, .junk, .junk, .junk, .junk, .di .i64 l.length, .di .i64 i, .junk, .junk, .junk, .junk, .junk, .junk, .junk, .junk, .junk, .junk], [.box [.ptr 1 0], .box tC, .row 2 (tRow T), .mapd (mdF F), .mem v0 (.ptr 0 0), .mem v1 (.ptr 1 0), .mem v2 (.own 2), .mem v3 (.own 3)]⟩ : St), ?_, ?_⟩
  · refine ⟨l.length, ?_⟩
    conv => whnf
    exact ⟨0, by omega, by omega, by omega, by rw [map_len]; rfl⟩
  · rintro n _ ⟨i, hi, rfl, hb, rfl⟩
    conv => whnf
    ((with_reducible refine And.intro (fun (e : (_ : Bool) = true) => ?_) (fun (e : (_ : Bool) = false) => ?_)) <;> (try simp only [reduceCtorEq, ints_len, bools_len, bif_t, bif_f, zv0, zv1, zv2, zv3, zv4, zv5, zv6, zv7, zv8, zv9, zv10, zv11, zv12, zv13, zv14, zv15, zv16, zv17, zv18, zv19, zv20, zv21, zv22, zv23, zv24] at e) <;> (conv => whnf))
    · obtain ⟨y, hget⟩ := get_lt (l := l) (i := i) (by omega)
      (refine ⟨_, And.intro ⟨by omega, enc_get hget⟩ ?_⟩; (conv => whnf))
      (refine ⟨[0, 1, 2, 3], false, false, ?_⟩; (conv => whnf); intro u0 u1 u2 u3; (conv => whnf); refine ⟨_, _, ⟨T, F, y, u0, u1, u2, u3, rfl, rfl, rfl, rfl⟩, ?_⟩; (conv => whnf); refine ⟨rfl, ?_⟩; (conv => whnf); refine ⟨rfl, ?_⟩; (conv => whnf); refine ⟨rfl, ?_⟩; (conv => whnf); refine ⟨rfl, ?_⟩; (conv => whnf))
      refine And.intro (fun (e2 : (_ : Bool) = true) => ?_) (fun (e2 : (_ : Bool) = false) => ?_)
      · conv => whnf
        (refine ⟨[], ?_⟩; (conv => whnf); refine ⟨[0, 1, 2, 3, 4, 5, 6, 7], by simp, .cons ⟨_, rfl, .cons ⟨rfl, rfl⟩ .nil⟩ (.cons ⟨_, rfl, .cons rfl (.cons rfl .nil)⟩ (.cons ⟨_, rfl, rfl, rfl⟩ (.cons ⟨_, rfl, rfl⟩ (.cons ⟨_, rfl, rfl, rfl, rfl⟩ (.cons ⟨_, rfl, rfl, rfl, rfl⟩ (.cons ⟨_, rfl, rfl, rfl⟩ (.cons ⟨_, rfl, rfl, rfl⟩ .nil))))))), ?_⟩)
        show D.int _ _ = D.int _ _
        congr 1
        exact (idx_at hget e2 hb).symm
      · conv => whnf
        (refine And.intro ?_ ?_; ((first | (with_reducible assumption) | (intro _; with_reducible assumption) | omega | (simp only [reduceCtorEq, ints_len, bools_len, bif_t, bif_f, zv0, zv1, zv2, zv3, zv4, zv5, zv6, zv7, zv8, zv9, zv10, zv11, zv12, zv13, zv14, zv15, zv16, zv17, zv18, zv19, zv20, zv21, zv22, zv23, zv24] at *; omega) | (intro hg; (try simp only [reduceCtorEq, ints_len, bools_len, bif_t, bif_f, zv0, zv1, zv2, zv3, zv4, zv5, zv6, zv7, zv8, zv9, zv10, zv11, zv12, zv13, zv14, zv15, zv16, zv17, zv18, zv19, zv20, zv21, zv22, zv23, zv24] at hg); first | (with_reducible assumption) | omega | (simp only [reduceCtorEq, ints_len, bools_len, bif_t, bif_f, zv0, zv1, zv2, zv3, zv4, zv5, zv6, zv7, zv8, zv9, zv10, zv11, zv12, zv13, zv14, zv15, zv16, zv17, zv18, zv19, zv20, zv21, zv22, zv23, zv24] at *; omega) | (refine ⟨?_, ?_⟩ <;> omega)) | (refine ⟨?_, ?_⟩ <;> omega) | (simp [*]; done) | grind)); (conv => whnf))
        refine ⟨l.length - (i + 1), by omega, [], ?_⟩
        conv => whnf
        refine ⟨i + 1, by omega, rfl, fun j hj y' hy => ?_, rfl⟩
        by_cases ej : j = i
        · subst ej; rw [hget] at hy; cases hy; exact e2
        · exact hb j (by omega) y' hy
    · (refine ⟨[], ?_⟩; (conv => whnf); refine ⟨[0, 1, 2, 3, 4, 5, 6, 7], by simp, .cons ⟨_, rfl, .cons ⟨rfl, rfl⟩ .nil⟩ (.cons ⟨_, rfl, .cons rfl (.cons rfl .nil)⟩ (.cons ⟨_, rfl, rfl, rfl⟩ (.cons ⟨_, rfl, rfl⟩ (.cons ⟨_, rfl, rfl, rfl, rfl⟩ (.cons ⟨_, rfl, rfl, rfl, rfl⟩ (.cons ⟨_, rfl, rfl, rfl⟩ (.cons ⟨_, rfl, rfl, rfl⟩ .nil))))))), ?_⟩)
      show D.int _ _ = D.int _ _
      congr 1
      refine (idx_none fun y hy => ?_).symm
      obtain ⟨j, hj⟩ := List.getElem?_of_mem hy
      have := (List.getElem?_eq_some_iff.1 hj).1
      exact hb j (by omega) y hj
def R79m : Ct := fun ss hp r out => ∃ (T : List Tm) (F : List Int) (l : List Int) (v0 v1 v2 v3 : Value), ss = [.one (.d (.sl 1 (l.map inC))), .one (.fn 80 [.ptr 0])] ∧ hp = [.box [.ptr 1 0], .box tC, .row 2 (tRow T), .mapd (mdF F), .mem v0 (.ptr 0 0), .mem v1 (.ptr 1 0), .mem v2 (.own 2), .mem v3 (.own 3)] ∧ l.length < 4611686018427387904 ∧ r = .db (l.any fun y => decide (y ∈ F)) ∧ out = [.box [.ptr 1 0], .box tC, .row 2 (tRow T), .mapd (mdF F), .mem v0 (.ptr 0 0), .mem v1 (.ptr 1 0), .mem v2 (.own 2), .mem v3 (.own 3)]
set_option maxHeartbeats 4000000 in
theorem ok79m : VSound Try.prog (79, R79m) := by
  refine vsound (T := ty) (F := [(108, R108m)]) (pl := []) (nw := true) (cuts := []) mix tyOk (.cons (ok108m) .nil) Try.func79 (by kernel_rfl) (by kernel_rfl) ?_
  rintro _ _ _ _ ⟨T, F, l, v0, v1, v2, v3, rfl, rfl, hl, rfl, rfl⟩
  conv => whnf
  (refine ⟨[0, 1, 2, 3], false, false, ?_⟩; (conv => whnf); intro u0 u1 u2 u3; (conv => whnf); refine ⟨_, _, ⟨T, F, l, u0, u1, u2, u3, rfl, rfl, hl, rfl, rfl⟩, ?_⟩; (conv => whnf); refine ⟨rfl, ?_⟩; (conv => whnf); refine ⟨rfl, ?_⟩; (conv => whnf); refine ⟨rfl, ?_⟩; (conv => whnf); refine ⟨rfl, ?_⟩; (conv => whnf))
  (refine ⟨[], ?_⟩; (conv => whnf); refine ⟨[0, 1, 2, 3, 4, 5, 6, 7], by simp, .cons ⟨_, rfl, .cons ⟨rfl, rfl⟩ .nil⟩ (.cons ⟨_, rfl, .cons rfl (.cons rfl .nil)⟩ (.cons ⟨_, rfl, rfl, rfl⟩ (.cons ⟨_, rfl, rfl⟩ (.cons ⟨_, rfl, rfl, rfl, rfl⟩ (.cons ⟨_, rfl, rfl, rfl, rfl⟩ (.cons ⟨_, rfl, rfl, rfl⟩ (.cons ⟨_, rfl, rfl, rfl⟩ .nil))))))), ?_⟩)
  show D.bool _ = D.bool _
  rw [← idx_any]
def tBrk (T : List Tm) (F : List Int) (k : Int) : Bool := (tIm T k).any fun y => decide (y ∈ F)
def R47 : Ct := fun ss hp r out => ∃ (T : List Tm) (F : List Int) (k : Int) (v0 v1 v2 : Value), ss = [.one (.ptr 0 0), .di .i64 k] ∧ hp = [.box tB, .row 2 (tRow T), .mapd (mdF F), .mem v0 (.ptr 0 0), .mem v1 (.own 1), .mem v2 (.own 2)] ∧ TOk T ∧ tErr T k = 0 ∧ r = .db (tBrk T F k) ∧ out = [.box tB, .row 2 (tRow T), .mapd (mdF F), .mem v0 (.ptr 0 0), .mem v1 (.own 1), .mem v2 (.own 2)]
set_option maxHeartbeats 4000000 in
theorem ok47 : VSound Try.prog (47, R47) := by
  refine vsound (T := ty) (F := [(79, R79m)]) (pl := []) (nw := true) (cuts := []) mix tyOk (.cons (ok79m) .nil) Try.func47 (by kernel_rfl) (by kernel_rfl) ?_
  rintro _ _ _ _ ⟨T, F, k, v0, v1, v2, rfl, rfl, hT, hk, rfl, rfl⟩
  obtain ⟨h1, h2, t, ht⟩ := tErr_at hk
  have h8 := hT.im _ (List.mem_of_getElem? ht)
  conv => whnf
  refine And.intro ⟨h1, by rw [tRow_len]; exact h2⟩ ?_
  conv => whnf
  refine ⟨_, And.intro (tRow_get ht) ?_⟩
  conv => whnf
  (refine ⟨[6, 0, 1, 2], false, true, ?_⟩; (conv => whnf); intro u0 u1 u2 u3; (conv => whnf); refine ⟨_, _, ⟨T, F, t.im, u0, u1, u2, u3, rfl, rfl, by omega, rfl, rfl⟩, ?_⟩; (conv => whnf); refine ⟨rfl, ?_⟩; (conv => whnf); refine ⟨rfl, ?_⟩; (conv => whnf); refine ⟨rfl, ?_⟩; (conv => whnf); refine ⟨rfl, ?_⟩; (conv => whnf))
  (refine ⟨[], ?_⟩; (conv => whnf); refine ⟨[0, 1, 2, 3, 4, 5], by simp, .cons ⟨_, rfl, .cons rfl (.cons rfl .nil)⟩ (.cons ⟨_, rfl, rfl, ?_⟩ (.cons ⟨_, rfl, ?_⟩ (.cons ⟨_, rfl, rfl, rfl, rfl⟩ (.cons ⟨_, rfl, rfl, rfl⟩ (.cons ⟨_, rfl, rfl, rfl⟩ .nil))))), ?_⟩)
  · rfl
  · rfl
  · show D.bool _ = D.bool _
    unfold tBrk tIm
    rw [if_pos h1, ht]
    rfl
def oneTo (n : Nat) : List Int := (List.range n).map fun (i : Nat) => (i : Int) + 1
theorem oneTo_succ (i : Nat) : oneTo (i + 1) = oneTo i ++ [(i : Int) + 1] := by unfold oneTo; rw [List.range_succ, List.map_append]; rfl
theorem oneTo_len (i : Nat) : (oneTo i).length = i := by simp [oneTo]
def newT (n : Int) : List Tm := [⟨-1, oneTo n.toNat⟩]
def R19 : Ct := fun ss hp r out => ∃ n : Int, ss = [.di .i64 n] ∧ hp = [] ∧ ((1 ≤ n ∧ n ≤ 8 ∧ r = .tup [.c (.ptr 0 0), .c (.d (.int .i64 0))] ∧ out = [.box tB, .row 2 (tRow (newT n)), .mapd (mdF [])]) ∨ (¬ (1 ≤ n ∧ n ≤ 8) ∧ r = .tup [.c (.d (.val (.pointer none))), .c (.d (.int .i64 2))] ∧ out = []))
set_option maxHeartbeats 4000000 in
theorem ok19 : VSound Try.prog (19, R19) := by
  refine vsound (T := ty) (F := []) (pl := []) (nw := true) (cuts := []) mix tyOk .nil Try.func19 (by kernel_rfl) (by kernel_rfl) ?_
  rintro _ _ _ _ ⟨n, rfl, rfl, hn⟩
  conv => whnf
  (repeat ((first | with_reducible refine And.intro (fun h => h) ?_ | with_reducible refine And.intro (fun _ => rfl) ?_ | with_reducible refine And.intro rfl ?_); conv => whnf))
  refine And.intro (fun (e2 : (_ : Bool) = true) => ?_) (fun (e2 : (_ : Bool) = false) => ?_)
  · have h1 : ¬ (1 ≤ n ∧ n ≤ 8) := by have := e2; simp at this; omega
    rcases hn with ⟨h2, h3, _⟩ | ⟨_, rfl, rfl⟩
    · exact absurd ⟨h2, h3⟩ h1
    · conv => whnf
      refine ⟨[], ?_⟩
      conv => whnf
      exact ⟨[], .nil, .nil, .cons rfl (.cons rfl .nil)⟩
  · have h1 : 1 ≤ n ∧ n ≤ 8 := by have := e2; simp at this; omega
    rcases hn with ⟨h2, h3, rfl, rfl⟩ | ⟨h, _⟩
    rotate_left
    · exact absurd h1 h
    conv => whnf
    obtain ⟨m, rfl⟩ : ∃ m : Nat, n = m := ⟨n.toNat, by omega⟩
    refine ⟨[.cell 0 1], [4, 13, 14], 2, fun n1 σ => ∃ i : Nat, i ≤ m ∧ n1 = m - i ∧ σ = (⟨[.junk, .junk, .junk, .junk, .one (.ptr 0 0), .junk, .junk, .junk, .junk, .junk, .junk, .junk, .junk, .di .i64 m, .di .i64 i, .junk, .junk, .junk, .junk, .junk, .junk, .junk, .junk, .junk, .junk, .junk, .junk, .junk, .junk, .junk], [.box [.d (.int .i64 (-1)), .own 1], .row 1 ((oneTo i).map inC)]⟩ : St), ?_, ?_⟩
    · refine ⟨m, ?_⟩
      conv => whnf
      exact ⟨0, by omega, by omega, rfl⟩
    · rintro n1 _ ⟨i, hi, rfl, rfl⟩
      conv => whnf
      ((with_reducible refine And.intro (fun (e : (_ : Bool) = true) => ?_) (fun (e : (_ : Bool) = false) => ?_)) <;> (try simp only [reduceCtorEq, ints_len, bools_len, bif_t, bif_f, zv0, zv1, zv2, zv3, zv4, zv5, zv6, zv7, zv8, zv9, zv10, zv11, zv12, zv13, zv14, zv15, zv16, zv17, zv18, zv19, zv20, zv21, zv22, zv23, zv24] at e) <;> (conv => whnf))
      · repeat' (first | (refine And.intro ?_ ?_; (rw [map_len, oneTo_len]; simp only [List.length_cons, List.length_nil]; omega); (conv => whnf)) | (refine And.intro ?_ ?_; ((first | (with_reducible assumption) | (intro _; with_reducible assumption) | omega | (simp only [reduceCtorEq, ints_len, bools_len, bif_t, bif_f, zv0, zv1, zv2, zv3, zv4, zv5, zv6, zv7, zv8, zv9, zv10, zv11, zv12, zv13, zv14, zv15, zv16, zv17, zv18, zv19, zv20, zv21, zv22, zv23, zv24] at *; omega) | (intro hg; (try simp only [reduceCtorEq, ints_len, bools_len, bif_t, bif_f, zv0, zv1, zv2, zv3, zv4, zv5, zv6, zv7, zv8, zv9, zv10, zv11, zv12, zv13, zv14, zv15, zv16, zv17, zv18, zv19, zv20, zv21, zv22, zv23, zv24] at hg); first | (with_reducible assumption) | omega | (simp only [reduceCtorEq, ints_len, bools_len, bif_t, bif_f, zv0, zv1, zv2, zv3, zv4, zv5, zv6, zv7, zv8, zv9, zv10, zv11, zv12, zv13, zv14, zv15, zv16, zv17, zv18, zv19, zv20, zv21, zv22, zv23, zv24] at *; omega) | (refine ⟨?_, ?_⟩ <;> omega)) | (refine ⟨?_, ?_⟩ <;> omega) | (simp [*]; done) | grind)); (conv => whnf)) | (refine And.intro ?_ ?_ <;> (conv => whnf)))
        all_goals
          refine ⟨m - (i + 1), by omega, [], ?_⟩
          conv => whnf
          refine ⟨i + 1, by omega, rfl, ?_⟩
          rw [oneTo_succ, List.map_append]; rfl
      · have hi' : i = m := by omega
        subst hi'
        refine ⟨[], ?_⟩
        conv => whnf
        refine ⟨[4, 2, 3], by simp, .cons ⟨_, rfl, .cons rfl (.cons rfl .nil)⟩ (.cons ⟨_, rfl, rfl, rfl⟩ (.cons ⟨_, rfl, rfl⟩ .nil)), .cons ⟨rfl, rfl⟩ (.cons rfl .nil)⟩
end Go.Proofs.Ytphmcgmblkbijaa.V
-- Tc
namespace Go.Proofs.Ytphmcgmblkbijaa.V
open Go.Proofs.YtphmcgmblkbijaaVY Go.RowKit
def rB : List C := [.own 1, .own 2, .own 3]
def pRow (T : List Tm) : List (List D) := (T.map Tm.par).map inC
def iRow (T : List Tm) : List (List D) := T.map fun t => [.sl 1 (t.im.map inC)]
theorem iRow_len (T : List Tm) : (iRow T).length = T.length := List.length_map ..
theorem iRow_get {T : List Tm} {i : Nat} {t : Tm} (h : T[i]? = some t) : (iRow T)[i]? = some [.sl 1 (t.im.map inC)] := by unfold iRow; rw [List.getElem?_map, h]; rfl
theorem pRow_len (T : List Tm) : (pRow T).length = T.length := by simp [pRow]
theorem pRow_get {T : List Tm} {i : Nat} {t : Tm} (h : T[i]? = some t) : (pRow T)[i]? = some [.int .i64 t.par] := by unfold pRow; rw [List.getElem?_map, List.getElem?_map, h]; rfl
def R86 : Ct := fun ss hp r out => ∃ (T : List Tm) (F : List Int) (k : Int) (v0 v1 v2 v3 : Value), ss = [.one (.ptr 0 0), .di .i64 k] ∧ hp = [.box rB, .row 1 (pRow T), .row 1 (iRow T), .mapd (mdF F), .mem v0 (.ptr 0 0), .mem v1 (.own 1), .mem v2 (.own 2), .mem v3 (.own 3)] ∧ r = .db (decide (0 ≤ k ∧ k < T.length)) ∧ out = [.box rB, .row 1 (pRow T), .row 1 (iRow T), .mapd (mdF F), .mem v0 (.ptr 0 0), .mem v1 (.own 1), .mem v2 (.own 2), .mem v3 (.own 3)]
set_option maxHeartbeats 4000000 in
theorem ok86 : VSound Try.prog (86, R86) := by
  refine vsound (T := ty) (F := []) (pl := []) (nw := true) (cuts := []) mix tyOk .nil Try.func86 (by kernel_rfl) (by kernel_rfl) ?_
  rintro _ _ _ _ ⟨T, F, k, v0, v1, v2, v3, rfl, rfl, rfl, rfl⟩
  conv => whnf
  (repeat ((first | with_reducible refine And.intro (fun h => h) ?_ | with_reducible refine And.intro (fun _ => rfl) ?_ | with_reducible refine And.intro rfl ?_); conv => whnf))
  (refine ⟨[], ?_⟩; (conv => whnf); refine ⟨[0, 1, 2, 3, 4, 5, 6, 7], by simp, .cons ⟨_, rfl, .cons rfl (.cons rfl (.cons rfl .nil))⟩ (.cons ⟨_, rfl, rfl, ?_⟩ (.cons ⟨_, rfl, rfl, ?_⟩ (.cons ⟨_, rfl, ?_⟩ (.cons ⟨_, rfl, rfl, rfl, rfl⟩ (.cons ⟨_, rfl, rfl, rfl⟩ (.cons ⟨_, rfl, rfl, rfl⟩ (.cons ⟨_, rfl, rfl, rfl⟩ .nil))))))), ?_⟩)
  · rfl
  · rfl
  · rfl
  · show D.bool _ = D.bool _
    congr 1
    rw [iRow_len]
    by_cases h : 0 ≤ k <;> by_cases h2 : k < (T.length : Int) <;> simp [h, h2] <;> omega
theorem tErr_has {T : List Tm} {k : Int} (h : (!decide (0 ≤ k ∧ k < (T.length : Int))) = false) : tErr T k = 0 := by
  unfold tErr; rw [if_pos (by simpa using h)]
theorem tErr_hasn {T : List Tm} {k : Int} (h : (!decide (0 ≤ k ∧ k < (T.length : Int))) = true) : tErr T k = 5 := by
  unfold tErr; rw [if_neg (by simp at h; omega)]
def R57 : Ct := fun ss hp r out => ∃ (T : List Tm) (F : List Int) (k : Int) (v0 v1 v2 v3 : Value), ss = [.one (.ptr 0 0), .di .i64 k] ∧ hp = [.box rB, .row 1 (pRow T), .row 1 (iRow T), .mapd (mdF F), .mem v0 (.ptr 0 0), .mem v1 (.own 1), .mem v2 (.own 2), .mem v3 (.own 3)] ∧ r = .tup [.c (.d (.int .i64 (tPar T k))), .c (.d (.int .i64 (tErr T k)))] ∧ out = [.box rB, .row 1 (pRow T), .row 1 (iRow T), .mapd (mdF F), .mem v0 (.ptr 0 0), .mem v1 (.own 1), .mem v2 (.own 2), .mem v3 (.own 3)]
set_option maxHeartbeats 4000000 in
theorem ok57 : VSound Try.prog (57, R57) := by
  refine vsound (T := ty) (F := [(86, R86)]) (pl := []) (nw := true) (cuts := []) mix tyOk (.cons (ok86) .nil) Try.func57 (by kernel_rfl) (by kernel_rfl) ?_
  rintro _ _ _ _ ⟨T, F, k, v0, v1, v2, v3, rfl, rfl, rfl, rfl⟩
  conv => whnf
  (refine ⟨[0, 1, 2, 3], false, false, ?_⟩; (conv => whnf); intro u0 u1 u2 u3; (conv => whnf); refine ⟨_, _, ⟨T, F, k, u0, u1, u2, u3, rfl, rfl, rfl, rfl⟩, ?_⟩; (conv => whnf); refine ⟨rfl, ?_⟩; (conv => whnf); refine ⟨rfl, ?_⟩; (conv => whnf); refine ⟨rfl, ?_⟩; (conv => whnf); refine ⟨rfl, ?_⟩; (conv => whnf))
  refine And.intro (fun (e2 : (_ : Bool) = true) => ?_) (fun (e2 : (_ : Bool) = false) => ?_) <;> (conv => whnf)
  · have e := tErr_hasn e2
    obtain ⟨h1, h2⟩ := tErr_no (T := T) (k := k) (by rw [e]; decide)
    (refine ⟨[], ?_⟩; (conv => whnf); refine ⟨[0, 1, 2, 3, 4, 5, 6, 7], by simp, .cons ⟨_, rfl, .cons rfl (.cons rfl (.cons rfl .nil))⟩ (.cons ⟨_, rfl, rfl, ?_⟩ (.cons ⟨_, rfl, rfl, ?_⟩ (.cons ⟨_, rfl, ?_⟩ (.cons ⟨_, rfl, rfl, rfl, rfl⟩ (.cons ⟨_, rfl, rfl, rfl⟩ (.cons ⟨_, rfl, rfl, rfl⟩ (.cons ⟨_, rfl, rfl, rfl⟩ .nil))))))), ?_⟩)
    · rfl
    · rfl
    · rfl
    · refine .cons (show D.int _ _ = D.int _ _ from ?_) (.cons (show D.int _ _ = D.int _ _ from ?_) .nil)
      · congr 1
        unfold tPar
        split
        · rw [List.getElem?_eq_none (by omega)]; rfl
        · rfl
      · rw [e]
  · have e := tErr_has e2
    obtain ⟨h1, h2, t, ht⟩ := tErr_at e
    refine And.intro ⟨h1, by rw [pRow_len]; exact h2⟩ ?_
    conv => whnf
    refine ⟨_, And.intro (pRow_get ht) ?_⟩
    conv => whnf
    (refine ⟨[], ?_⟩; (conv => whnf); refine ⟨[0, 1, 2, 3, 4, 5, 6, 7], by simp, .cons ⟨_, rfl, .cons rfl (.cons rfl (.cons rfl .nil))⟩ (.cons ⟨_, rfl, rfl, ?_⟩ (.cons ⟨_, rfl, rfl, ?_⟩ (.cons ⟨_, rfl, ?_⟩ (.cons ⟨_, rfl, rfl, rfl, rfl⟩ (.cons ⟨_, rfl, rfl, rfl⟩ (.cons ⟨_, rfl, rfl, rfl⟩ (.cons ⟨_, rfl, rfl, rfl⟩ .nil))))))), ?_⟩)
    · rfl
    · rfl
    · rfl
    · refine .cons (show D.int _ _ = D.int _ _ from ?_) (.cons (show D.int _ _ = D.int _ _ from ?_) .nil)
      · congr 1; unfold tPar; rw [if_pos h1, ht]; rfl
      · rw [e]
def R56 : Ct := fun ss hp r out => ∃ (T : List Tm) (F : List Int) (k : Int) (v0 v1 v2 v3 : Value), ss = [.one (.ptr 0 0), .di .i64 k] ∧ hp = [.box rB, .row 1 (pRow T), .row 1 (iRow T), .mapd (mdF F), .mem v0 (.ptr 0 0), .mem v1 (.own 1), .mem v2 (.own 2), .mem v3 (.own 3)] ∧ TOk T ∧ r = .tup [.c (.own 8), .c (.d (.int .i64 (tErr T k)))] ∧ out = [.box rB, .row 1 (pRow T), .row 1 (iRow T), .mapd (mdF F), .mem v0 (.ptr 0 0), .mem v1 (.own 1), .mem v2 (.own 2), .mem v3 (.own 3), .row 1 ((tIm T k).map inC)]
set_option maxHeartbeats 4000000 in
theorem ok56 : VSound Try.prog (56, R56) := by
  refine vsound (T := ty) (F := [(86, R86)]) (pl := []) (nw := true) (cuts := []) mix tyOk (.cons (ok86) .nil) Try.func56 (by kernel_rfl) (by kernel_rfl) ?_
  rintro _ _ _ _ ⟨T, F, k, v0, v1, v2, v3, rfl, rfl, hT, rfl, rfl⟩
  conv => whnf
  (refine ⟨[0, 1, 2, 3], false, false, ?_⟩; (conv => whnf); intro u0 u1 u2 u3; (conv => whnf); refine ⟨_, _, ⟨T, F, k, u0, u1, u2, u3, rfl, rfl, rfl, rfl⟩, ?_⟩; (conv => whnf); refine ⟨rfl, ?_⟩; (conv => whnf); refine ⟨rfl, ?_⟩; (conv => whnf); refine ⟨rfl, ?_⟩; (conv => whnf); refine ⟨rfl, ?_⟩; (conv => whnf))
  refine And.intro (fun (e2 : (_ : Bool) = true) => ?_) (fun (e2 : (_ : Bool) = false) => ?_) <;> (conv => whnf)
  · have e := tErr_hasn e2
    obtain ⟨h1, h2⟩ := tErr_no (T := T) (k := k) (by rw [e]; decide)
    refine ⟨[.slot 4 true], ?_⟩
    conv => whnf
    (refine ⟨[0, 1, 2, 3, 4, 5, 6, 7, 8], by simp, .cons ⟨_, rfl, .cons rfl (.cons rfl (.cons rfl .nil))⟩ (.cons ⟨_, rfl, rfl, ?_⟩ (.cons ⟨_, rfl, rfl, ?_⟩ (.cons ⟨_, rfl, ?_⟩ (.cons ⟨_, rfl, rfl, rfl, rfl⟩ (.cons ⟨_, rfl, rfl, rfl⟩ (.cons ⟨_, rfl, rfl, rfl⟩ (.cons ⟨_, rfl, rfl, rfl⟩ (.cons ⟨_, rfl, rfl, ?_⟩ .nil)))))))), ?_⟩)
    · rfl
    · rfl
    · rfl
    · unfold tIm
      split
      · rw [List.getElem?_eq_none (by omega)]; rfl
      · rfl
    · refine .cons rfl (.cons (show D.int _ _ = D.int _ _ from ?_) .nil)
      rw [e]
  · have e := tErr_has e2
    obtain ⟨h1, h2, t, ht⟩ := tErr_at e
    have h8 := hT.im _ (List.mem_of_getElem? ht)
    refine And.intro ⟨h1, by rw [iRow_len]; exact h2⟩ ?_
    conv => whnf
    refine ⟨_, And.intro (iRow_get ht) ?_⟩
    conv => whnf
    refine And.intro (by rw [map_len]; simp only [List.length_nil]; omega) ?_
    conv => whnf
    refine ⟨[], ?_⟩
    conv => whnf
    (refine ⟨[0, 1, 2, 3, 4, 5, 6, 7, 8], by simp, .cons ⟨_, rfl, .cons rfl (.cons rfl (.cons rfl .nil))⟩ (.cons ⟨_, rfl, rfl, ?_⟩ (.cons ⟨_, rfl, rfl, ?_⟩ (.cons ⟨_, rfl, ?_⟩ (.cons ⟨_, rfl, rfl, rfl, rfl⟩ (.cons ⟨_, rfl, rfl, rfl⟩ (.cons ⟨_, rfl, rfl, rfl⟩ (.cons ⟨_, rfl, rfl, rfl⟩ (.cons ⟨_, rfl, rfl, ?_⟩ .nil)))))))), ?_⟩)
    · rfl
    · rfl
    · rfl
    · unfold tIm; rw [if_pos h1, ht]; rfl
    · refine .cons rfl (.cons (show D.int _ _ = D.int _ _ from ?_) .nil)
      rw [e]
theorem tIm0 {T : List Tm} {t : Tm} (ht : T[0]? = some t) : tIm T 0 = t.im := by unfold tIm; rw [if_pos (by omega), show (0 : Int).toNat = 0 from rfl, ht]; rfl
theorem tMany0 {T : List Tm} {t : Tm} (ht : T[0]? = some t) : tMany T = t.im.length := by unfold tMany; rw [tIm0 ht]
def R51 : Ct := fun ss hp r out => ∃ (T : List Tm) (F : List Int) (i : Int) (v0 v1 v2 v3 : Value), ss = [.one (.ptr 0 0), .di .i64 i] ∧ hp = [.box rB, .row 1 (pRow T), .row 1 (iRow T), .mapd (mdF F), .mem v0 (.ptr 0 0), .mem v1 (.own 1), .mem v2 (.own 2), .mem v3 (.own 3)] ∧ TOk T ∧ r = .di .i64 (failE T i) ∧ out = [.box rB, .row 1 (pRow T), .row 1 (iRow T), .mapd (mdF (failF T F i)), .mem v0 (.ptr 0 0), .mem v1 (.own 1), .mem v2 (.own 2), .mem v3 (.own 3)]
set_option maxHeartbeats 4000000 in
theorem ok51 : VSound Try.prog (51, R51) := by
  refine vsound (T := ty) (F := []) (pl := []) (nw := true) (cuts := []) mix tyOk .nil Try.func51 (by kernel_rfl) (by kernel_rfl) ?_
  rintro _ _ _ _ ⟨T, F, i, v0, v1, v2, v3, rfl, rfl, hT, rfl, rfl⟩
  have hT0 := hT.pos
  obtain ⟨t, ht⟩ := get_lt (l := T) (i := 0) hT0
  have eM := tMany0 ht
  conv => whnf
  (repeat ((first | with_reducible refine And.intro (fun h => h) ?_ | with_reducible refine And.intro (fun _ => rfl) ?_ | with_reducible refine And.intro rfl ?_); conv => whnf))
  refine And.intro (fun _ => ⟨by omega, by rw [iRow_len]; exact hT0⟩) ?_
  conv => whnf
  (repeat ((first | with_reducible refine And.intro (fun h => h) ?_ | with_reducible refine And.intro (fun _ => rfl) ?_ | with_reducible refine And.intro rfl ?_); conv => whnf))
  refine ⟨_, And.intro (fun _ => iRow_get ht) ?_⟩
  conv => whnf
  (repeat ((first | with_reducible refine And.intro (fun h => h) ?_ | with_reducible refine And.intro (fun _ => rfl) ?_ | with_reducible refine And.intro rfl ?_); conv => whnf))
  refine And.intro (fun (e2 : (_ : Bool) = true) => ?_) (fun (e2 : (_ : Bool) = false) => ?_) <;> (conv => whnf)
  · have hn : ¬ (1 ≤ i ∧ i ≤ tMany T) := by have := e2; rw [map_len] at this; simp at this; omega
    (refine ⟨[], ?_⟩; (conv => whnf); refine ⟨[0, 1, 2, 3, 4, 5, 6, 7], by simp, .cons ⟨_, rfl, .cons rfl (.cons rfl (.cons rfl .nil))⟩ (.cons ⟨_, rfl, rfl, ?_⟩ (.cons ⟨_, rfl, rfl, ?_⟩ (.cons ⟨_, rfl, ?_⟩ (.cons ⟨_, rfl, rfl, rfl, rfl⟩ (.cons ⟨_, rfl, rfl, rfl⟩ (.cons ⟨_, rfl, rfl, rfl⟩ (.cons ⟨_, rfl, rfl, rfl⟩ .nil))))))), ?_⟩)
    · rfl
    · rfl
    · unfold failF; rw [if_neg hn]; rfl
    · show D.int _ _ = D.int _ _
      unfold failE; rw [if_neg hn]
  · have hn : 1 ≤ i ∧ i ≤ tMany T := by have := e2; rw [map_len] at this; simp at this; omega
    (refine ⟨[], ?_⟩; (conv => whnf); refine ⟨[0, 1, 2, 3, 4, 5, 6, 7], by simp, .cons ⟨_, rfl, .cons rfl (.cons rfl (.cons rfl .nil))⟩ (.cons ⟨_, rfl, rfl, ?_⟩ (.cons ⟨_, rfl, rfl, ?_⟩ (.cons ⟨_, rfl, ?_⟩ (.cons ⟨_, rfl, rfl, rfl, rfl⟩ (.cons ⟨_, rfl, rfl, rfl⟩ (.cons ⟨_, rfl, rfl, rfl⟩ (.cons ⟨_, rfl, rfl, rfl⟩ .nil))))))), ?_⟩)
    · rfl
    · rfl
    · unfold failF; rw [if_pos hn]; exact mdF_put F i
    · show D.int _ _ = D.int _ _
      unfold failE; rw [if_pos hn]
def R59 : Ct := fun ss hp r out => ∃ (T : List Tm) (F : List Int) (k i : Int) (v0 v1 v2 v3 : Value), ss = [.one (.ptr 0 0), .di .i64 k, .di .i64 i] ∧ hp = [.box rB, .row 1 (pRow T), .row 1 (iRow T), .mapd (mdF F), .mem v0 (.ptr 0 0), .mem v1 (.own 1), .mem v2 (.own 2), .mem v3 (.own 3)] ∧ TOk T ∧ r = .tup [.c (.d (.int .i64 (tNum T k i))), .c (.d (.int .i64 (tNumE T k i)))] ∧ out = [.box rB, .row 1 (pRow T), .row 1 (iRow T), .mapd (mdF F), .mem v0 (.ptr 0 0), .mem v1 (.own 1), .mem v2 (.own 2), .mem v3 (.own 3)]
set_option maxHeartbeats 4000000 in
theorem ok59 : VSound Try.prog (59, R59) := by
  refine vsound (T := ty) (F := [(86, R86)]) (pl := []) (nw := true) (cuts := []) mix tyOk (.cons (ok86) .nil) Try.func59 (by kernel_rfl) (by kernel_rfl) ?_
  rintro _ _ _ _ ⟨T, F, k, i, v0, v1, v2, v3, rfl, rfl, hT, rfl, rfl⟩
  have hT0 := hT.pos
  obtain ⟨t0, ht0⟩ := get_lt (l := T) (i := 0) hT0
  have eM := tMany0 ht0
  conv => whnf
  (refine ⟨[0, 1, 2, 3], false, false, ?_⟩; (conv => whnf); intro u0 u1 u2 u3; (conv => whnf); refine ⟨_, _, ⟨T, F, k, u0, u1, u2, u3, rfl, rfl, rfl, rfl⟩, ?_⟩; (conv => whnf); refine ⟨rfl, ?_⟩; (conv => whnf); refine ⟨rfl, ?_⟩; (conv => whnf); refine ⟨rfl, ?_⟩; (conv => whnf); refine ⟨rfl, ?_⟩; (conv => whnf))
  refine And.intro (fun (e2 : (_ : Bool) = true) => ?_) (fun (e2 : (_ : Bool) = false) => ?_) <;> (conv => whnf)
  · have e := tErr_hasn e2
    have e0 : tErr T k ≠ 0 := by rw [e]; decide
    (refine ⟨[], ?_⟩; (conv => whnf); refine ⟨[0, 1, 2, 3, 4, 5, 6, 7], by simp, .cons ⟨_, rfl, .cons rfl (.cons rfl (.cons rfl .nil))⟩ (.cons ⟨_, rfl, rfl, ?_⟩ (.cons ⟨_, rfl, rfl, ?_⟩ (.cons ⟨_, rfl, ?_⟩ (.cons ⟨_, rfl, rfl, rfl, rfl⟩ (.cons ⟨_, rfl, rfl, rfl⟩ (.cons ⟨_, rfl, rfl, rfl⟩ (.cons ⟨_, rfl, rfl, rfl⟩ .nil))))))), ?_⟩)
    · rfl
    · rfl
    · rfl
    · refine .cons (show D.int _ _ = D.int _ _ from ?_) (.cons (show D.int _ _ = D.int _ _ from ?_) .nil)
      · unfold tNum tNumE; rw [if_pos e0, if_neg e0]
      · unfold tNumE; rw [if_pos e0, e]
  · have e := tErr_has e2
    have e0 : ¬ tErr T k ≠ 0 := by rw [e]; decide
    obtain ⟨h1, h2, t, ht⟩ := tErr_at e
    have h8 := hT.im _ (List.mem_of_getElem? ht)
    (repeat ((first | with_reducible refine And.intro (fun h => h) ?_ | with_reducible refine And.intro (fun _ => rfl) ?_ | with_reducible refine And.intro rfl ?_); conv => whnf))
    refine And.intro (fun _ => ⟨by omega, by rw [iRow_len]; exact hT0⟩) ?_
    conv => whnf
    (repeat ((first | with_reducible refine And.intro (fun h => h) ?_ | with_reducible refine And.intro (fun _ => rfl) ?_ | with_reducible refine And.intro rfl ?_); conv => whnf))
    refine ⟨_, And.intro (fun _ => iRow_get ht0) ?_⟩
    conv => whnf
    (repeat ((first | with_reducible refine And.intro (fun h => h) ?_ | with_reducible refine And.intro (fun _ => rfl) ?_ | with_reducible refine And.intro rfl ?_); conv => whnf))
    refine And.intro (fun (e3 : (_ : Bool) = true) => ?_) (fun (e3 : (_ : Bool) = false) => ?_) <;> (conv => whnf)
    · have hn : ¬ (1 ≤ i ∧ i ≤ tMany T) := by have := e3; rw [map_len] at this; simp at this; omega
      have hE : tNumE T k i = 2 := by unfold tNumE; rw [if_neg e0, if_neg hn]
      (refine ⟨[], ?_⟩; (conv => whnf); refine ⟨[0, 1, 2, 3, 4, 5, 6, 7], by simp, .cons ⟨_, rfl, .cons rfl (.cons rfl (.cons rfl .nil))⟩ (.cons ⟨_, rfl, rfl, ?_⟩ (.cons ⟨_, rfl, rfl, ?_⟩ (.cons ⟨_, rfl, ?_⟩ (.cons ⟨_, rfl, rfl, rfl, rfl⟩ (.cons ⟨_, rfl, rfl, rfl⟩ (.cons ⟨_, rfl, rfl, rfl⟩ (.cons ⟨_, rfl, rfl, rfl⟩ .nil))))))), ?_⟩)
      · rfl
      · rfl
      · rfl
      · refine .cons (show D.int _ _ = D.int _ _ from ?_) (.cons (show D.int _ _ = D.int _ _ from ?_) .nil)
        · unfold tNum; rw [hE]; rfl
        · rw [hE]
    · have hn : 1 ≤ i ∧ i ≤ tMany T := by have := e3; rw [map_len] at this; simp at this; omega
      have hE : tNumE T k i = 0 := by unfold tNumE; rw [if_neg e0, if_pos hn]
      have hN : tNum T k i = idx (fun y => i == y) t.im + 1 := by unfold tNum tIm; rw [if_pos hE, if_pos h1, ht]; rfl
      refine And.intro ⟨h1, by rw [iRow_len]; exact h2⟩ ?_
      conv => whnf
      refine ⟨_, And.intro (iRow_get ht) ?_⟩
      conv => whnf
      refine ⟨[], [2, 8, 9], 8, fun n σ => ∃ j : Nat, j ≤ t.im.length ∧ n = t.im.length - j ∧ (∀ q < j, ∀ y, t.im[q]? = some y → (i == y) = false) ∧ σ = (⟨[.junk, .junk, .di .i64 i, .junk, .junk, .junk, .junk, .junk, .one (.d (.sl 1 (t.im.map inC))), .di .i64 j, .junk, .junk, .junk, .junk, .junk, .junk, .junk, .junk, .junk, .junk, .junk, .junk, .junk, .junk, .junk, .junk, .junk, .junk, .junk, .junk, .junk, .junk, .junk, .junk, .junk, .junk, .junk, .junk, .junk, .junk, .junk, .junk, .junk, .junk, .junk, .junk, .junk, .junk, .junk, .junk], [.box rB, .row 1 (pRow T), .row 1 (iRow T), .mapd (mdF F), .mem v0 (.ptr 0 0), .mem v1 (.own 1), .mem v2 (.own 2), .mem v3 (.own 3)]⟩ : St), ?_, ?_⟩
      · refine ⟨t.im.length, ?_⟩
        conv => whnf
        exact ⟨0, by omega, by omega, by omega, rfl⟩
      · rintro n _ ⟨j, hj, rfl, hb, rfl⟩
        conv => whnf
        rw [map_len]
        ((with_reducible refine And.intro (fun (e : (_ : Bool) = true) => ?_) (fun (e : (_ : Bool) = false) => ?_)) <;> (try simp only [reduceCtorEq, ints_len, bools_len, bif_t, bif_f, zv0, zv1, zv2, zv3, zv4, zv5, zv6, zv7, zv8, zv9, zv10, zv11, zv12, zv13, zv14, zv15, zv16, zv17, zv18, zv19, zv20, zv21, zv22, zv23, zv24] at e) <;> (conv => whnf))
        · obtain ⟨y, hget⟩ := get_lt (l := t.im) (i := j) (by omega)
          (refine ⟨_, And.intro ⟨by omega, enc_get hget⟩ ?_⟩; (conv => whnf))
          refine And.intro (fun (e4 : (_ : Bool) = true) => ?_) (fun (e4 : (_ : Bool) = false) => ?_)
          · conv => whnf
            (refine And.intro ?_ ?_; ((first | (with_reducible assumption) | (intro _; with_reducible assumption) | omega | (simp only [reduceCtorEq, ints_len, bools_len, bif_t, bif_f, zv0, zv1, zv2, zv3, zv4, zv5, zv6, zv7, zv8, zv9, zv10, zv11, zv12, zv13, zv14, zv15, zv16, zv17, zv18, zv19, zv20, zv21, zv22, zv23, zv24] at *; omega) | (intro hg; (try simp only [reduceCtorEq, ints_len, bools_len, bif_t, bif_f, zv0, zv1, zv2, zv3, zv4, zv5, zv6, zv7, zv8, zv9, zv10, zv11, zv12, zv13, zv14, zv15, zv16, zv17, zv18, zv19, zv20, zv21, zv22, zv23, zv24] at hg); first | (with_reducible assumption) | omega | (simp only [reduceCtorEq, ints_len, bools_len, bif_t, bif_f, zv0, zv1, zv2, zv3, zv4, zv5, zv6, zv7, zv8, zv9, zv10, zv11, zv12, zv13, zv14, zv15, zv16, zv17, zv18, zv19, zv20, zv21, zv22, zv23, zv24] at *; omega) | (refine ⟨?_, ?_⟩ <;> omega)) | (refine ⟨?_, ?_⟩ <;> omega) | (simp [*]; done) | grind)); (conv => whnf))
            have hx := idx_at (p := fun y => i == y) hget (by simp at e4; simp [e4]) hb
            (refine ⟨[], ?_⟩; (conv => whnf); refine ⟨[0, 1, 2, 3, 4, 5, 6, 7], by simp, .cons ⟨_, rfl, .cons rfl (.cons rfl (.cons rfl .nil))⟩ (.cons ⟨_, rfl, rfl, ?_⟩ (.cons ⟨_, rfl, rfl, ?_⟩ (.cons ⟨_, rfl, ?_⟩ (.cons ⟨_, rfl, rfl, rfl, rfl⟩ (.cons ⟨_, rfl, rfl, rfl⟩ (.cons ⟨_, rfl, rfl, rfl⟩ (.cons ⟨_, rfl, rfl, rfl⟩ .nil))))))), ?_⟩)
            · rfl
            · rfl
            · rfl
            · refine .cons (show D.int _ _ = D.int _ _ from ?_) (.cons (show D.int _ _ = D.int _ _ from ?_) .nil)
              · rw [hN, hx]
              · rw [hE]
          · conv => whnf
            (refine And.intro ?_ ?_; ((first | (with_reducible assumption) | (intro _; with_reducible assumption) | omega | (simp only [reduceCtorEq, ints_len, bools_len, bif_t, bif_f, zv0, zv1, zv2, zv3, zv4, zv5, zv6, zv7, zv8, zv9, zv10, zv11, zv12, zv13, zv14, zv15, zv16, zv17, zv18, zv19, zv20, zv21, zv22, zv23, zv24] at *; omega) | (intro hg; (try simp only [reduceCtorEq, ints_len, bools_len, bif_t, bif_f, zv0, zv1, zv2, zv3, zv4, zv5, zv6, zv7, zv8, zv9, zv10, zv11, zv12, zv13, zv14, zv15, zv16, zv17, zv18, zv19, zv20, zv21, zv22, zv23, zv24] at hg); first | (with_reducible assumption) | omega | (simp only [reduceCtorEq, ints_len, bools_len, bif_t, bif_f, zv0, zv1, zv2, zv3, zv4, zv5, zv6, zv7, zv8, zv9, zv10, zv11, zv12, zv13, zv14, zv15, zv16, zv17, zv18, zv19, zv20, zv21, zv22, zv23, zv24] at *; omega) | (refine ⟨?_, ?_⟩ <;> omega)) | (refine ⟨?_, ?_⟩ <;> omega) | (simp [*]; done) | grind)); (conv => whnf))
            refine ⟨t.im.length - (j + 1), by omega, [], ?_⟩
            conv => whnf
            refine ⟨j + 1, by omega, rfl, fun q hq y' hy => ?_, rfl⟩
            by_cases ej : q = j
            · subst ej; rw [hget] at hy; cases hy; simp at e4 ⊢; omega
            · exact hb q (by omega) y' hy
        · have hx := idx_none (p := fun y => i == y) (l := t.im) fun y hy => by
            obtain ⟨q, hq⟩ := List.getElem?_of_mem hy
            have := (List.getElem?_eq_some_iff.1 hq).1
            exact hb q (by omega) y hq
          (refine ⟨[], ?_⟩; (conv => whnf); refine ⟨[0, 1, 2, 3, 4, 5, 6, 7], by simp, .cons ⟨_, rfl, .cons rfl (.cons rfl (.cons rfl .nil))⟩ (.cons ⟨_, rfl, rfl, ?_⟩ (.cons ⟨_, rfl, rfl, ?_⟩ (.cons ⟨_, rfl, ?_⟩ (.cons ⟨_, rfl, rfl, rfl, rfl⟩ (.cons ⟨_, rfl, rfl, rfl⟩ (.cons ⟨_, rfl, rfl, rfl⟩ (.cons ⟨_, rfl, rfl, rfl⟩ .nil))))))), ?_⟩)
          · rfl
          · rfl
          · rfl
          · refine .cons (show D.int _ _ = D.int _ _ from ?_) (.cons (show D.int _ _ = D.int _ _ from ?_) .nil)
            · rw [hN, hx]; rfl
            · rw [hE]
end Go.Proofs.Ytphmcgmblkbijaa.V
-- Td
namespace Go.Proofs.Ytphmcgmblkbijaa.V
open Go.Proofs.YtphmcgmblkbijaaVY Go.RowKit
def R87 : Ct := fun ss hp r out => ∃ (T : List Tm) (F : List Int) (k : Int) (v0 v1 v2 v3 : Value), ss = [.one (.ptr 0 0), .di .i64 k] ∧ hp = [.box rB, .row 1 (pRow T), .row 1 (iRow T), .mapd (mdF F), .mem v0 (.ptr 0 0), .mem v1 (.own 1), .mem v2 (.own 2), .mem v3 (.own 3)] ∧ TOk T ∧ tErr T k = 0 ∧ r = .db (tBrk T F k) ∧ out = [.box rB, .row 1 (pRow T), .row 1 (iRow T), .mapd (mdF F), .mem v0 (.ptr 0 0), .mem v1 (.own 1), .mem v2 (.own 2), .mem v3 (.own 3)]
set_option maxHeartbeats 4000000 in
theorem ok87 : VSound Try.prog (87, R87) := by
  refine vsound (T := ty) (F := []) (pl := [(5, [[], [0], [0, 1], [0, 1, 2], [], [], [4, 5], [4, 5, 6], [0, 1, 2, 3, 4, 5, 6, 7]], .look 0 (.look 1 (.look 2 (.look 3 (.look 4 (.look 5 (.look 6 (.look 7 (.act 8 [] .done .stop)))))))))]) (nw := true) (cuts := []) mix tyOk .nil Try.func87 (by kernel_rfl) (by kernel_rfl) ?_
  rintro _ _ _ _ ⟨T, F, k, v0, v1, v2, v3, rfl, rfl, hT, hk, rfl, rfl⟩
  obtain ⟨h1, h2, t, ht⟩ := tErr_at hk
  have h8 := hT.im _ (List.mem_of_getElem? ht)
  have hB : tBrk T F k = t.im.any fun y => decide (y ∈ F) := by unfold tBrk tIm; rw [if_pos h1, ht]; rfl
  conv => whnf
  refine And.intro ⟨h1, by rw [iRow_len]; exact h2⟩ ?_
  conv => whnf
  refine ⟨_, And.intro (iRow_get ht) ?_⟩
  conv => whnf
  refine ⟨[], [0, 5, 6], 8, fun n σ => ∃ j : Nat, j ≤ t.im.length ∧ n = t.im.length - j ∧ (∀ q < j, ∀ y, t.im[q]? = some y → y ∉ F) ∧ σ = (⟨[.one (.ptr 0 0), .junk, .junk, .junk, .junk, .one (.d (.sl 1 (t.im.map inC))), .di .i64 j, .junk, .junk, .junk, .junk, .junk, .junk, .junk, .junk, .junk, .junk, .junk, .junk, .junk, .junk, .junk, .junk, .junk, .junk, .junk, .junk, .junk, .junk], [.box rB, .row 1 (pRow T), .row 1 (iRow T), .mapd (mdF F), .mem v0 (.ptr 0 0), .mem v1 (.own 1), .mem v2 (.own 2), .mem v3 (.own 3)]⟩ : St), ?_, ?_⟩
  · refine ⟨t.im.length, ?_⟩
    conv => whnf
    exact ⟨0, by omega, by omega, by omega, rfl⟩
  · rintro n _ ⟨j, hj, rfl, hb, rfl⟩
    conv => whnf
    rw [map_len]
    ((with_reducible refine And.intro (fun (e : (_ : Bool) = true) => ?_) (fun (e : (_ : Bool) = false) => ?_)) <;> (try simp only [reduceCtorEq, ints_len, bools_len, bif_t, bif_f, zv0, zv1, zv2, zv3, zv4, zv5, zv6, zv7, zv8, zv9, zv10, zv11, zv12, zv13, zv14, zv15, zv16, zv17, zv18, zv19, zv20, zv21, zv22, zv23, zv24] at e) <;> (conv => whnf))
    · obtain ⟨y, hget⟩ := get_lt (l := t.im) (i := j) (by omega)
      (refine ⟨_, And.intro ⟨by omega, enc_get hget⟩ ?_⟩; (conv => whnf))
      (first | (refine And.intro ?_ ?_ <;> (conv => whnf)) | skip)
      · intro x hx
        obtain ⟨h3, rfl⟩ := mdF_mem hx
        conv => whnf
        ((first | refine And.intro (fun _ => ?_) (fun h => absurd h (by decide)) | refine And.intro (fun h => absurd h (by decide)) (fun _ => ?_)); (conv => whnf))
        (refine ⟨[], ?_⟩; (conv => whnf); refine ⟨[0, 1, 2, 3, 4, 5, 6, 7], by simp, .cons ⟨_, rfl, .cons rfl (.cons rfl (.cons rfl .nil))⟩ (.cons ⟨_, rfl, rfl, ?_⟩ (.cons ⟨_, rfl, rfl, ?_⟩ (.cons ⟨_, rfl, ?_⟩ (.cons ⟨_, rfl, rfl, rfl, rfl⟩ (.cons ⟨_, rfl, rfl, rfl⟩ (.cons ⟨_, rfl, rfl, rfl⟩ (.cons ⟨_, rfl, rfl, rfl⟩ .nil))))))), ?_⟩)
        · rfl
        · rfl
        · rfl
        · show D.bool _ = D.bool _
          rw [hB]
          congr 1
          exact (List.any_eq_true.2 ⟨y, List.mem_of_getElem? hget, by simpa using h3⟩).symm
      · intro hx
        have h3 := mdF_no hx
        conv => whnf
        ((first | refine And.intro (fun _ => ?_) (fun h => absurd h (by decide)) | refine And.intro (fun h => absurd h (by decide)) (fun _ => ?_)); (conv => whnf))
        (refine And.intro ?_ ?_; ((first | (with_reducible assumption) | (intro _; with_reducible assumption) | omega | (simp only [reduceCtorEq, ints_len, bools_len, bif_t, bif_f, zv0, zv1, zv2, zv3, zv4, zv5, zv6, zv7, zv8, zv9, zv10, zv11, zv12, zv13, zv14, zv15, zv16, zv17, zv18, zv19, zv20, zv21, zv22, zv23, zv24] at *; omega) | (intro hg; (try simp only [reduceCtorEq, ints_len, bools_len, bif_t, bif_f, zv0, zv1, zv2, zv3, zv4, zv5, zv6, zv7, zv8, zv9, zv10, zv11, zv12, zv13, zv14, zv15, zv16, zv17, zv18, zv19, zv20, zv21, zv22, zv23, zv24] at hg); first | (with_reducible assumption) | omega | (simp only [reduceCtorEq, ints_len, bools_len, bif_t, bif_f, zv0, zv1, zv2, zv3, zv4, zv5, zv6, zv7, zv8, zv9, zv10, zv11, zv12, zv13, zv14, zv15, zv16, zv17, zv18, zv19, zv20, zv21, zv22, zv23, zv24] at *; omega) | (refine ⟨?_, ?_⟩ <;> omega)) | (refine ⟨?_, ?_⟩ <;> omega) | (simp [*]; done) | grind)); (conv => whnf))
        refine ⟨t.im.length - (j + 1), by omega, [], ?_⟩
        conv => whnf
        refine ⟨j + 1, by omega, rfl, fun q hq y' hy => ?_, rfl⟩
        by_cases ej : q = j
        · subst ej; rw [hget] at hy; cases hy; exact h3
        · exact hb q (by omega) y' hy
    · (refine ⟨[], ?_⟩; (conv => whnf); refine ⟨[0, 1, 2, 3, 4, 5, 6, 7], by simp, .cons ⟨_, rfl, .cons rfl (.cons rfl (.cons rfl .nil))⟩ (.cons ⟨_, rfl, rfl, ?_⟩ (.cons ⟨_, rfl, rfl, ?_⟩ (.cons ⟨_, rfl, ?_⟩ (.cons ⟨_, rfl, rfl, rfl, rfl⟩ (.cons ⟨_, rfl, rfl, rfl⟩ (.cons ⟨_, rfl, rfl, rfl⟩ (.cons ⟨_, rfl, rfl, rfl⟩ .nil))))))), ?_⟩)
      · rfl
      · rfl
      · rfl
      · show D.bool _ = D.bool _
        rw [hB]
        congr 1
        refine (List.any_eq_false.2 fun y hy => ?_).symm
        obtain ⟨q, hq⟩ := List.getElem?_of_mem hy
        have := (List.getElem?_eq_some_iff.1 hq).1
        simpa using hb q (by omega) y hq
def rFld (T : List Tm) (F : List Int) : List Int := (oneTo (tIm T 0).length).filter fun i => decide (i ∈ F)
def R55 : Ct := fun ss hp r out => ∃ (T : List Tm) (F : List Int) (v0 v1 v2 v3 : Value), ss = [.one (.ptr 0 0)] ∧ hp = [.box rB, .row 1 (pRow T), .row 1 (iRow T), .mapd (mdF F), .mem v0 (.ptr 0 0), .mem v1 (.own 1), .mem v2 (.own 2), .mem v3 (.own 3)] ∧ TOk T ∧ r = .one (.own 8) ∧ out = [.box rB, .row 1 (pRow T), .row 1 (iRow T), .mapd (mdF F), .mem v0 (.ptr 0 0), .mem v1 (.own 1), .mem v2 (.own 2), .mem v3 (.own 3), .row 1 ((rFld T F).map inC)]
set_option maxHeartbeats 4000000 in
theorem ok55 : VSound Try.prog (55, R55) := by
  refine vsound (T := ty) (F := []) (pl := []) (nw := true) (cuts := []) mix tyOk .nil Try.func55 (by kernel_rfl) (by kernel_rfl) ?_
  rintro _ _ _ _ ⟨T, F, v0, v1, v2, v3, rfl, rfl, hT, rfl, rfl⟩
  have hT0 := hT.pos
  obtain ⟨t, ht⟩ := get_lt (l := T) (i := 0) hT0
  have h8 := hT.im _ (List.mem_of_getElem? ht)
  unfold rFld
  rw [tIm0 ht]
  conv => whnf
  refine ⟨[.slot 3 true], [0, 3, 4], 9, fun n1 σ => ∃ i : Nat, i ≤ t.im.length ∧ n1 = t.im.length - i ∧ σ = (⟨[.one (.ptr 0 0), .junk, .junk, .one (.own 8), .di .i64 ((i : Int) + 1), .junk, .junk, .junk, .junk, .junk, .junk, .junk, .junk, .junk, .junk, .junk, .junk, .junk, .junk, .junk, .junk, .junk, .junk, .junk, .junk, .junk, .junk], [.box rB, .row 1 (pRow T), .row 1 (iRow T), .mapd (mdF F), .mem v0 (.ptr 0 0), .mem v1 (.own 1), .mem v2 (.own 2), .mem v3 (.own 3), .row 1 (((oneTo i).filter fun i => decide (i ∈ F)).map inC)]⟩ : St), ?_, ?_⟩
  · refine ⟨t.im.length, ?_⟩
    conv => whnf
    exact ⟨0, by omega, by omega, rfl⟩
  · rintro n1 _ ⟨i, hi, rfl, rfl⟩
    conv => whnf
    refine And.intro ⟨by omega, by rw [iRow_len]; exact hT0⟩ ?_
    conv => whnf
    refine ⟨_, And.intro (iRow_get ht) ?_⟩
    conv => whnf
    rw [map_len]
    have hfl : ((oneTo i).filter fun i => decide (i ∈ F)).length ≤ 8 := Nat.le_trans (List.length_filter_le ..) (by rw [oneTo_len]; omega)
    ((with_reducible refine And.intro (fun (e : (_ : Bool) = true) => ?_) (fun (e : (_ : Bool) = false) => ?_)) <;> (try simp only [reduceCtorEq, ints_len, bools_len, bif_t, bif_f, zv0, zv1, zv2, zv3, zv4, zv5, zv6, zv7, zv8, zv9, zv10, zv11, zv12, zv13, zv14, zv15, zv16, zv17, zv18, zv19, zv20, zv21, zv22, zv23, zv24] at e) <;> (conv => whnf))
    · (first | (refine And.intro ?_ ?_ <;> (conv => whnf)) | skip)
      · intro x hx
        obtain ⟨h1, rfl⟩ := mdF_mem hx
        conv => whnf
        ((first | refine And.intro (fun _ => ?_) (fun h => absurd h (by decide)) | refine And.intro (fun h => absurd h (by decide)) (fun _ => ?_)); (conv => whnf))
        repeat' (first | (refine And.intro ?_ ?_; (rw [map_len]; simp only [List.length_cons, List.length_nil]; omega); (conv => whnf)) | (refine And.intro ?_ ?_; ((first | (with_reducible assumption) | (intro _; with_reducible assumption) | omega | (simp only [reduceCtorEq, ints_len, bools_len, bif_t, bif_f, zv0, zv1, zv2, zv3, zv4, zv5, zv6, zv7, zv8, zv9, zv10, zv11, zv12, zv13, zv14, zv15, zv16, zv17, zv18, zv19, zv20, zv21, zv22, zv23, zv24] at *; omega) | (intro hg; (try simp only [reduceCtorEq, ints_len, bools_len, bif_t, bif_f, zv0, zv1, zv2, zv3, zv4, zv5, zv6, zv7, zv8, zv9, zv10, zv11, zv12, zv13, zv14, zv15, zv16, zv17, zv18, zv19, zv20, zv21, zv22, zv23, zv24] at hg); first | (with_reducible assumption) | omega | (simp only [reduceCtorEq, ints_len, bools_len, bif_t, bif_f, zv0, zv1, zv2, zv3, zv4, zv5, zv6, zv7, zv8, zv9, zv10, zv11, zv12, zv13, zv14, zv15, zv16, zv17, zv18, zv19, zv20, zv21, zv22, zv23, zv24] at *; omega) | (refine ⟨?_, ?_⟩ <;> omega)) | (refine ⟨?_, ?_⟩ <;> omega) | (simp [*]; done) | grind)); (conv => whnf)) | (refine And.intro ?_ ?_ <;> (conv => whnf)))
        all_goals
          refine ⟨t.im.length - (i + 1), by omega, [], ?_⟩
          conv => whnf
          refine ⟨i + 1, by omega, rfl, ?_⟩
          rw [oneTo_succ, List.filter_append, show [(i : Int) + 1].filter (fun i => decide (i ∈ F)) = [(i : Int) + 1] from List.filter_cons_of_pos (by simpa using h1), List.map_append]; rfl
      · intro hx
        have h1 := mdF_no hx
        conv => whnf
        ((first | refine And.intro (fun _ => ?_) (fun h => absurd h (by decide)) | refine And.intro (fun h => absurd h (by decide)) (fun _ => ?_)); (conv => whnf))
        (refine And.intro ?_ ?_; ((first | (with_reducible assumption) | (intro _; with_reducible assumption) | omega | (simp only [reduceCtorEq, ints_len, bools_len, bif_t, bif_f, zv0, zv1, zv2, zv3, zv4, zv5, zv6, zv7, zv8, zv9, zv10, zv11, zv12, zv13, zv14, zv15, zv16, zv17, zv18, zv19, zv20, zv21, zv22, zv23, zv24] at *; omega) | (intro hg; (try simp only [reduceCtorEq, ints_len, bools_len, bif_t, bif_f, zv0, zv1, zv2, zv3, zv4, zv5, zv6, zv7, zv8, zv9, zv10, zv11, zv12, zv13, zv14, zv15, zv16, zv17, zv18, zv19, zv20, zv21, zv22, zv23, zv24] at hg); first | (with_reducible assumption) | omega | (simp only [reduceCtorEq, ints_len, bools_len, bif_t, bif_f, zv0, zv1, zv2, zv3, zv4, zv5, zv6, zv7, zv8, zv9, zv10, zv11, zv12, zv13, zv14, zv15, zv16, zv17, zv18, zv19, zv20, zv21, zv22, zv23, zv24] at *; omega) | (refine ⟨?_, ?_⟩ <;> omega)) | (refine ⟨?_, ?_⟩ <;> omega) | (simp [*]; done) | grind)); (conv => whnf))
        refine ⟨t.im.length - (i + 1), by omega, [], ?_⟩
        conv => whnf
        refine ⟨i + 1, by omega, rfl, ?_⟩
        rw [oneTo_succ, List.filter_append, show [(i : Int) + 1].filter (fun i => decide (i ∈ F)) = [] from List.filter_cons_of_neg (by simpa using h1), List.append_nil]
        rfl
    · have hi' : i = t.im.length := by omega
      subst hi'
      refine ⟨[], ?_⟩
      conv => whnf
      (refine ⟨[0, 1, 2, 3, 4, 5, 6, 7, 8], by simp, .cons ⟨_, rfl, .cons rfl (.cons rfl (.cons rfl .nil))⟩ (.cons ⟨_, rfl, rfl, ?_⟩ (.cons ⟨_, rfl, rfl, ?_⟩ (.cons ⟨_, rfl, ?_⟩ (.cons ⟨_, rfl, rfl, rfl, rfl⟩ (.cons ⟨_, rfl, rfl, rfl⟩ (.cons ⟨_, rfl, rfl, rfl⟩ (.cons ⟨_, rfl, rfl, rfl⟩ (.cons ⟨_, rfl, rfl, ?_⟩ .nil)))))))), ?_⟩)
      · rfl
      · rfl
      · rfl
      · rfl
      · rfl
def R24 : Ct := fun ss hp r out => ∃ n : Int, ss = [.di .i64 n] ∧ hp = [] ∧ ((1 ≤ n ∧ n ≤ 8 ∧ r = .tup [.c (.ptr 0 0), .c (.d (.int .i64 0))] ∧ out = [.box rB, .row 1 (pRow (newT n)), .row 1 (iRow (newT n)), .mapd (mdF [])]) ∨ (¬ (1 ≤ n ∧ n ≤ 8) ∧ r = .tup [.c (.d (.val (.pointer none))), .c (.d (.int .i64 2))] ∧ out = []))
set_option maxHeartbeats 4000000 in
theorem ok24 : VSound Try.prog (24, R24) := by
  refine vsound (T := ty) (F := []) (pl := []) (nw := true) (cuts := []) mix tyOk .nil Try.func24 (by kernel_rfl) (by kernel_rfl) ?_
  rintro _ _ _ _ ⟨n, rfl, rfl, hn⟩
  conv => whnf
  (repeat ((first | with_reducible refine And.intro (fun h => h) ?_ | with_reducible refine And.intro (fun _ => rfl) ?_ | with_reducible refine And.intro rfl ?_); conv => whnf))
  refine And.intro (fun (e2 : (_ : Bool) = true) => ?_) (fun (e2 : (_ : Bool) = false) => ?_)
  · have h1 : ¬ (1 ≤ n ∧ n ≤ 8) := by have := e2; simp at this; omega
    rcases hn with ⟨h2, h3, _⟩ | ⟨_, rfl, rfl⟩
    · exact absurd ⟨h2, h3⟩ h1
    · conv => whnf
      refine ⟨[], ?_⟩
      conv => whnf
      exact ⟨[], .nil, .nil, .cons rfl (.cons rfl .nil)⟩
  · have h1 : 1 ≤ n ∧ n ≤ 8 := by have := e2; simp at this; omega
    rcases hn with ⟨h2, h3, rfl, rfl⟩ | ⟨h, _⟩
    rotate_left
    · exact absurd h1 h
    conv => whnf
    obtain ⟨m, rfl⟩ : ∃ m : Nat, n = m := ⟨n.toNat, by omega⟩
    refine ⟨[.slot 4 true], [0, 4, 5], 1, fun n1 σ => ∃ i : Nat, i ≤ m ∧ n1 = m - i ∧ σ = (⟨[.di .i64 m, .junk, .junk, .junk, .one (.own 0), .di .i64 ((i : Int) + 1), .junk, .junk, .junk, .junk, .junk, .junk, .junk, .junk, .junk, .junk, .junk, .junk, .junk, .junk, .junk, .junk, .junk, .junk, .junk, .junk, .junk], [.row 1 ((oneTo i).map inC)]⟩ : St), ?_, ?_⟩
    · refine ⟨m, ?_⟩
      conv => whnf
      exact ⟨0, by omega, by omega, rfl⟩
    · rintro n1 _ ⟨i, hi, rfl, rfl⟩
      conv => whnf
      ((with_reducible refine And.intro (fun (e : (_ : Bool) = true) => ?_) (fun (e : (_ : Bool) = false) => ?_)) <;> (try simp only [reduceCtorEq, ints_len, bools_len, bif_t, bif_f, zv0, zv1, zv2, zv3, zv4, zv5, zv6, zv7, zv8, zv9, zv10, zv11, zv12, zv13, zv14, zv15, zv16, zv17, zv18, zv19, zv20, zv21, zv22, zv23, zv24] at e) <;> (conv => whnf))
      · repeat' (first | (refine And.intro ?_ ?_; (rw [map_len, oneTo_len]; simp only [List.length_cons, List.length_nil]; omega); (conv => whnf)) | (refine And.intro ?_ ?_; ((first | (with_reducible assumption) | (intro _; with_reducible assumption) | omega | (simp only [reduceCtorEq, ints_len, bools_len, bif_t, bif_f, zv0, zv1, zv2, zv3, zv4, zv5, zv6, zv7, zv8, zv9, zv10, zv11, zv12, zv13, zv14, zv15, zv16, zv17, zv18, zv19, zv20, zv21, zv22, zv23, zv24] at *; omega) | (intro hg; (try simp only [reduceCtorEq, ints_len, bools_len, bif_t, bif_f, zv0, zv1, zv2, zv3, zv4, zv5, zv6, zv7, zv8, zv9, zv10, zv11, zv12, zv13, zv14, zv15, zv16, zv17, zv18, zv19, zv20, zv21, zv22, zv23, zv24] at hg); first | (with_reducible assumption) | omega | (simp only [reduceCtorEq, ints_len, bools_len, bif_t, bif_f, zv0, zv1, zv2, zv3, zv4, zv5, zv6, zv7, zv8, zv9, zv10, zv11, zv12, zv13, zv14, zv15, zv16, zv17, zv18, zv19, zv20, zv21, zv22, zv23, zv24] at *; omega) | (refine ⟨?_, ?_⟩ <;> omega)) | (refine ⟨?_, ?_⟩ <;> omega) | (simp [*]; done) | grind)); (conv => whnf)) | (refine And.intro ?_ ?_ <;> (conv => whnf)))
        all_goals
          refine ⟨m - (i + 1), by omega, [], ?_⟩
          conv => whnf
          refine ⟨i + 1, by omega, rfl, ?_⟩
          rw [oneTo_succ, List.map_append]; rfl
      · have hi' : i = m := by omega
        subst hi'
        refine ⟨[], ?_⟩
        conv => whnf
        refine ⟨[4, 1, 2, 3], by simp, .cons ⟨_, rfl, .cons rfl (.cons rfl (.cons rfl .nil))⟩ (.cons ⟨_, rfl, rfl, rfl⟩ (.cons ⟨_, rfl, rfl, rfl⟩ (.cons ⟨_, rfl, rfl⟩ .nil))), .cons ⟨rfl, rfl⟩ (.cons rfl .nil)⟩
end Go.Proofs.Ytphmcgmblkbijaa.V
-- Tso
namespace Go.Proofs.Ytphmcgmblkbijaa.V
open Go.Proofs.YtphmcgmblkbijaaVY Go.RowKit
open Go.Sort hiding Rd
section
variable {α : Type} [Inhabited α] (nums : α → List Int) {k : Nat}
def encV (x : α) : List Value := (nums x).map (Value.int .i64)
def encD (x : α) : List D := (nums x).map (D.int .i64)
/-- what SortFunc makes of a list -/
def sortF (cf : α → α → Int) (L : List α) : List α := (Sort.pdq (ltOf cf) L.toArray 0 L.toArray.size (Lib.bitLen L.toArray.size) true true).toList
theorem sortF_spec {cf : α → α → Int} (hO : SWO (ltOf cf)) (L : List α) : PermIn 0 L.toArray.size L.toArray (sortF cf L).toArray ∧ SortedIn (ltOf cf) 0 L.toArray.size (sortF cf L).toArray := by
  have h := pdq_sorts (ltOf cf) hO L.toArray 0 L.toArray.size (Lib.bitLen L.toArray.size) true true (Nat.zero_le _) (Nat.le_refl _) (Or.inl rfl)
  exact ⟨h.1, h.2⟩
variable {nums} (hk : ∀ x, (nums x).length = k) (k0 : 0 < k)
include hk in
theorem holds_of {A : Nat → Prop} {w : World} {b off : Nat} {T : TypeId} {vs : Array Value} {L : List α} (hb : w.heap[b]? = some (.cells vs T (0, 0))) (h : RdL A w b off k (L.map (encD nums))) : HoldsK (encV nums) k w b off L.toArray := by
  intro t ht
  have ht' : t < L.toArray.size * k := by simpa using ht
  have hkp : 0 < k := by rcases Nat.eq_zero_or_pos k with h | h; · subst h; simp at ht'
                         · exact h
  refine ⟨?_, by simp [World.frozen?, hb]⟩
  rw [get_flatK _ _ _ t ht']
  have hi : t / k < L.length := Nat.div_lt_of_lt_mul (by rw [Nat.mul_comm]; simpa using ht')
  have h1 : (L.map (encD nums))[t / k]? = some (encD nums L[t / k]) := by rw [List.getElem?_map, List.getElem?_eq_getElem hi]; rfl
  have h2 := (h.get h1).2
  have hm : t % k < k := Nat.mod_lt _ hkp
  have hc : t % k < (nums L[t / k]).length := by rw [hk]; exact hm
  have h3 : (encD nums L[t / k])[t % k]? = some (.int .i64 (nums L[t / k])[t % k]) := by unfold encD; rw [List.getElem?_map, List.getElem?_eq_getElem hc]; rfl
  obtain ⟨v, hv, hx⟩ := h2.get (t % k) _ h3
  simp only [Rd] at hx
  subst hx
  have e : off + t / k * k + t % k = off + t := by rw [Nat.add_assoc, Nat.div_add_mod']
  rw [e] at hv
  rw [hv]
  have e2 : L.toArray[t / k]! = L[t / k] := by simp [hi]
  rw [e2]
  unfold encV
  simp [hc]
include hk in
theorem read_of {A : Nat → Prop} {w : World} {b off : Nat} {T : TypeId} {vs : Array Value} {L : List α} (hb : w.heap[b]? = some (.cells (putCells id off (flatK (encV nums) k L.toArray) vs) T (0, 0))) (hs : off + L.length * k ≤ vs.size) : RdL A w b off k (L.map (encD nums)) := by
  refine RdL_mk fun i e he => ?_
  rw [List.getElem?_map] at he
  obtain ⟨x, hx, rfl⟩ := Option.map_eq_some_iff.1 he
  obtain ⟨hi, rfl⟩ := List.getElem?_eq_some_iff.1 hx
  refine ⟨by simp [encD, hk], RdC_mk fun j y hy => ?_⟩
  unfold encD at hy
  rw [List.getElem?_map] at hy
  obtain ⟨n, hn, rfl⟩ := Option.map_eq_some_iff.1 hy
  obtain ⟨hj, rfl⟩ := List.getElem?_eq_some_iff.1 hn
  have hjk : j < k := by rw [hk] at hj; exact hj
  have hkp : 0 < k := by omega
  have hlt : i * k + j < L.length * k := by
    have : (i + 1) * k ≤ L.length * k := Nat.mul_le_mul_right k hi
    rw [Nat.add_mul, Nat.one_mul] at this
    omega
  have e1 : (i * k + j) / k = i := by rw [Nat.mul_comm, Nat.mul_add_div hkp, Nat.div_eq_of_lt hjk, Nat.add_zero]
  have e2 : (i * k + j) % k = j := by rw [Nat.mul_comm, Nat.mul_add_mod, Nat.mod_eq_of_lt hjk]
  have hg := get_flatK (encV nums) k L.toArray (i * k + j) (by simpa using hlt)
  rw [e1, e2] at hg
  have e3 : L.toArray[i]! = L[i] := by simp [hi]
  rw [e3] at hg
  refine ⟨.int .i64 (nums L[i])[j], ?_, by simp only [Rd]⟩
  simp only [World.cell?, hb]
  have hv : off + i * k + j < vs.size := by omega
  have hin : off ≤ off + i * k + j ∧ off + i * k + j < off + (flatK (encV nums) k L.toArray).size := ⟨by omega, by simp; omega⟩
  have hsub : off + i * k + j - off = i * k + j := by omega
  have : (putCells id off (flatK (encV nums) k L.toArray) vs)[off + i * k + j]? = some (Value.int .i64 (nums L[i])[j]) := by
    unfold putCells
    rw [Array.getElem?_mapIdx, Array.getElem?_eq_getElem hv]
    simp only [Option.map_some]
    rw [if_pos hin, hsub, hg]
    simp [encV, hj]
  simpa using this
/-- what the sort asks of a compare, by its contract -/
theorem cmp_lays {g : Nat} {Rg : Ct} {cf : α → α → Int} (hg : VSound Try.prog (g, Rg)) (hR : ∀ x y, Rg [.v (.ag ((encD nums x).map .d)), .v (.ag ((encD nums y).map .d))] [] (.di .i64 (cf x y)) []) (he : enterB Try.prog g = true) (b off size : Nat) (w : World) : CmpLays Try.prog g #[] (encV nums) k cf b off size w := by
  intro m os dk hd x y
  generalize hW : sortWorldK (encV nums) k w b off m dk os = W
  have hrel : ∀ x : α, V1Rel [] (Av (fun _ => False) [] []) W (.agg (encV nums x).toArray) (.ag ((encD nums x).map .d)) := by
    intro x
    refine ⟨_, rfl, ?_⟩
    unfold encV encD
    induction nums x with
    | nil => exact .nil
    | cons n l ih => exact .cons ⟨⟨by simp, by simp⟩, by show Rd (Av (fun _ => False) [] []) W (.int .i64 n) (.int .i64 n); simp only [Rd]⟩ ih
  rcases hg with ⟨hok, _⟩ | hext
  rotate_left
  · obtain ⟨v, ρ', w', hrun, _⟩ := hext (fun _ => False) W #[.agg (encV nums x).toArray, .agg (encV nums y).toArray] [.v (.ag ((encD nums x).map .d)), .v (.ag ((encD nums y).map .d))] [] [] (.di .i64 (cf x y)) []
      ⟨fun g l h => by cases h⟩ (fun _ h => h.elim) ⟨rfl, fun h r v hr => by simp at hr, fun h h' r r' v v' b hr => by simp at hr, fun b hb => by obtain ⟨h, r, v, h1, _⟩ := hb; simp at h1⟩
      (.cons (hrel x) (.cons (hrel y) .nil)) (hR x y)
    rw [run_enter (enterB_ok he)] at hrun
    cases hrun
  have := hok (fun _ => False) W #[.agg (encV nums x).toArray, .agg (encV nums y).toArray] [.v (.ag ((encD nums x).map .d)), .v (.ag ((encD nums y).map .d))] [] [] (.di .i64 (cf x y)) []
    ⟨fun g l h => by cases h⟩ (fun _ h => h.elim) ⟨rfl, fun h r v hr => by simp at hr, fun h h' r r' v v' b hr => by simp at hr, fun b hb => by obtain ⟨h, r, v, h1, _⟩ := hb; simp at h1⟩
    (fun b hb => by obtain ⟨h, r, v, h1, _⟩ := hb; simp at h1) (.cons (hrel x) (.cons (hrel y) .nil)) (hR x y)
  rw [Array.append_empty]
  refine this.mono ?_
  rintro e w' ⟨v, ρ', rfl, hv, _, hgr, hst, hsame, _⟩
  have hv' := sdi_inv hv
  subst hv'
  refine ⟨rfl, w'.drawn - W.drawn, w'.heap.extract W.heap.size w'.heap.size, ?_⟩
  have hh : w'.heap = W.heap ++ w'.heap.extract W.heap.size w'.heap.size := by
    apply Array.ext_getElem?
    intro i
    by_cases hi : i < W.heap.size
    · rw [Array.getElem?_append_left hi]
      exact hsame i hi (by rintro ⟨h, r, v, h1, _⟩; simp at h1)
    · rw [Array.getElem?_append_right (by omega), Array.getElem?_extract]
      by_cases h2 : i < w'.heap.size
      · rw [if_pos (by omega)]; congr 1; omega
      · rw [if_neg (by omega), Array.getElem?_eq_none (by omega)]
  have h1 := hst.os; have h2 := hst.tape; have h3 := hst.output; have h4 := hst.drawn
  obtain ⟨heap, tape, drawn, osw, output⟩ := w'
  simp only at h1 h2 h3 h4 hh
  subst h1; subst h2; subst h3
  unfold grow World.drewN
  rw [← hh]
  congr 1
  simp only
  omega
end
end Go.Proofs.Ytphmcgmblkbijaa.V
-- Tlay
namespace Go.Proofs
open Go.Shelf
def Try.sortMb_ren : Go.Shelf.Ren := ⟨fun | 6 => 49 | 15 => 82 | 14 => 83 | 28 => 118 | 29 => 119 | 20 => 120 | 21 => 121 | 22 => 122 | 23 => 123 | 24 => 124 | 25 => 125 | 26 => 126 | 27 => 127 | 46 => 145 | 47 => 141 | 48 => 142 | 49 => 146 | 50 => 147 | 57 => 154 | n => n, fun | 22 => 87 | 24 => 89 | 25 => 92 | 3 => 3 | 39 => 124 | 0 => 0 | 53 => 153 | 55 => 155 | 4 => 4 | 46 => 145 | 45 => 144 | 50 => 150 | 5 => 5 | 9 => 9 | 66 => 166 | 70 => 170 | 76 => 178 | 77 => 179 | n => n, fun | n => n⟩
theorem Try.sortMb : Go.Proofs.SlLaysF0.n6 Try.prog Try.sortMb_ren := {
  mixed := by kernel_rfl
  f6 := ⟨Try.f49.name, by decide, Try.func49.trans (congrArg some (by kernel_rfl))⟩
  f14 := ⟨Try.f83.name, by decide, Try.func83.trans (congrArg some (by kernel_rfl))⟩
  f15 := Try.func82.trans (congrArg some (by kernel_rfl))
  f20 := ⟨Try.f120.name, by decide, Try.func120.trans (congrArg some (by kernel_rfl))⟩
  f21 := ⟨Try.f121.name, by decide, Try.func121.trans (congrArg some (by kernel_rfl))⟩
  f22 := ⟨Try.f122.name, by decide, Try.func122.trans (congrArg some (by kernel_rfl))⟩
  f23 := ⟨Try.f123.name, by decide, Try.func123.trans (congrArg some (by kernel_rfl))⟩
  f24 := ⟨Try.f124.name, by decide, Try.func124.trans (congrArg some (by kernel_rfl))⟩
  f25 := ⟨Try.f125.name, by decide, Try.func125.trans (congrArg some (by kernel_rfl))⟩
  f26 := ⟨Try.f126.name, by decide, Try.func126.trans (congrArg some (by kernel_rfl))⟩
  f27 := ⟨Try.f127.name, by decide, Try.func127.trans (congrArg some (by kernel_rfl))⟩
  f28 := Try.func118.trans (congrArg some (by kernel_rfl))
  f29 := Try.func119.trans (congrArg some (by kernel_rfl))
  f46 := ⟨Try.f145.name, by decide, Try.func145.trans (congrArg some (by kernel_rfl))⟩
  f47 := Try.func141.trans (congrArg some (by kernel_rfl))
  f48 := Try.func142.trans (congrArg some (by kernel_rfl))
  f49 := ⟨Try.f146.name, by decide, Try.func146.trans (congrArg some (by kernel_rfl))⟩
  f50 := ⟨Try.f147.name, by decide, Try.func147.trans (congrArg some (by kernel_rfl))⟩
  f57 := ⟨Try.f154.name, by decide, Try.func154.trans (congrArg some (by kernel_rfl))⟩
  t0 := Try.underlying0
  a0 := Try.isAgg0
  z0 := Try.sizeOf0
  v0 := Try.zeroValue0
  t3 := Try.underlying3
  a3 := Try.isAgg3
  z3 := Try.sizeOf3
  v3 := Try.zeroValue3
  t4 := Try.underlying4
  a4 := Try.isAgg4
  z4 := Try.sizeOf4
  v4 := Try.zeroValue4
  t5 := Try.underlying5
  a5 := Try.isAgg5
  z5 := Try.sizeOf5
  v5 := Try.zeroValue5
  t9 := Try.underlying9
  a9 := Try.isAgg9
  z9 := Try.sizeOf9
  v9 := Try.zeroValue9
  t22 := Try.underlying87
  a22 := Try.isAgg87
  z22 := Try.sizeOf87
  v22 := Try.zeroValue87
  t25 := Try.underlying92
  a25 := Try.isAgg92
  z25 := Try.sizeOf92
  v25 := Try.zeroValue92
  t39 := Try.underlying124
  a39 := Try.isAgg124
  z39 := Try.sizeOf124
  v39 := Try.zeroValue124
  t45 := Try.underlying144
  a45 := Try.isAgg144
  z45 := Try.sizeOf144
  v45 := Try.zeroValue144
  t46 := Try.underlying145
  a46 := Try.isAgg145
  z46 := Try.sizeOf145
  v46 := Try.zeroValue145
  t50 := Try.underlying150
  a50 := Try.isAgg150
  z50 := Try.sizeOf150
  v50 := Try.zeroValue150
  t53 := Try.underlying153
  a53 := Try.isAgg153
  z53 := Try.sizeOf153
  v53 := Try.zeroValue153
  t55 := Try.underlying155
  a55 := Try.isAgg155
  z55 := Try.sizeOf155
  v55 := Try.zeroValue155
  t66 := Try.underlying166
  a66 := Try.isAgg166
  z66 := Try.sizeOf166
  v66 := Try.zeroValue166
  t70 := Try.underlying170
  a70 := Try.isAgg170
  z70 := Try.sizeOf170
  v70 := Try.zeroValue170
  t76 := Try.underlying178
  a76 := Try.isAgg178
  z76 := Try.sizeOf178
  v76 := Try.zeroValue178
  t77 := Try.underlying179
  a77 := Try.isAgg179
  z77 := Try.sizeOf179
  v77 := Try.zeroValue179 }
def Try.sortPr_ren : Go.Shelf.Ren := ⟨fun | 6 => 71 | 15 => 82 | 14 => 102 | 28 => 118 | 29 => 119 | 20 => 131 | 21 => 132 | 22 => 133 | 23 => 134 | 24 => 135 | 25 => 136 | 26 => 137 | 27 => 138 | 46 => 149 | 47 => 141 | 48 => 142 | 49 => 150 | 50 => 151 | 57 => 155 | n => n, fun | 22 => 72 | 24 => 74 | 25 => 114 | 3 => 3 | 39 => 124 | 0 => 0 | 53 => 153 | 55 => 155 | 4 => 4 | 46 => 145 | 45 => 144 | 50 => 150 | 5 => 5 | 9 => 9 | 66 => 166 | 70 => 170 | 76 => 178 | 77 => 179 | n => n, fun | n => n⟩
theorem Try.sortPr : Go.Proofs.SlLaysF0.n6 Try.prog Try.sortPr_ren := {
  mixed := by kernel_rfl
  f6 := ⟨Try.f71.name, by decide, Try.func71.trans (congrArg some (by kernel_rfl))⟩
  f14 := ⟨Try.f102.name, by decide, Try.func102.trans (congrArg some (by kernel_rfl))⟩
  f15 := Try.func82.trans (congrArg some (by kernel_rfl))
  f20 := ⟨Try.f131.name, by decide, Try.func131.trans (congrArg some (by kernel_rfl))⟩
  f21 := ⟨Try.f132.name, by decide, Try.func132.trans (congrArg some (by kernel_rfl))⟩
  f22 := ⟨Try.f133.name, by decide, Try.func133.trans (congrArg some (by kernel_rfl))⟩
  f23 := ⟨Try.f134.name, by decide, Try.func134.trans (congrArg some (by kernel_rfl))⟩
  f24 := ⟨Try.f135.name, by decide, Try.func135.trans (congrArg some (by kernel_rfl))⟩
  f25 := ⟨Try.f136.name, by decide, Try.func136.trans (congrArg some (by kernel_rfl))⟩
  f26 := ⟨Try.f137.name, by decide, Try.func137.trans (congrArg some (by kernel_rfl))⟩
  f27 := ⟨Try.f138.name, by decide, Try.func138.trans (congrArg some (by kernel_rfl))⟩
  f28 := Try.func118.trans (congrArg some (by kernel_rfl))
  f29 := Try.func119.trans (congrArg some (by kernel_rfl))
  f46 := ⟨Try.f149.name, by decide, Try.func149.trans (congrArg some (by kernel_rfl))⟩
  f47 := Try.func141.trans (congrArg some (by kernel_rfl))
  f48 := Try.func142.trans (congrArg some (by kernel_rfl))
  f49 := ⟨Try.f150.name, by decide, Try.func150.trans (congrArg some (by kernel_rfl))⟩
  f50 := ⟨Try.f151.name, by decide, Try.func151.trans (congrArg some (by kernel_rfl))⟩
  f57 := ⟨Try.f155.name, by decide, Try.func155.trans (congrArg some (by kernel_rfl))⟩
  t0 := Try.underlying0
  a0 := Try.isAgg0
  z0 := Try.sizeOf0
  v0 := Try.zeroValue0
  t3 := Try.underlying3
  a3 := Try.isAgg3
  z3 := Try.sizeOf3
  v3 := Try.zeroValue3
  t4 := Try.underlying4
  a4 := Try.isAgg4
  z4 := Try.sizeOf4
  v4 := Try.zeroValue4
  t5 := Try.underlying5
  a5 := Try.isAgg5
  z5 := Try.sizeOf5
  v5 := Try.zeroValue5
  t9 := Try.underlying9
  a9 := Try.isAgg9
  z9 := Try.sizeOf9
  v9 := Try.zeroValue9
  t22 := Try.underlying72
  a22 := Try.isAgg72
  z22 := Try.sizeOf72
  v22 := Try.zeroValue72
  t25 := Try.underlying114
  a25 := Try.isAgg114
  z25 := Try.sizeOf114
  v25 := Try.zeroValue114
  t39 := Try.underlying124
  a39 := Try.isAgg124
  z39 := Try.sizeOf124
  v39 := Try.zeroValue124
  t45 := Try.underlying144
  a45 := Try.isAgg144
  z45 := Try.sizeOf144
  v45 := Try.zeroValue144
  t46 := Try.underlying145
  a46 := Try.isAgg145
  z46 := Try.sizeOf145
  v46 := Try.zeroValue145
  t50 := Try.underlying150
  a50 := Try.isAgg150
  z50 := Try.sizeOf150
  v50 := Try.zeroValue150
  t53 := Try.underlying153
  a53 := Try.isAgg153
  z53 := Try.sizeOf153
  v53 := Try.zeroValue153
  t55 := Try.underlying155
  a55 := Try.isAgg155
  z55 := Try.sizeOf155
  v55 := Try.zeroValue155
  t66 := Try.underlying166
  a66 := Try.isAgg166
  z66 := Try.sizeOf166
  v66 := Try.zeroValue166
  t70 := Try.underlying170
  a70 := Try.isAgg170
  z70 := Try.sizeOf170
  v70 := Try.zeroValue170
  t76 := Try.underlying178
  a76 := Try.isAgg178
  z76 := Try.sizeOf178
  v76 := Try.zeroValue178
  t77 := Try.underlying179
  a77 := Try.isAgg179
  z77 := Try.sizeOf179
  v77 := Try.zeroValue179 }
end Go.Proofs
-- Te
namespace Go.Proofs.Ytphmcgmblkbijaa.V
open Go.Proofs.YtphmcgmblkbijaaVY Go.RowKit
structure Mb where
  im : Int
  num : Int
  ask : Nat
  pl : Int
instance : Inhabited Mb := ⟨⟨0, 0, 0, 0⟩⟩
def Mb.nums (m : Mb) : List Int := [m.im, m.num, m.ask, m.pl]
def Mb.c (m : Mb) : List D := encD Mb.nums m
def cmpI (a b : Int) : Int := if a < b then -1 else if a > b then 1 else 0
def orI : List Int → Int
  | [] => 0
  | x :: l => if x ≠ 0 then x else orI l
def ordM (a b : Mb) : Int := if (decide ((a.ask : Int) = 0)) ≠ decide ((b.ask : Int) = 0) then (if (a.ask : Int) > 0 then -1 else 1) else orI [cmpI a.ask b.ask, cmpI a.pl b.pl]
def R128 : Ct := fun ss hp r out => ∃ x : Int, ss = [.di .i64 x] ∧ hp = [] ∧ r = .db false ∧ out = []
set_option maxHeartbeats 4000000 in
theorem ok128 : VSound Try.prog (128, R128) := by
  refine vsound (T := ty) (F := []) (pl := []) (nw := true) (cuts := []) mix tyOk .nil Try.func128 (by kernel_rfl) (by kernel_rfl) ?_
  rintro _ _ _ _ ⟨x, rfl, rfl, rfl, rfl⟩
  conv => whnf
  (refine ⟨[], ?_⟩; (conv => whnf); refine ⟨[], .nil, .nil, ?_⟩; (conv => whnf))
  simp
def R85 : Ct := fun ss hp r out => ∃ a b : Int, ss = [.di .i64 a, .di .i64 b] ∧ hp = [] ∧ r = .di .i64 (cmpI a b) ∧ out = []
set_option maxHeartbeats 4000000 in
theorem ok85 : VSound Try.prog (85, R85) := by
  refine vsound (T := ty) (F := [(128, R128)]) (pl := []) (nw := true) (cuts := []) mix tyOk (.cons (ok128) .nil) Try.func85 (by kernel_rfl) (by kernel_rfl) ?_
  rintro _ _ _ _ ⟨a, b, rfl, rfl, rfl, rfl⟩
  conv => whnf
  (refine ⟨[], false, false, ?_⟩; (conv => whnf); refine ⟨_, _, ⟨a, rfl, rfl, rfl, rfl⟩, ?_⟩; (conv => whnf))
  (refine ⟨[], false, false, ?_⟩; (conv => whnf); refine ⟨_, _, ⟨b, rfl, rfl, rfl, rfl⟩, ?_⟩; (conv => whnf))
  ((first | refine And.intro (fun _ => ?_) (fun h => absurd h (by decide)) | refine And.intro (fun h => absurd h (by decide)) (fun _ => ?_)); (conv => whnf))
  ((first | refine And.intro (fun _ => ?_) (fun h => absurd h (by decide)) | refine And.intro (fun h => absurd h (by decide)) (fun _ => ?_)); (conv => whnf))
  ((with_reducible refine And.intro (fun (e : (_ : Bool) = true) => ?_) (fun (e : (_ : Bool) = false) => ?_)) <;> (try simp only [reduceCtorEq, ints_len, bools_len, bif_t, bif_f, zv0, zv1, zv2, zv3, zv4, zv5, zv6, zv7, zv8, zv9, zv10, zv11, zv12, zv13, zv14, zv15, zv16, zv17, zv18, zv19, zv20, zv21, zv22, zv23, zv24] at e) <;> (conv => whnf))
  · (refine ⟨[], ?_⟩; (conv => whnf); refine ⟨[], .nil, .nil, ?_⟩; (conv => whnf))
    unfold cmpI; rw [if_pos e]
  · ((with_reducible refine And.intro (fun (e : (_ : Bool) = true) => ?_) (fun (e : (_ : Bool) = false) => ?_)) <;> (try simp only [reduceCtorEq, ints_len, bools_len, bif_t, bif_f, zv0, zv1, zv2, zv3, zv4, zv5, zv6, zv7, zv8, zv9, zv10, zv11, zv12, zv13, zv14, zv15, zv16, zv17, zv18, zv19, zv20, zv21, zv22, zv23, zv24] at e) <;> (conv => whnf))
    · (refine ⟨[], ?_⟩; (conv => whnf); refine ⟨[], .nil, .nil, ?_⟩; (conv => whnf))
      unfold cmpI; rw [if_neg (by omega), if_pos (by omega)]
    · (refine ⟨[], ?_⟩; (conv => whnf); refine ⟨[], .nil, .nil, ?_⟩; (conv => whnf))
      unfold cmpI; rw [if_neg (by omega), if_neg (by omega)]
def R84 : Ct := fun ss hp r out => ∃ l : List Int, ss = [.one (.d (.sl 1 (l.map inC)))] ∧ hp = [] ∧ l.length < 4611686018427387904 ∧ r = .di .i64 (orI l) ∧ out = []
set_option maxHeartbeats 4000000 in
theorem ok84 : VSound Try.prog (84, R84) := by
  refine vsound (T := ty) (F := []) (pl := []) (nw := true) (cuts := []) mix tyOk .nil Try.func84 (by kernel_rfl) (by kernel_rfl) ?_
  rintro _ _ _ _ ⟨l, rfl, rfl, hl, rfl, rfl⟩
  conv => whnf
  refine ⟨[], [3, 6, 7, 8], 0, fun n σ => ∃ i : Nat, i ≤ l.length ∧ n = l.length - i ∧ orI l = orI (l.drop i) ∧ σ = (⟨[.junk, .junk, .junk, .di .i64 0, .junk, .junk, .one (.d (.sl 1 (l.map inC))), .di .i64 l.length, .di .i64 i, .junk, .junk, .junk, .junk, .junk, .junk, .junk, .junk, .junk], []⟩ : St), ?_, ?_⟩
  · refine ⟨l.length, ?_⟩
    conv => whnf
    exact ⟨0, by omega, by omega, rfl, by rw [map_len]; rfl⟩
  · rintro n _ ⟨i, hi, rfl, hb, rfl⟩
    conv => whnf
    ((with_reducible refine And.intro (fun (e : (_ : Bool) = true) => ?_) (fun (e : (_ : Bool) = false) => ?_)) <;> (try simp only [reduceCtorEq, ints_len, bools_len, bif_t, bif_f, zv0, zv1, zv2, zv3, zv4, zv5, zv6, zv7, zv8, zv9, zv10, zv11, zv12, zv13, zv14, zv15, zv16, zv17, zv18, zv19, zv20, zv21, zv22, zv23, zv24] at e) <;> (conv => whnf))
    · obtain ⟨y, hget⟩ := get_lt (l := l) (i := i) (by omega)
      have hd : l.drop i = y :: l.drop (i + 1) := by rw [List.drop_eq_getElem_cons (by omega)]; congr 1; exact (List.getElem?_eq_some_iff.1 hget).2
      (refine ⟨_, And.intro ⟨by omega, enc_get hget⟩ ?_⟩; (conv => whnf))
      ((with_reducible refine And.intro (fun (e : (_ : Bool) = true) => ?_) (fun (e : (_ : Bool) = false) => ?_)) <;> (try simp only [reduceCtorEq, ints_len, bools_len, bif_t, bif_f, zv0, zv1, zv2, zv3, zv4, zv5, zv6, zv7, zv8, zv9, zv10, zv11, zv12, zv13, zv14, zv15, zv16, zv17, zv18, zv19, zv20, zv21, zv22, zv23, zv24] at e) <;> (conv => whnf))
      · (refine ⟨[], ?_⟩; (conv => whnf); refine ⟨[], .nil, .nil, ?_⟩; (conv => whnf))
        rw [hb, hd, orI, if_pos e]
      · (refine And.intro ?_ ?_; ((first | (with_reducible assumption) | (intro _; with_reducible assumption) | omega | (simp only [reduceCtorEq, ints_len, bools_len, bif_t, bif_f, zv0, zv1, zv2, zv3, zv4, zv5, zv6, zv7, zv8, zv9, zv10, zv11, zv12, zv13, zv14, zv15, zv16, zv17, zv18, zv19, zv20, zv21, zv22, zv23, zv24] at *; omega) | (intro hg; (try simp only [reduceCtorEq, ints_len, bools_len, bif_t, bif_f, zv0, zv1, zv2, zv3, zv4, zv5, zv6, zv7, zv8, zv9, zv10, zv11, zv12, zv13, zv14, zv15, zv16, zv17, zv18, zv19, zv20, zv21, zv22, zv23, zv24] at hg); first | (with_reducible assumption) | omega | (simp only [reduceCtorEq, ints_len, bools_len, bif_t, bif_f, zv0, zv1, zv2, zv3, zv4, zv5, zv6, zv7, zv8, zv9, zv10, zv11, zv12, zv13, zv14, zv15, zv16, zv17, zv18, zv19, zv20, zv21, zv22, zv23, zv24] at *; omega) | (refine ⟨?_, ?_⟩ <;> omega)) | (refine ⟨?_, ?_⟩ <;> omega) | (simp [*]; done) | grind)); (conv => whnf))
        refine ⟨l.length - (i + 1), by omega, [], ?_⟩
        conv => whnf
        refine ⟨i + 1, by omega, rfl, ?_, rfl⟩
        rw [hb, hd, orI, if_neg (by simpa using e)]
    · (refine ⟨[], ?_⟩; (conv => whnf); refine ⟨[], .nil, .nil, ?_⟩; (conv => whnf))
      rw [hb, List.drop_of_length_le (by omega)]; rfl
def R50 : Ct := fun ss hp r out => ∃ a b : Mb, ss = [.v (.ag (a.c.map .d)), .v (.ag (b.c.map .d))] ∧ hp = [] ∧ r = .di .i64 (ordM a b) ∧ out = []
set_option maxHeartbeats 4000000 in
theorem ok50 : VSound Try.prog (50, R50) := by
  refine vsound (T := ty) (F := [(84, R84), (85, R85)]) (pl := [(5, [[], [0], [], [2], [0, 1, 2, 3], [], [5], [], [7], [0, 1, 2, 3, 4, 5, 6, 7, 8], [0, 1, 2, 3, 4, 5, 6, 7, 8, 9], [0, 1, 2, 3, 4, 5, 6, 7, 8, 9, 10], [0, 1, 2, 3, 4, 5, 6, 7, 8, 9, 10, 11]], .look 0 (.look 1 (.look 2 (.look 3 (.look 5 (.look 6 (.look 7 (.look 8 (.act 4 [5, 6, 7, 8] (.act 9 [] (.act 10 [] (.act 11 [] (.look 12 .done) .stop) .stop) .stop) .stop)))))))))]) (nw := true) (cuts := []) mix tyOk (.cons (ok84) (.cons (ok85) .nil)) Try.func50 (by kernel_rfl) (by kernel_rfl) ?_
  rintro _ _ _ _ ⟨⟨ai, an, aa, ap⟩, ⟨bi, bn, ba, bp⟩, rfl, rfl, rfl, rfl⟩
  conv => whnf
  have hz : ∀ n : Nat, ((n : Int) == 0) = decide ((n : Int) = 0) := fun n => rfl
  refine And.intro (fun (e1 : (_ : Bool) = true) => ?_) (fun (e1 : (_ : Bool) = false) => ?_) <;> (conv => whnf)
  · have hne : decide ((aa : Int) = 0) ≠ decide ((ba : Int) = 0) := by
      intro h
      simp only [hz, h] at e1
      simp at e1
    refine And.intro (fun (e2 : (_ : Bool) = true) => ?_) (fun (e2 : (_ : Bool) = false) => ?_) <;> (conv => whnf)
    · (refine ⟨[], ?_⟩; (conv => whnf); refine ⟨[], .nil, .nil, ?_⟩; (conv => whnf))
      unfold ordM; rw [if_pos hne, if_pos (by simpa using e2)]
    · (refine ⟨[], ?_⟩; (conv => whnf); refine ⟨[], .nil, .nil, ?_⟩; (conv => whnf))
      unfold ordM; rw [if_pos hne, if_neg (by simpa using e2)]
  · have hne : ¬ decide ((aa : Int) = 0) ≠ decide ((ba : Int) = 0) := by
      intro h
      apply h
      simp only [hz] at e1
      simpa using e1
    (refine ⟨[], false, false, ?_⟩; (conv => whnf); refine ⟨_, _, ⟨aa, ba, rfl, rfl, rfl, rfl⟩, ?_⟩; (conv => whnf))
    (refine ⟨[], false, false, ?_⟩; (conv => whnf); refine ⟨_, _, ⟨ap, bp, rfl, rfl, rfl, rfl⟩, ?_⟩; (conv => whnf))
    (refine ⟨[], false, false, ?_⟩; (conv => whnf); refine ⟨_, _, ⟨[cmpI aa ba, cmpI ap bp], rfl, rfl, by simp, rfl, rfl⟩, ?_⟩; (conv => whnf))
    (refine ⟨[], ?_⟩; (conv => whnf); refine ⟨[], .nil, .nil, ?_⟩; (conv => whnf))
    unfold ordM; rw [if_neg hne]
theorem cmpI_cases (a b : Int) : (a < b ∧ cmpI a b = -1) ∨ (a = b ∧ cmpI a b = 0) ∨ (b < a ∧ cmpI a b = 1) := by
  unfold cmpI
  by_cases h : a < b
  · exact .inl ⟨h, if_pos h⟩
  · by_cases h2 : a > b
    · exact .inr (.inr ⟨h2, by rw [if_neg h, if_pos h2]⟩)
    · exact .inr (.inl ⟨by omega, by rw [if_neg h, if_neg h2]⟩)
def lessM (x y : Mb) : Prop := (x.ask ≠ 0 ∧ y.ask = 0) ∨ ((x.ask = 0 ↔ y.ask = 0) ∧ (x.ask < y.ask ∨ (x.ask = y.ask ∧ x.pl < y.pl)))
theorem ordM_lt (x y : Mb) : ordM x y < 0 ↔ lessM x y := by
  unfold ordM lessM
  have hz : ∀ n : Nat, decide ((n : Int) = 0) = decide (n = 0) := fun n => by by_cases h : n = 0 <;> simp [h]
  simp only [hz]
  by_cases hx : x.ask = 0 <;> by_cases hy : y.ask = 0
  · have e0 : cmpI (x.ask : Int) (y.ask : Int) = 0 := by rw [hx, hy]; rfl
    rw [if_neg (by simp [hx, hy])]
    simp only [orI, e0]
    rcases cmpI_cases x.pl y.pl with ⟨h', e'⟩ | ⟨h', e'⟩ | ⟨h', e'⟩ <;> simp [e', hx, hy] <;> omega
  · simp [hx, hy]
  · simp [hx, hy]; omega
  · simp only [hx, hy, orI]
    rcases cmpI_cases (x.ask : Int) (y.ask : Int) with ⟨h, e⟩ | ⟨h, e⟩ | ⟨h, e⟩ <;> rcases cmpI_cases x.pl y.pl with ⟨h', e'⟩ | ⟨h', e'⟩ | ⟨h', e'⟩ <;> simp [e, e'] <;> omega
theorem swo_ord : Sort.SWO (ltOf ordM) where
  irrefl x := by unfold ltOf; rw [decide_eq_false]; rw [ordM_lt]; unfold lessM; omega
  trans x y z h1 h2 := by
    unfold ltOf at *
    rw [decide_eq_true_eq, ordM_lt] at *
    unfold lessM at *; omega
  ntrans x y z h1 h2 := by
    unfold ltOf at *
    rw [decide_eq_false_iff_not, ordM_lt] at *
    unfold lessM at *; omega
end Go.Proofs.Ytphmcgmblkbijaa.V
-- Tf
namespace Go.Proofs.Ytphmcgmblkbijaa.V
open Go.Proofs.YtphmcgmblkbijaaVY Go.RowKit
abbrev Mr := List (Int × Option (List (List D)))
/-- a row of a map is written, in its own block -/
theorem maprows_turn {A A' : Nat → Prop} {w w' : World} {sz : Nat} (H : Lasts A A' w w') {b' : Nat} (hsame : ∀ b, b < w.heap.size → b ≠ b' → w'.heap[b]? = w.heap[b]?) {u : Value} {L' : List (List D)} (hrow : RowAt A' w' u sz L') (hbu : blk u = some b') {key : Int} :
    ∀ {es : List MapEntry} {us : List Value} {M : Mr} {i : Nat} {L : List (List D)}, MapRows A w sz es us M → (us.filterMap blk).Nodup → M[i]? = some (key, some L) → us[i]? = some u → MapRows A' w' sz es us (M.set i (key, some L')) := by
  intro es us M i L h hnd hM hu
  induction h generalizing i with
  | nil => simp at hM
  | @cons e es u0 us k r M hk hf hr hrest ih =>
    have hnd0 : ∀ b, blk u0 = some b → b ∉ us.filterMap blk := by
      intro b hb hm
      rw [List.filterMap_cons, hb] at hnd
      exact (List.nodup_cons.1 hnd).1 hm
    have hnd1 : (us.filterMap blk).Nodup := by
      rw [List.filterMap_cons] at hnd
      split at hnd
      · exact hnd
      · exact (List.nodup_cons.1 hnd).2
    cases i with
    | zero =>
      simp at hM hu
      obtain ⟨⟨rfl, rfl⟩, rfl⟩ := And.intro hM hu
      have hns : ∀ x ∈ us, ∀ b, blk x = some b → w'.heap[b]? = w.heap[b]? := fun x hx b hb => hsame b (hrest.block hx hb) (by
        rintro rfl
        exact hnd0 _ hbu (List.mem_filterMap.2 ⟨x, hx, hb⟩))
      exact .cons hk hf ⟨hr.1, hrow⟩ (hrest.lasts H hns)
    | succ i =>
      have hu' : us[i]? = some u := by simpa using hu
      refine .cons hk hf ?_ (ih hnd1 (by simpa using hM) hu')
      cases r with
      | none => exact hr
      | some L0 =>
        refine ⟨hr.1, hr.2.lasts H fun b hb => hsame b (hr.2.block hb) ?_⟩
        rintro rfl
        exact hnd0 _ hb (List.mem_filterMap.2 ⟨u, List.mem_of_getElem? hu', hbu⟩)
def sortM (L : List Mb) : List Mb := sortF ordM L
theorem sortM_len (L : List Mb) : (sortM L).length = L.length := by
  have h := (sortF_spec swo_ord L).1.1
  simpa [sortM] using h
def R49 : Ct := fun ss hp r out => ∃ (M : Mr) (i : Nat) (key : Int) (L : List Mb) (v : Value), ss = [.one (.sub 0 i), .one (.fn 50 [])] ∧ hp = [.mapr 4 M, .mem v (.town 0)] ∧ M[i]? = some (key, some (L.map Mb.c)) ∧ 0 < L.length ∧ L.length < 4611686018427387904 ∧ r = .tup [] ∧ out = [.mapr 4 (M.set i (key, some ((sortM L).map Mb.c))), .mem v (.town 0)]
theorem ok49 : VSound Try.prog (49, R49) := by
  refine .inl ⟨?_, enterB_ok (by kernel_rfl)⟩
  intro X w args ss hp ρ r out hG hX hH hgl ha hR
  obtain ⟨M, i, key, L, v, rfl, rfl, hM, h0, hl, rfl, rfl⟩ := hR
  obtain ⟨v0, hv0, b, es, clock, us, rfl, hb, hMR, hst, hnd⟩ := hH.val (h := 0) (r := .mapr 4 M) rfl
  obtain ⟨e0, u, he0, hu, hke, hfl, hev, hrow⟩ := hMR.getM hM
  obtain ⟨av, af, rfl, hav, haf⟩ : ∃ av af, args = #[av, af] ∧ SRel ρ (Av X ρ [.mapr 4 M, .mem v (.town 0)]) w av (.one (.sub 0 i)) ∧ SRel ρ (Av X ρ [.mapr 4 M, .mem v (.town 0)]) w af (.one (.fn 50 [])) := by
    obtain ⟨args⟩ := args
    cases ha with
    | cons h1 h2 => cases h2 with
      | cons h2 h3 => cases h3; exact ⟨_, _, rfl, h1, h2⟩
  obtain ⟨u1, us1, h1, h2, _⟩ := hav
  rw [hv0] at h1; cases h1
  rw [hu] at h2; cases h2
  obtain ⟨cs, rfl, hcs⟩ := haf
  have : cs = #[] := by
    cases hcs' : cs.toList with
    | nil => simpa using hcs'
    | cons _ _ => rw [hcs'] at hcs; cases hcs
  subst this
  obtain ⟨a0, c, rfl, hlc, hz, hR⟩ := hrow
  rw [List.length_map] at hlc
  rcases hR with rfl | ⟨b', off, T, vs, rfl, hb', hsz, hL⟩
  · omega
  have hlt : b' < w.heap.size := (Array.getElem?_eq_some_iff.1 hb').1
  obtain ⟨c1, rfl⟩ : ∃ c1, c = c1 + 1 := ⟨c - 1, by omega⟩
  have hblk : blk (.slice (some ⟨b', off, none⟩) (L.map Mb.c).length (c1 + 1)) = some b' := rfl
  have hbk : Bk (.tuple ⟨.map (some b) :: us⟩) b' := ⟨_, List.mem_cons_of_mem _ (List.mem_of_getElem? hu), hblk⟩
  have hne : b ≠ b' := by
    rintro rfl
    exact (List.nodup_cons.1 hnd).1 (List.mem_filterMap.2 ⟨_, List.mem_of_getElem? hu, hblk⟩)
  have hn4 : ∀ x : Mb, x.nums.length = 4 := fun x => rfl
  have hHolds : Sort.HoldsK (encV Mb.nums) 4 w b' off L.toArray := holds_of hn4 hb' hL
  have hcmp : CmpLays Try.prog 50 #[] (encV Mb.nums) 4 ordM b' off L.toArray.size w := cmp_lays ok50 (fun x y => ⟨x, y, rfl, rfl, rfl, rfl⟩) (by kernel_rfl) b' off _ w
  have eg : ∀ args w, (callFunc 50 args).run Try.prog w = .ok (.enter 50 args) w := fun args w => run_enter (enterB_ok (by kernel_rfl)) args
  have hcon := AnyQ.slices_SortFunc_eq Try.sortMb 4 Try.isAgg89 Try.sizeOf89 (encV Mb.nums) (fun x => rfl) (fun x v hv => by simp [encV, Mb.nums] at hv; rcases hv with rfl | rfl | rfl | rfl <;> rfl) ordM swo_ord 50 #[] b' off (c1 + 1) L.toArray w eg hcmp hHolds hlt (by simpa using hl)
  have hs : Sort.pdq (ltOf ordM) L.toArray 0 L.toArray.size (Lib.bitLen L.toArray.size) true true = (sortM L).toArray := by unfold sortM sortF; exact (Array.toArray_toList).symm
  rw [hs, show L.toArray.size = (L.map Mb.c).length by simp] at hcon
  change Calls Try.prog 49 _ _ _ at hcon
  refine hcon.mono ?_
  rintro e w' ⟨rfl, n, os, hw⟩
  unfold Go.Proofs.sortWorldK Sort.putRowK at hw
  change w' = Sort.grow (Sort.putRow id (Sort.ahead w n) b' off (Sort.flatK (encV Mb.nums) 4 (sortM L).toArray)) os at hw
  have hold : ∀ k, k < w.heap.size → k ≠ b' → w'.heap[k]? = w.heap[k]? := by
    intro k hk hne
    rw [hw, show (Sort.grow (Sort.putRow id (Sort.ahead w n) b' off (Sort.flatK (encV Mb.nums) 4 (sortM L).toArray)) os).heap = (Sort.putRow id (Sort.ahead w n) b' off (Sort.flatK (encV Mb.nums) 4 (sortM L).toArray)).heap ++ os from rfl, Array.getElem?_append_left (by simpa using hk)]
    simp [Sort.putRow, Sort.mapBlock, Sort.ahead, Array.getElem?_modify, Ne.symm hne]
  have hnew : w'.heap[b']? = some (.cells (Sort.putCells id off (Sort.flatK (encV Mb.nums) 4 (sortM L).toArray) vs) T (0, 0)) := by
    rw [hw, show (Sort.grow (Sort.putRow id (Sort.ahead w n) b' off (Sort.flatK (encV Mb.nums) 4 (sortM L).toArray)) os).heap = (Sort.putRow id (Sort.ahead w n) b' off (Sort.flatK (encV Mb.nums) 4 (sortM L).toArray)).heap ++ os from rfl, Array.getElem?_append_left (by simpa using hlt)]
    simp [Sort.putRow, Sort.mapBlock, Sort.ahead, Array.getElem?_modify, hb', Sort.onCells]
  have hgr : w.heap.size ≤ w'.heap.size := by rw [hw]; simp [Sort.ahead]
  have hst' : Str w w' := by rw [hw]; exact ⟨rfl, rfl, rfl, Nat.le_add_right _ _⟩
  clear hw
  have T' : Go.Proofs.YtphmcgmblkbijaaVY.Touch X ρ ρ [.mapr 4 M, .mem v (.town 0)] [.mapr 4 (M.set i (key, some ((sortM L).map Mb.c))), .mem v (.town 0)] w w' 0 (.mapr 4 (M.set i (key, some ((sortM L).map Mb.c)))) (.tuple ⟨.map (some b) :: us⟩) none := {
    len' := hH.len
    oth := fun h hne => by
      rw [loseO_none_map]
      refine ⟨?_, rfl⟩
      cases h with
      | zero => exact absurd rfl hne
      | succ h => rfl
    hpt := rfl
    ρt := hv0
    grow := hgr
    inv0 := .inl rfl
    keep := fun _ _ => hv0
    row := fun h => by cases h
    fresh := fun _ b2 hb2 => .inr ⟨_, _, rfl, rfl, hv0, hb2⟩
    same := fun k hk => by
      by_cases e : k = b'
      · subst e; exact .inr ⟨_, _, rfl, rfl, hv0, hbk⟩
      · exact .inl (hold k hk e)
    xlt := hX
    str := hst' }
  refine ⟨_, ρ, rfl, ⟨#[], rfl, .nil⟩, hH.touch T' ?_, hgr, hst', fun k hk hn => ?_, fun k hk => ?_⟩
  · refine ⟨b, es, clock, us, rfl, (hold b (Array.getElem?_eq_some_iff.1 hb).1 hne).trans hb, ?_, hst, hnd⟩
    refine maprows_turn T'.lasts hold ?_ hblk hMR (List.nodup_cons.1 hnd).2 hM hu
    refine ⟨some ⟨b', off, none⟩, c1 + 1, by rw [List.length_map, List.length_map, sortM_len], by rw [List.length_map, sortM_len]; exact hlc, hz, .inr ⟨b', off, T, _, rfl, hnew, by simpa [Sort.putCells] using hsz, read_of hn4 hnew ?_⟩⟩
    rw [sortM_len]
    have : L.length * 4 ≤ (c1 + 1) * 4 := Nat.mul_le_mul_right 4 hlc
    omega
  · by_cases e : k = b'
    · subst e; exact absurd ⟨0, _, _, rfl, rfl, hv0, hbk⟩ hn
    · exact hold k hk e
  · exact (T'.live hk).elim .inr .inl
end Go.Proofs.Ytphmcgmblkbijaa.V
-- Vshelf
namespace Go.Proofs
open Go.Shelf
def Try.lays189_ren : Go.Shelf.Ren := ⟨fun | 189 => 48 | 125 => 82 | 257 => 81 | 128 => 118 | 129 => 119 | 294 => 109 | 295 => 110 | 296 => 111 | 297 => 112 | 298 => 113 | 299 => 114 | 216 => 115 | 300 => 116 | 301 => 117 | 328 => 140 | 329 => 141 | 330 => 142 | 331 => 143 | 332 => 144 | 215 => 128 | 343 => 153 | n => n, fun | 28 => 22 | 3 => 3 | 46 => 124 | 0 => 0 | 51 => 153 | 53 => 155 | 4 => 4 | 183 => 145 | 182 => 144 | 131 => 150 | 5 => 5 | 9 => 9 | 218 => 166 | 222 => 170 | 228 => 178 | 229 => 179 | n => n, fun | n => n⟩
theorem Try.lays189 : Go.Proofs.Lays.n189 Try.prog Try.lays189_ren := {
  mixed := by kernel_rfl
  f125 := Try.func82.trans (congrArg some (by kernel_rfl))
  f128 := Try.func118.trans (congrArg some (by kernel_rfl))
  f129 := Try.func119.trans (congrArg some (by kernel_rfl))
  f189 := Try.func48.trans (congrArg some (by kernel_rfl))
  f215 := Try.func128.trans (congrArg some (by kernel_rfl))
  f216 := Try.func115.trans (congrArg some (by kernel_rfl))
  f257 := Try.func81.trans (congrArg some (by kernel_rfl))
  f294 := Try.func109.trans (congrArg some (by kernel_rfl))
  f295 := Try.func110.trans (congrArg some (by kernel_rfl))
  f296 := Try.func111.trans (congrArg some (by kernel_rfl))
  f297 := Try.func112.trans (congrArg some (by kernel_rfl))
  f298 := Try.func113.trans (congrArg some (by kernel_rfl))
  f299 := Try.func114.trans (congrArg some (by kernel_rfl))
  f300 := Try.func116.trans (congrArg some (by kernel_rfl))
  f301 := Try.func117.trans (congrArg some (by kernel_rfl))
  f328 := Try.func140.trans (congrArg some (by kernel_rfl))
  f329 := Try.func141.trans (congrArg some (by kernel_rfl))
  f330 := Try.func142.trans (congrArg some (by kernel_rfl))
  f331 := Try.func143.trans (congrArg some (by kernel_rfl))
  f332 := Try.func144.trans (congrArg some (by kernel_rfl))
  f343 := Try.func153.trans (congrArg some (by kernel_rfl))
  t0 := Try.underlying0
  a0 := Try.isAgg0
  z0 := Try.sizeOf0
  v0 := Try.zeroValue0
  t3 := Try.underlying3
  a3 := Try.isAgg3
  z3 := Try.sizeOf3
  v3 := Try.zeroValue3
  t4 := Try.underlying4
  a4 := Try.isAgg4
  z4 := Try.sizeOf4
  v4 := Try.zeroValue4
  t5 := Try.underlying5
  a5 := Try.isAgg5
  z5 := Try.sizeOf5
  v5 := Try.zeroValue5
  t9 := Try.underlying9
  a9 := Try.isAgg9
  z9 := Try.sizeOf9
  v9 := Try.zeroValue9
  t28 := Try.underlying22
  a28 := Try.isAgg22
  z28 := Try.sizeOf22
  v28 := Try.zeroValue22
  t46 := Try.underlying124
  a46 := Try.isAgg124
  z46 := Try.sizeOf124
  v46 := Try.zeroValue124
  t51 := Try.underlying153
  a51 := Try.isAgg153
  z51 := Try.sizeOf153
  v51 := Try.zeroValue153
  t53 := Try.underlying155
  a53 := Try.isAgg155
  z53 := Try.sizeOf155
  v53 := Try.zeroValue155
  t131 := Try.underlying150
  a131 := Try.isAgg150
  z131 := Try.sizeOf150
  v131 := Try.zeroValue150
  t182 := Try.underlying144
  a182 := Try.isAgg144
  z182 := Try.sizeOf144
  v182 := Try.zeroValue144
  t183 := Try.underlying145
  a183 := Try.isAgg145
  z183 := Try.sizeOf145
  v183 := Try.zeroValue145
  t218 := Try.underlying166
  a218 := Try.isAgg166
  z218 := Try.sizeOf166
  v218 := Try.zeroValue166
  t222 := Try.underlying170
  a222 := Try.isAgg170
  z222 := Try.sizeOf170
  v222 := Try.zeroValue170
  t228 := Try.underlying178
  a228 := Try.isAgg178
  z228 := Try.sizeOf178
  v228 := Try.zeroValue178
  t229 := Try.underlying179
  a229 := Try.isAgg179
  z229 := Try.sizeOf179
  v229 := Try.zeroValue179 }
open Go.Sort Go.RowKit in
theorem Try.slices_Sort_int (blk off cap : Nat) (zs : List Int) (w : World) (hH : Holds (Value.int .i64) w blk off zs.toArray) (hblk : blk < w.heap.size) (hsz : zs.length < 4611686018427387904) :
    Calls Try.prog 48 #[.slice (some ⟨blk, off, none⟩) zs.length cap] w fun e w' =>
      e = .returned (.tuple #[]) ∧ ∃ n os, w' = grow (putRow (Value.int .i64) (Sort.ahead w n) blk off (zs.mergeSort fun x y => decide (x ≤ y)).toArray) os := Any.slices_Sort_int Try.lays189 blk off cap zs w hH hblk hsz
open Go.RowKit Go.Sort in
/-- .. and plain. (LAID: no walk: one application.) -/
theorem Try.slices_Sort_int_none (p : Option Addr) (cap : Nat) (w : World) :
    Calls Try.prog 48 #[.slice p 0 cap] w fun e w' => e = .returned (.tuple #[]) ∧ w' = w := Any.slices_Sort_int_none Try.lays189 p cap w
end Go.Proofs
-- Vsort
namespace Go.Proofs.Ytphmcgmblkbijaa.V
open Go.Proofs.YtphmcgmblkbijaaVY Go.RowKit
def sortI (l : List Int) : List Int := l.mergeSort fun x y => decide (x ≤ y)
theorem sortI_len (l : List Int) : (sortI l).length = l.length := List.length_mergeSort l
theorem sortI_perm (l : List Int) : (sortI l).Perm l := List.mergeSort_perm ..
theorem sortI_sorted (l : List Int) : (sortI l).Pairwise (· ≤ ·) := by
  have := List.pairwise_mergeSort (le := fun x y : Int => decide (x ≤ y)) (by simp; omega) (by simp; omega) l
  exact this.imp fun h => by simpa using h
/-- cells that read as ints -/
theorem ints_cells {A : Nat → Prop} {w : World} {b off : Nat} {l : List Int} (h : RdL A w b off 1 (l.map inC)) {j : Nat} (hj : j < l.length) : w.cell? ⟨b, off + j, none⟩ = some (.int .i64 (l[j]'hj)) := by
  have h1 : (l.map inC)[j]? = some (inC l[j]) := by rw [List.getElem?_map, List.getElem?_eq_getElem hj]; rfl
  have h2 := (h.get h1).2
  simp only [RdC] at h2
  obtain ⟨⟨v, hv, hx⟩, _⟩ := h2
  simp only [Rd] at hx
  subst hx
  rw [Nat.mul_one] at hv
  exact hv
theorem ints_read {A : Nat → Prop} {w : World} {b off : Nat} {l : List Int} (h : ∀ (j : Nat) (hj : j < l.length), w.cell? ⟨b, off + j, none⟩ = some (.int .i64 (l[j]'hj))) : RdL A w b off 1 (l.map inC) := by
  refine RdL_mk fun i e he => ?_
  rw [List.getElem?_map] at he
  obtain ⟨n, hn, rfl⟩ := Option.map_eq_some_iff.1 he
  obtain ⟨hi, rfl⟩ := List.getElem?_eq_some_iff.1 hn
  refine ⟨rfl, RdC_mk fun j x hx => ?_⟩
  cases j with
  | zero => simp at hx; subst hx; exact ⟨_, by rw [Nat.mul_one, Nat.add_zero]; exact h i hi, by simp only [Rd]⟩
  | succ j => simp at hx
def R48 : Ct := fun ss hp r out => ∃ (l : List Int) (v : Value), ss = [.one (.own 0)] ∧ hp = [.row 1 (l.map inC), .mem v (.own 0)] ∧ l.length < 4611686018427387904 ∧ r = .tup [] ∧ out = [.row 1 ((sortI l).map inC), .mem v (.own 0)]
theorem ok48 : VSound Try.prog (48, R48) := by
  refine .inl ⟨?_, enterB_ok (by kernel_rfl)⟩
  intro X w args ss hp ρ r out hG hX hH hgl ha hR
  obtain ⟨l, v, rfl, rfl, hl, rfl, rfl⟩ := hR
  obtain ⟨v0, hv0, a, c, rfl, hlc, hz, hrow⟩ := hH.val (h := 0) (r := .row 1 (l.map inC)) rfl
  obtain ⟨v1, hv1, hmem⟩ := hH.val (h := 1) (r := .mem v (.own 0)) rfl
  rw [map_len] at hlc hv0
  obtain ⟨av, rfl⟩ : ∃ av, args = #[av] := by
    obtain ⟨args⟩ := args
    cases ha with
    | cons h1 h2 => cases h2; exact ⟨_, rfl⟩
  obtain ⟨hav, _⟩ : ρ[0]? = some av ∧ Flat av := by
    cases ha with
    | cons h1 h2 => exact h1
  rw [hv0] at hav; cases hav
  have tup : ∀ w', SRel ρ (Av X ρ [.row 1 ((sortI l).map inC), .mem v (.own 0)]) w' (.tuple #[]) (.tup []) := fun w' => ⟨#[], rfl, .nil⟩
  by_cases h0 : l.length = 0
  · have hl0 : l = [] := List.length_eq_zero_iff.1 h0
    subst hl0
    rw [show sortI [] = [] by simp [sortI]] at tup ⊢
    refine (Try.slices_Sort_int_none a c w).mono ?_
    rintro e w' ⟨rfl, rfl⟩
    exact ⟨_, ρ, rfl, tup _, hH, Nat.le_refl _, ⟨rfl, rfl, rfl, Nat.le_refl _⟩, fun _ _ _ => rfl, fun b hb => .inl hb⟩
  · rcases hrow with rfl | ⟨b, off, T, vs, rfl, hb, hsz, hL⟩
    · omega
    · have hlt : b < w.heap.size := (Array.getElem?_eq_some_iff.1 hb).1
      have hHolds : Sort.Holds (Value.int .i64) w b off l.toArray := fun j hj => by
        have hj' : j < l.length := by simpa using hj
        refine ⟨?_, by simp [World.frozen?, hb]⟩
        rw [ints_cells hL hj']
        simp [hj']
      refine (Try.slices_Sort_int b off c l w hHolds hlt hl).mono ?_
      rintro e w' ⟨rfl, n, os, hw⟩
      change w' = Sort.grow (Sort.putRow (Value.int .i64) (Sort.ahead w n) b off (sortI l).toArray) os at hw
      have hs : (sortI l).toArray.size = l.toArray.size := by simp [sortI_len]
      have hold : ∀ k, k < w.heap.size → k ≠ b → w'.heap[k]? = w.heap[k]? := by
        intro k hk hne
        rw [hw, show (Sort.grow (Sort.putRow (Value.int .i64) (Sort.ahead w n) b off (sortI l).toArray) os).heap = (Sort.putRow (Value.int .i64) (Sort.ahead w n) b off (sortI l).toArray).heap ++ os from rfl, Array.getElem?_append_left (by simpa using hk)]
        simp [Sort.putRow, Sort.mapBlock, Sort.ahead, Array.getElem?_modify, Ne.symm hne]
      have hnew : w'.heap[b]? = some (.cells (Sort.putCells (Value.int .i64) off (sortI l).toArray vs) T (0, 0)) := by
        rw [hw, show (Sort.grow (Sort.putRow (Value.int .i64) (Sort.ahead w n) b off (sortI l).toArray) os).heap = (Sort.putRow (Value.int .i64) (Sort.ahead w n) b off (sortI l).toArray).heap ++ os from rfl, Array.getElem?_append_left (by simpa using hlt)]
        simp [Sort.putRow, Sort.mapBlock, Sort.ahead, Array.getElem?_modify, hb, Sort.onCells]
      have hgr : w.heap.size ≤ w'.heap.size := by rw [hw]; simp [Sort.ahead]
      have hst : Str w w' := by rw [hw]; exact ⟨rfl, rfl, rfl, Nat.le_add_right _ _⟩
      clear hw
      obtain ⟨c1, rfl⟩ : ∃ c1, c = c1 + 1 := ⟨c - 1, by omega⟩
      obtain ⟨l1, hl1⟩ : ∃ l1, l.length = l1 + 1 := ⟨l.length - 1, by omega⟩
      have hbk : Bk (.slice (some ⟨b, off, none⟩) l.length (c1 + 1)) b := rfl
      have T' : Go.Proofs.YtphmcgmblkbijaaVY.Touch X ρ ρ [.row 1 (l.map inC), .mem v (.own 0)] [.row 1 ((sortI l).map inC), .mem v (.own 0)] w w' 0 (.row 1 ((sortI l).map inC)) (.slice (some ⟨b, off, none⟩) l.length (c1 + 1)) none := {
        len' := hH.len
        oth := fun h hne => by
          rw [loseO_none_map]
          refine ⟨?_, rfl⟩
          cases h with
          | zero => exact absurd rfl hne
          | succ h => rfl
        hpt := rfl
        ρt := hv0
        grow := hgr
        inv0 := .inl rfl
        keep := fun _ _ => hv0
        row := fun h => by cases h
        fresh := fun _ b' hb' => .inr ⟨_, _, rfl, rfl, hv0, hb'⟩
        same := fun k hk => by
          by_cases e : k = b
          · subst e; exact .inr ⟨_, _, rfl, rfl, hv0, hbk⟩
          · exact .inl (hold k hk e)
        xlt := hX
        str := hst }
      refine ⟨_, ρ, rfl, tup _, hH.touch T' ?_, hgr, hst, fun k hk hn => ?_, fun k hk => ?_⟩
      · refine ⟨some ⟨b, off, none⟩, c1 + 1, by rw [map_len, sortI_len], by rw [map_len, sortI_len]; exact hlc, hz, .inr ⟨b, off, T, _, rfl, hnew, by simpa [Sort.putCells] using hsz, ints_read fun j hj => ?_⟩⟩
        have hj' : j < l.length := by rw [sortI_len] at hj; exact hj
        have hc := ints_cells hL hj'
        simp only [World.cell?, hb] at hc
        simp only [World.cell?, hnew]
        simp only [Option.isSome_none, Bool.false_eq_true, if_false] at hc ⊢
        have hlt2 : off + j < vs.size := (Array.getElem?_eq_some_iff.1 hc).1
        simp [Sort.putCells, hj, hlt2]
      · by_cases e : k = b
        · subst e; exact absurd ⟨0, _, _, rfl, rfl, hv0, hbk⟩ hn
        · exact hold k hk e
      · exact (T'.live hk).elim .inr .inl
end Go.Proofs.Ytphmcgmblkbijaa.V
-- Tg
namespace Go.Proofs.Ytphmcgmblkbijaa.V
open Go.Proofs.YtphmcgmblkbijaaVY Go.RowKit
section
variable (ims nums asked : List Int)
def memAt (i : Nat) : Mb := ⟨ims.getD i 0, nums.getD i 0, (asked.getD i 0).toNat, i⟩
def mems (n : Int) : Nat → List Mb
  | 0 => []
  | i + 1 => mems n i ++ if nums.getD i 0 = n then [memAt ims nums asked i] else []
def fnd : Nat → List Int
  | 0 => []
  | i + 1 => if nums.getD i 0 ∈ fnd i then fnd i else fnd i ++ [nums.getD i 0]
def badAt (i : Nat) : Prop := nums.getD i 0 < 1 ∨ 100 < nums.getD i 0 ∨ asked.getD i 0 < 0 ∨ 100 < asked.getD i 0
instance (i : Nat) : Decidable (badAt nums asked i) := inferInstanceAs (Decidable (_ ∨ _))
def anyBad : Bool := (List.range nums.length).any fun i => decide (badAt nums asked i)
end
theorem anyBad_of {nums asked : List Int} {i : Nat} (hi : i < nums.length) (h : badAt nums asked i) : anyBad nums asked = true :=
  List.any_eq_true.2 ⟨i, List.mem_range.2 hi, decide_eq_true h⟩
theorem anyBad_no {nums asked : List Int} (h : ∀ i < nums.length, ¬ badAt nums asked i) : anyBad nums asked = false :=
  List.any_eq_false.2 fun i hi => by simpa using h i (List.mem_range.1 hi)
theorem fnd_len (nums : List Int) : ∀ i, (fnd nums i).length ≤ i
  | 0 => by simp [fnd]
  | i + 1 => by have := fnd_len nums i; rw [fnd]; split <;> simp <;> omega
theorem mems_len (ims nums asked : List Int) (n : Int) : ∀ i, (mems ims nums asked n i).length ≤ i
  | 0 => by simp [mems]
  | i + 1 => by have := mems_len ims nums asked n i; rw [mems, List.length_append]; split <;> simp <;> omega
theorem fnd_mem {ims nums asked : List Int} {n : Int} : ∀ i, n ∈ fnd nums i ↔ mems ims nums asked n i ≠ []
  | 0 => by simp [fnd, mems]
  | i + 1 => by
    have ih := fnd_mem (ims := ims) (nums := nums) (asked := asked) (n := n) i
    rw [fnd, mems]
    by_cases h : nums.getD i 0 = n
    · rw [if_pos h]
      constructor
      · intro _ h; simp at h
      · intro _
        split
        · rename_i h2; rw [h] at h2; exact h2
        · rw [h]; simp
    · rw [if_neg h, List.append_nil, ← ih]
      split
      · exact Iff.rfl
      · exact ⟨fun hm => (List.mem_append.1 hm).elim id fun h3 => absurd (List.mem_singleton.1 h3).symm h, fun hm => List.mem_append_left _ hm⟩
theorem fnd_nd {nums : List Int} : ∀ i, (fnd nums i).Nodup
  | 0 => by simp [fnd]
  | i + 1 => by
    have ih := fnd_nd (nums := nums) i
    rw [fnd]
    split
    · exact ih
    · rename_i h
      exact List.nodup_append.2 ⟨ih, by simp, fun a ha b hb e => by simp at hb; subst hb; subst e; exact h ha⟩
/-- what the map of members holds -/
structure MTold (ims nums asked : List Int) (i : Nat) (M : Mr) : Prop where
  own : ∀ p ∈ M, p.2 = some ((mems ims nums asked p.1 i).map Mb.c) ∧ mems ims nums asked p.1 i ≠ []
  all : ∀ n, mems ims nums asked n i ≠ [] → ∃ p ∈ M, p.1 = n
  nd : (M.map Prod.fst).Nodup
def frmE (T : List Tm) (F : List Int) (k : Int) (nums asked : List Int) : Int :=
  if tErr T k ≠ 0 then tErr T k
  else if nums.length ≠ (tIm T k).length ∨ asked.length ≠ (tIm T k).length then 2
  else if anyBad nums asked = true then 2
  else if 50 < T.length + (fnd nums nums.length).length then 2
  else if tBrk T F k = true then 130 else 0
def newTm (T : List Tm) (k : Int) (nums asked : List Int) (n : Int) : Tm := ⟨k, (sortM (mems (tIm T k) nums asked n nums.length)).map Mb.im⟩
def frmT (T : List Tm) (F : List Int) (k : Int) (nums asked : List Int) : List Tm := if frmE T F k nums asked = 0 then T ++ (sortI (fnd nums nums.length)).map (newTm T k nums asked) else T
def frmL (T : List Tm) (F : List Int) (k : Int) (nums asked : List Int) : List Int := if frmE T F k nums asked = 0 then (List.range (fnd nums nums.length).length).map (fun (i : Nat) => (T.length : Int) + i) else []
theorem frm_no {T : List Tm} {F : List Int} {k : Int} {nums asked : List Int} (h : frmE T F k nums asked ≠ 0) : frmT T F k nums asked = T ∧ frmL T F k nums asked = [] := by
  unfold frmT frmL; rw [if_neg h, if_neg h]; exact ⟨rfl, rfl⟩
theorem putM_mem {k : Int} {v : Option (List (List D))} {p : Int × Option (List (List D))} : ∀ {M : Mr}, (M.map Prod.fst).Nodup → p ∈ putM M k v → p = (k, v) ∨ (p ∈ M ∧ p.1 ≠ k)
  | [], _, h => by simp [putM] at h; exact .inl h
  | (k', x') :: M, hn, h => by
    rw [List.map_cons, List.nodup_cons] at hn
    unfold putM at h
    split at h
    · rename_i e
      subst e
      rcases List.mem_cons.1 h with h | h
      · exact .inl h
      · exact .inr ⟨List.mem_cons_of_mem _ h, fun e => hn.1 (by have := List.mem_map_of_mem (f := Prod.fst) h; rw [e] at this; exact this)⟩
    · rename_i e
      rcases List.mem_cons.1 h with rfl | h
      · exact .inr ⟨List.mem_cons_self .., e⟩
      · rcases putM_mem hn.2 h with h | ⟨h1, h2⟩
        · exact .inl h
        · exact .inr ⟨List.mem_cons_of_mem _ h1, h2⟩
theorem putM_has {k : Int} {v : Option (List (List D))} : ∀ {M : Mr}, (k, v) ∈ putM M k v
  | [] => by simp [putM]
  | (k', x') :: M => by unfold putM; split <;> simp [putM_has]
theorem putM_keep {k : Int} {v : Option (List (List D))} {p : Int × Option (List (List D))} : ∀ {M : Mr}, p ∈ M → p.1 ≠ k → p ∈ putM M k v
  | [], h, _ => by simp at h
  | (k', x') :: M, h, hk => by
    unfold putM
    rcases List.mem_cons.1 h with rfl | h
    · rw [if_neg hk]; exact List.mem_cons_self ..
    · split
      · exact List.mem_cons_of_mem _ h
      · exact List.mem_cons_of_mem _ (putM_keep h hk)
theorem putM_keys {k : Int} {v : Option (List (List D))} : ∀ {M : Mr}, (M.map Prod.fst).Nodup → ((putM M k v).map Prod.fst).Nodup
  | [], _ => by simp [putM]
  | (k', x') :: M, hn => by
    rw [List.map_cons, List.nodup_cons] at hn
    unfold putM
    split
    · rename_i e; subst e; exact List.nodup_cons.2 hn
    · rename_i e
      refine List.nodup_cons.2 ⟨fun hm => ?_, putM_keys hn.2⟩
      obtain ⟨p, hp, he⟩ := List.mem_map.1 hm
      rcases putM_mem hn.2 hp with rfl | ⟨h1, _⟩
      · exact e he.symm
      · exact hn.1 (by rw [← he]; exact List.mem_map_of_mem (f := Prod.fst) h1)
theorem set_keys {M : Mr} {q : Nat} {x : Int} {r r' : Option (List (List D))} (h : M[q]? = some (x, r)) : (M.set q (x, r')).map Prod.fst = M.map Prod.fst := by
  rw [List.map_set]
  apply List.ext_getElem?
  intro j
  by_cases e : j = q
  · subst e
    have hl := (List.getElem?_eq_some_iff.1 h).1
    rw [List.getElem?_set_self (by simpa using hl), List.getElem?_map, h]; rfl
  · rw [List.getElem?_set_ne (Ne.symm e)]
theorem set_out {M : Mr} {q : Nat} {x : Int} {r : Option (List (List D))} {p : Int × Option (List (List D))} (hp : p ∈ M.set q (x, r)) (hk : p.1 ≠ x) : p ∈ M := by
  rcases List.mem_or_eq_of_mem_set hp with h | h
  · exact h
  · subst h; exact absurd rfl hk
theorem set_in {M : Mr} {q : Nat} {x : Int} {r r' : Option (List (List D))} (h : M[q]? = some (x, r)) {p : Int × Option (List (List D))} (hp : p ∈ M) (hk : p.1 ≠ x) : p ∈ M.set q (x, r') := by
  obtain ⟨j, hj⟩ := List.getElem?_of_mem hp
  have e : j ≠ q := by rintro rfl; rw [h] at hj; cases hj; exact hk rfl
  exact List.mem_of_getElem? (i := j) (by rw [List.getElem?_set_ne (Ne.symm e)]; exact hj)
theorem mtold_put {ims nums asked : List Int} {i : Nat} {x : Int} {m : Mb} {M N : Mr} (hms : ∀ n, mems ims nums asked n (i + 1) = mems ims nums asked n i ++ if n = x then [m] else []) (H : MTold ims nums asked i M) (hN : (N.map Prod.fst).Nodup) (h1 : ∀ p ∈ N, p.1 ≠ x → p ∈ M) (h2 : ∀ p ∈ M, p.1 ≠ x → p ∈ N) : MTold ims nums asked (i + 1) (putM N x (some ((mems ims nums asked x i).map Mb.c ++ [m.c]))) where
  own := fun p hp => by
    rcases putM_mem hN hp with rfl | ⟨h, hk⟩
    · refine ⟨?_, ?_⟩
      · show some _ = some _
        rw [hms, if_pos rfl, List.map_append]; rfl
      · rw [hms, if_pos rfl]; simp
    · rw [hms, if_neg hk, List.append_nil]; exact H.own p (h1 p h hk)
  all := fun y hy => by
    by_cases e : y = x
    · subst e; exact ⟨_, putM_has, rfl⟩
    · rw [hms, if_neg e, List.append_nil] at hy
      obtain ⟨p, hp, rfl⟩ := H.all y hy
      exact ⟨p, putM_keep (h2 p hp e) e, rfl⟩
  nd := putM_keys hN
/-- the map, while rows are taken out of it -/
structure MLeft (R : Int → List (List D)) (S : List Int) (j : Nat) (M : Mr) : Prop where
  own : ∀ p ∈ M, p.1 ∉ S.take j → p.2 = some (R p.1)
  all : ∀ n ∈ S, ∃ p ∈ M, p.1 = n
  nd : (M.map Prod.fst).Nodup
theorem nodup_key {M : Mr} (h : (M.map Prod.fst).Nodup) {q q2 : Nat} {n : Int} {r r2 : Option (List (List D))} (h1 : M[q]? = some (n, r)) (h2 : M[q2]? = some (n, r2)) : q = q2 := by
  have a1 : (M.map Prod.fst)[q]? = some n := by rw [List.getElem?_map, h1]; rfl
  have a2 : (M.map Prod.fst)[q2]? = some n := by rw [List.getElem?_map, h2]; rfl
  have l1 := (List.getElem?_eq_some_iff.1 a1).1
  exact (List.getElem?_inj l1 h).1 (a1.trans a2.symm)
theorem mleft_step {R : Int → List (List D)} {S : List Int} {j q : Nat} {n : Int} {r : Option (List (List D))} {M : Mr} (H : MLeft R S j M) (hn : S[j]? = some n) (hq : M[q]? = some (n, r)) : MLeft R S (j + 1) (M.set q (n, none)) where
  own := fun p hp hk => by
    have ht : S.take (j + 1) = S.take j ++ [n] := by rw [List.take_add_one, hn]; rfl
    rw [ht, List.mem_append] at hk
    have h1 : p.1 ≠ n := fun e => hk (.inr (by rw [e]; simp))
    exact H.own p (set_out hp h1) fun h => hk (.inl h)
  all := fun x hx => by
    obtain ⟨p, hp, rfl⟩ := H.all x hx
    by_cases e : p.1 = n
    · exact ⟨(n, none), List.mem_of_getElem? (i := q) (List.getElem?_set_self (List.getElem?_eq_some_iff.1 hq).1), e.symm⟩
    · exact ⟨p, set_in (r' := none) hq hp e, rfl⟩
  nd := by rw [set_keys (r' := none) hq]; exact H.nd
def R22 : Ct := fun ss hp r out => ∃ (T : List Tm) (F : List Int) (k : Int) (nums asked : List Int) (v0 v1 v2 : Value), ss = [.one (.ptr 0 0), .di .i64 k, .one (.d (.sl 1 (nums.map inC))), .one (.d (.sl 1 (asked.map inC)))] ∧ hp = [.box tB, .row 2 (tRow T), .mapd (mdF F), .mem v0 (.ptr 0 0), .mem v1 (.own 1), .mem v2 (.own 2)] ∧ TOk T ∧ r = .tup [.c (.own 6), .c (.d (.int .i64 (frmE T F k nums asked)))] ∧
  out = [.box tB, .row 2 (tRow (frmT T F k nums asked)), .mapd (mdF F), .mem v0 (.ptr 0 0), .mem v1 .junk, .mem v2 (.own 2), .row 1 ((frmL T F k nums asked).map inC)]
set_option maxHeartbeats 4000000 in
theorem ok22 : VSound Try.prog (22, R22) := by
  refine vsound (T := ty) (F := [(45, R45), (47, R47), (48, R48), (49, R49)]) (pl := [(16, [[], [], [], [], [2, 3], [], [], [5, 6], [5, 6, 7], [], [], [], [10, 11], [10, 11, 12], [], [5, 6, 7, 8, 9, 10, 11, 12, 13, 14], [5, 6, 7, 8, 9, 10, 11, 12, 13, 14, 15], [2, 3, 4, 5, 6, 7, 8, 9, 10, 11, 12, 13, 14, 15, 16], [0, 1, 2, 3, 4, 5, 6, 7, 8, 9, 10, 11, 12, 13, 14, 15, 16, 17]], .look 0 (.look 1 (.look 2 (.look 3 (.look 5 (.look 6 (.look 7 (.look 8 (.look 9 (.look 10 (.look 11 (.look 12 (.look 13 (.look 14 (.look 15 (.act 4 [0, 1, 5, 6, 7, 8, 9, 10, 11, 12, 13, 14, 15] (.act 16 [0, 1, 2, 3] (.act 17 [0, 1] (.act 18 [] .done .stop) .stop) .stop) (.act 16 [0, 1, 2, 3] (.act 4 [0, 1, 5, 6, 7, 8, 9, 10, 11, 12, 13, 14, 15] (.act 17 [0, 1] (.act 18 [] .done .stop) .stop) .stop) .stop))))))))))))))))), (35, [[], [], [1], [1, 2], [1, 2, 3], [], [5], [1, 2, 3, 4, 5, 6], [0, 1, 2, 3, 4, 5, 6, 7], [0, 1, 2, 3, 4, 5, 6, 7, 8], [0, 1, 2, 3, 4, 5, 6, 7, 8, 9]], .look 0 (.look 1 (.look 2 (.look 3 (.look 4 (.look 5 (.act 6 [0, 1, 2, 3, 4] (.act 7 [0] (.look 8 (.look 9 (.act 10 [] .done .stop))) .stop) .stop)))))))]) (nw := true) (cuts := []) mix tyOk (.cons (ok45) (.cons (ok47) (.cons (ok48) (.cons (ok49) .nil)))) Try.func22 (by kernel_rfl) (by kernel_rfl) ?_
  rintro _ _ _ _ ⟨T, F, k, nums, asked, v0, v1, v2, rfl, rfl, hT, rfl, rfl⟩
  have hT0 := hT.pos
  conv => whnf
  (refine ⟨[0, 1, 2], false, false, ?_⟩; (conv => whnf); intro u0 u1 u2; (conv => whnf); refine ⟨_, _, ⟨T, F, k, u0, u1, u2, rfl, rfl, hT0, rfl, rfl⟩, ?_⟩; (conv => whnf); refine ⟨rfl, ?_⟩; (conv => whnf); refine ⟨rfl, ?_⟩; (conv => whnf); refine ⟨rfl, ?_⟩; (conv => whnf))
  ((with_reducible refine And.intro (fun (e : (_ : Bool) = true) => ?_) (fun (e : (_ : Bool) = false) => ?_)) <;> (try simp only [reduceCtorEq, ints_len, bools_len, bif_t, bif_f, zv0, zv1, zv2, zv3, zv4, zv5, zv6, zv7, zv8, zv9, zv10, zv11, zv12, zv13, zv14, zv15, zv16, zv17, zv18, zv19, zv20, zv21, zv22, zv23, zv24] at e) <;> (conv => whnf))
  · have hE : frmE T F k nums asked = tErr T k := by unfold frmE; rw [if_pos e]
    obtain ⟨hT1, hL1⟩ := frm_no (T := T) (F := F) (k := k) (nums := nums) (asked := asked) (by rw [hE]; exact e)
    rw [hT1, hL1, hE]
    refine ⟨[.slot 8 true, .forget 4], ?_⟩
    (conv => whnf); refine ⟨[0, 1, 2, 3, 4, 5, 6], by simp, .cons ⟨_, rfl, .cons rfl (.cons rfl .nil)⟩ (.cons ⟨_, rfl, rfl, ?_⟩ (.cons ⟨_, rfl, rfl⟩ (.cons ⟨_, rfl, rfl, rfl, rfl⟩ (.cons ⟨_, rfl, rfl, trivial⟩ (.cons ⟨_, rfl, rfl, rfl⟩ (.cons ⟨_, rfl, rfl, ?_⟩ .nil)))))), ?_⟩
    · rfl
    · rfl
    · exact .cons rfl (.cons rfl .nil)
  · obtain ⟨h1, h2, t, ht⟩ := tErr_at e
    have h8 := hT.im _ (List.mem_of_getElem? ht)
    have eI : tIm T k = t.im := by unfold tIm; rw [if_pos h1, ht]; rfl
    refine And.intro ⟨h1, by rw [tRow_len]; exact h2⟩ ?_
    conv => whnf
    refine ⟨_, And.intro (tRow_get ht) ?_⟩
    conv => whnf
    (repeat ((first | with_reducible refine And.intro (fun h => h) ?_ | with_reducible refine And.intro (fun _ => rfl) ?_ | with_reducible refine And.intro rfl ?_); conv => whnf))
    refine And.intro (fun (e2 : (_ : Bool) = true) => ?_) (fun (e2 : (_ : Bool) = false) => ?_) <;> (conv => whnf)
    · have hn : nums.length ≠ t.im.length ∨ asked.length ≠ t.im.length := by
        simp only [map_len] at e2
        simp at e2; omega
      have hE : frmE T F k nums asked = 2 := by unfold frmE; rw [if_neg (by rw [e]; decide), eI, if_pos hn]
      obtain ⟨hT1, hL1⟩ := frm_no (T := T) (F := F) (k := k) (nums := nums) (asked := asked) (by rw [hE]; decide)
      rw [hT1, hL1, hE]
      refine ⟨[.slot 8 true, .forget 4], ?_⟩
      (conv => whnf); refine ⟨[0, 1, 2, 3, 4, 5, 6], by simp, .cons ⟨_, rfl, .cons rfl (.cons rfl .nil)⟩ (.cons ⟨_, rfl, rfl, ?_⟩ (.cons ⟨_, rfl, rfl⟩ (.cons ⟨_, rfl, rfl, rfl, rfl⟩ (.cons ⟨_, rfl, rfl, trivial⟩ (.cons ⟨_, rfl, rfl, rfl⟩ (.cons ⟨_, rfl, rfl, ?_⟩ .nil)))))), ?_⟩
      · rfl
      · rfl
      · exact .cons rfl (.cons rfl .nil)
    · have hn : ¬ (nums.length ≠ t.im.length ∨ asked.length ≠ t.im.length) := by
        simp only [map_len] at e2
        simp at e2; omega
      have hl1 : nums.length = t.im.length := by omega
      have hl2 : asked.length = t.im.length := by omega
      have hE1 : frmE T F k nums asked = if anyBad nums asked = true then 2 else if 50 < T.length + (fnd nums nums.length).length then 2 else if tBrk T F k = true then 130 else 0 := by
        unfold frmE; rw [if_neg (by rw [e]; decide), eI, if_neg hn]
      refine ⟨[.rows 12 4, .slot 13 true], [0, 1, 2, 3, 11, 12, 13, 49, 50, 51], 8, fun n1 σ => ∃ (i : Nat) (M : Mr), i ≤ nums.length ∧ n1 = nums.length - i ∧ MTold t.im nums asked i M ∧ (∀ j < i, ¬ badAt nums asked j) ∧ σ = (⟨[.one (.ptr 0 0), .di .i64 k, .one (.d (.sl 1 (nums.map inC))), .one (.d (.sl 1 (asked.map inC))), .junk, .junk, .junk, .junk, .junk, .junk, .junk, .one (.d (.sl 1 (t.im.map inC))), .one (.town 6), .one (.own 7), .junk, .junk, .junk, .junk, .junk, .junk, .junk, .junk, .junk, .junk, .junk, .junk, .junk, .junk, .junk, .junk, .junk, .junk, .junk, .junk, .junk, .junk, .junk, .junk, .junk, .junk, .junk, .junk, .junk, .junk, .junk, .junk, .junk, .junk, .junk, .one (.d (.sl 1 (nums.map inC))), .di .i64 nums.length, .di .i64 i, .junk, .junk, .junk, .junk, .junk, .junk, .junk, .junk, .junk, .junk, .junk, .junk, .junk, .junk, .junk, .junk, .junk, .junk, .junk, .junk, .junk, .junk, .junk, .junk, .junk, .junk, .junk, .junk, .junk, .junk, .junk, .junk, .junk, .junk, .junk, .junk, .junk, .junk, .junk, .junk, .junk, .junk, .junk, .junk, .junk, .junk, .junk, .junk, .junk, .junk, .junk, .junk, .junk, .junk, .junk, .junk, .junk, .junk, .junk, .junk, .junk, .junk, .junk, .junk, .junk, .junk, .junk, .junk, .junk, .junk, .junk, .junk, .junk, .junk, .junk, .junk, .junk, .junk, .junk, .junk, .junk, .junk, .junk, .junk, .junk, .junk, .junk, .junk, .junk, .junk, .junk, .junk, .junk, .junk, .junk, .junk, .junk, .junk, .junk, .junk, .junk, .junk, .junk, .junk, .junk, .junk, .junk, .junk, .junk, .junk, .junk, .junk, .junk, .junk], [.box tB, .row 2 (tRow T), .mapd (mdF F), .mem v0 (.ptr 0 0), .mem v1 (.own 1), .mem v2 (.own 2), .mapr 4 M, .row 1 ((fnd nums i).map inC)]⟩ : St), ?_, ?_⟩
      · refine ⟨nums.length, ?_⟩
        conv => whnf
        refine ⟨0, [], by omega, by omega, ⟨by simp, by simp [mems], by simp⟩, by omega, ?_⟩
        rw [map_len]; rfl
      · rintro n1 _ ⟨i, M, hi, rfl, HM, hok, rfl⟩
        conv => whnf
        ((with_reducible refine And.intro (fun (e : (_ : Bool) = true) => ?_) (fun (e : (_ : Bool) = false) => ?_)) <;> (try simp only [reduceCtorEq, ints_len, bools_len, bif_t, bif_f, zv0, zv1, zv2, zv3, zv4, zv5, zv6, zv7, zv8, zv9, zv10, zv11, zv12, zv13, zv14, zv15, zv16, zv17, zv18, zv19, zv20, zv21, zv22, zv23, zv24] at e) <;> (conv => whnf))
        · obtain ⟨x, hx⟩ := get_lt (l := nums) (i := i) (by omega)
          obtain ⟨y, hy⟩ := get_lt (l := asked) (i := i) (by omega)
          obtain ⟨z, hz⟩ := get_lt (l := t.im) (i := i) (by omega)
          have gx : nums.getD i 0 = x := by rw [List.getD_eq_getElem?_getD, hx]; rfl
          have gy : asked.getD i 0 = y := by rw [List.getD_eq_getElem?_getD, hy]; rfl
          have gz : t.im.getD i 0 = z := by rw [List.getD_eq_getElem?_getD, hz]; rfl
          (refine ⟨_, And.intro ⟨by omega, enc_get hx⟩ ?_⟩; (conv => whnf))
          (repeat ((first | with_reducible refine And.intro (fun h => h) ?_ | with_reducible refine And.intro (fun _ => rfl) ?_ | with_reducible refine And.intro rfl ?_); conv => whnf))
          (refine ⟨_, And.intro (fun _ => ⟨by omega, enc_get hy⟩) ?_⟩; (conv => whnf))
          (repeat ((first | with_reducible refine And.intro (fun h => h) ?_ | with_reducible refine And.intro (fun _ => rfl) ?_ | with_reducible refine And.intro rfl ?_); conv => whnf))
          (refine ⟨_, And.intro (fun _ => ⟨by omega, enc_get hy⟩) ?_⟩; (conv => whnf))
          (repeat ((first | with_reducible refine And.intro (fun h => h) ?_ | with_reducible refine And.intro (fun _ => rfl) ?_ | with_reducible refine And.intro rfl ?_); conv => whnf))
          refine And.intro (fun (e3 : (_ : Bool) = true) => ?_) (fun (e3 : (_ : Bool) = false) => ?_) <;> (conv => whnf)
          · have hb : badAt nums asked i := by unfold badAt; rw [gx, gy]; simp at e3; omega
            have hE : frmE T F k nums asked = 2 := by rw [hE1, if_pos (anyBad_of (by omega) hb)]
            obtain ⟨hT1, hL1⟩ := frm_no (T := T) (F := F) (k := k) (nums := nums) (asked := asked) (by rw [hE]; decide)
            rw [hT1, hL1, hE]
            refine ⟨[.slot 8 true, .forget 4], ?_⟩
            (conv => whnf); refine ⟨[0, 1, 2, 3, 4, 5, 8], by simp, .cons ⟨_, rfl, .cons rfl (.cons rfl .nil)⟩ (.cons ⟨_, rfl, rfl, ?_⟩ (.cons ⟨_, rfl, rfl⟩ (.cons ⟨_, rfl, rfl, rfl, rfl⟩ (.cons ⟨_, rfl, rfl, trivial⟩ (.cons ⟨_, rfl, rfl, rfl⟩ (.cons ⟨_, rfl, rfl, ?_⟩ .nil)))))), ?_⟩
            · rfl
            · rfl
            · exact .cons rfl (.cons rfl .nil)
          · have hb : ¬ badAt nums asked i := by unfold badAt; rw [gx, gy]; simp at e3; omega
            have hok' : ∀ j < i + 1, ¬ badAt nums asked j := fun j hj => by
              rcases Nat.lt_or_ge j i with h | h
              · exact hok j h
              · obtain rfl : j = i := by omega
                exact hb
            have hy0 : 0 ≤ y ∧ y ≤ 100 := by simp at e3; omega
            obtain ⟨y, rfl⟩ : ∃ n : Nat, y = n := ⟨y.toNat, by omega⟩
            have hms : ∀ n, mems t.im nums asked n (i + 1) = mems t.im nums asked n i ++ if n = x then [⟨z, x, y, i⟩] else [] := by
              intro n
              rw [mems, gx]
              unfold memAt
              rw [gx, gy, gz]
              by_cases h : x = n
              · rw [if_pos h, if_pos h.symm, Int.toNat_natCast]
              · rw [if_neg h, if_neg (Ne.symm h)]
            have hml := mems_len t.im nums asked x i
            have hfl := fnd_len nums i
            have hfm := fnd_mem (ims := t.im) (nums := nums) (asked := asked) (n := x) i
            refine ⟨fun q r hq => ?_, fun hno => ?_⟩
            · obtain ⟨hr, hr0⟩ := HM.own _ (List.mem_of_getElem? hq)
              simp only at hr hr0
              subst hr
              refine ⟨by simp, ?_⟩
              conv => whnf
              refine ⟨_, _, hq, ?_⟩
              conv => whnf
              rw [List.length_map]
              refine And.intro (fun (e4 : (_ : Bool) = true) => absurd (by simpa using e4) (show ¬ (mems t.im nums asked x i) = [] from hr0)) (fun (e4 : (_ : Bool) = false) => ?_) <;> (conv => whnf)
              (refine ⟨_, And.intro ⟨by omega, enc_get hz⟩ ?_⟩; (conv => whnf))
              (refine ⟨_, And.intro ⟨by omega, enc_get hy⟩ ?_⟩; (conv => whnf))
              refine And.intro ?_ ?_ <;> (conv => whnf)
              all_goals
                refine ⟨fun q2 r2 hq2 => ?_, fun hno => absurd rfl (hno _ (List.mem_of_getElem? hq))⟩
                obtain ⟨hr2, _⟩ := HM.own _ (List.mem_of_getElem? hq2)
                simp only at hr2
                subst hr2
                refine ⟨by simp, ?_⟩
                conv => whnf
                refine ⟨_, _, And.intro hq2 ?_⟩
                conv => whnf
                refine ⟨by rw [List.length_map]; simp only [List.length_cons, List.length_nil]; omega, ?_⟩
                conv => whnf
                (refine And.intro ?_ ?_; ((first | (with_reducible assumption) | (intro _; with_reducible assumption) | omega | (simp only [reduceCtorEq, ints_len, bools_len, bif_t, bif_f, zv0, zv1, zv2, zv3, zv4, zv5, zv6, zv7, zv8, zv9, zv10, zv11, zv12, zv13, zv14, zv15, zv16, zv17, zv18, zv19, zv20, zv21, zv22, zv23, zv24] at *; omega) | (intro hg; (try simp only [reduceCtorEq, ints_len, bools_len, bif_t, bif_f, zv0, zv1, zv2, zv3, zv4, zv5, zv6, zv7, zv8, zv9, zv10, zv11, zv12, zv13, zv14, zv15, zv16, zv17, zv18, zv19, zv20, zv21, zv22, zv23, zv24] at hg); first | (with_reducible assumption) | omega | (simp only [reduceCtorEq, ints_len, bools_len, bif_t, bif_f, zv0, zv1, zv2, zv3, zv4, zv5, zv6, zv7, zv8, zv9, zv10, zv11, zv12, zv13, zv14, zv15, zv16, zv17, zv18, zv19, zv20, zv21, zv22, zv23, zv24] at *; omega) | (refine ⟨?_, ?_⟩ <;> omega)) | (refine ⟨?_, ?_⟩ <;> omega) | (simp [*]; done) | grind)); (conv => whnf))
                refine ⟨nums.length - (i + 1), by omega, [], ?_⟩
                conv => whnf
                refine ⟨i + 1, _, by omega, rfl, mtold_put hms HM (by rw [set_keys (r' := none) hq2]; exact HM.nd) (fun p hp hk => set_out hp hk) (fun p hp hk => set_in (r' := none) hq2 hp hk), hok', ?_⟩
                rw [fnd, gx, if_pos (hfm.2 hr0)]; rfl
            · have hm0 : mems t.im nums asked x i = [] := by
                by_cases h : mems t.im nums asked x i = []
                · exact h
                · obtain ⟨p, hp, hp2⟩ := HM.all x h
                  exact absurd hp2 (hno p hp)
              conv => whnf
              ((first | refine And.intro (fun _ => ?_) (fun h => absurd h (by decide)) | refine And.intro (fun h => absurd h (by decide)) (fun _ => ?_)); (conv => whnf))
              have hfn : x ∉ fnd nums i := fun h => (hfm.1 h) hm0
              have ht := mtold_put (M := M) (N := M) hms HM HM.nd (fun p hp _ => hp) (fun p hp _ => hp)
              rw [hm0] at ht
              repeat' (first | (refine And.intro ?_ ?_; (rw [List.length_map]; simp only [List.length_cons, List.length_nil]; omega); (conv => whnf)) | (refine And.intro ?_ ?_ <;> (conv => whnf)))
              all_goals
                (refine ⟨_, And.intro ⟨by omega, enc_get hz⟩ ?_⟩; (conv => whnf))
                (refine ⟨_, And.intro ⟨by omega, enc_get hy⟩ ?_⟩; (conv => whnf))
                refine And.intro ?_ ?_ <;> (conv => whnf)
                all_goals
                  refine ⟨fun q2 r2 hq2 => absurd rfl (hno _ (List.mem_of_getElem? hq2)), fun hno2 => ?_⟩
                  conv => whnf
                  refine ⟨by simp only [List.length_cons, List.length_nil]; omega, ?_⟩
                  conv => whnf
                  (refine And.intro ?_ ?_; ((first | (with_reducible assumption) | (intro _; with_reducible assumption) | omega | (simp only [reduceCtorEq, ints_len, bools_len, bif_t, bif_f, zv0, zv1, zv2, zv3, zv4, zv5, zv6, zv7, zv8, zv9, zv10, zv11, zv12, zv13, zv14, zv15, zv16, zv17, zv18, zv19, zv20, zv21, zv22, zv23, zv24] at *; omega) | (intro hg; (try simp only [reduceCtorEq, ints_len, bools_len, bif_t, bif_f, zv0, zv1, zv2, zv3, zv4, zv5, zv6, zv7, zv8, zv9, zv10, zv11, zv12, zv13, zv14, zv15, zv16, zv17, zv18, zv19, zv20, zv21, zv22, zv23, zv24] at hg); first | (with_reducible assumption) | omega | (simp only [reduceCtorEq, ints_len, bools_len, bif_t, bif_f, zv0, zv1, zv2, zv3, zv4, zv5, zv6, zv7, zv8, zv9, zv10, zv11, zv12, zv13, zv14, zv15, zv16, zv17, zv18, zv19, zv20, zv21, zv22, zv23, zv24] at *; omega) | (refine ⟨?_, ?_⟩ <;> omega)) | (refine ⟨?_, ?_⟩ <;> omega) | (simp [*]; done) | grind)); (conv => whnf))
                  refine ⟨nums.length - (i + 1), by omega, [], ?_⟩
                  conv => whnf
                  refine ⟨i + 1, _, by omega, rfl, ht, hok', ?_⟩
                  rw [fnd, gx, if_neg hfn, List.map_append]; rfl
        · have hi' : i = nums.length := by omega
          subst hi'
          have hnb : anyBad nums asked = false := anyBad_no hok
          rw [hnb, if_neg (by decide)] at hE1
          have hfl := fnd_len nums nums.length
          have h50 := hT.few
          rw [tRow_len, List.length_map]
          (refine And.intro ?_ ?_; ((first | (with_reducible assumption) | (intro _; with_reducible assumption) | omega | (simp only [reduceCtorEq, ints_len, bools_len, bif_t, bif_f, zv0, zv1, zv2, zv3, zv4, zv5, zv6, zv7, zv8, zv9, zv10, zv11, zv12, zv13, zv14, zv15, zv16, zv17, zv18, zv19, zv20, zv21, zv22, zv23, zv24] at *; omega) | (intro hg; (try simp only [reduceCtorEq, ints_len, bools_len, bif_t, bif_f, zv0, zv1, zv2, zv3, zv4, zv5, zv6, zv7, zv8, zv9, zv10, zv11, zv12, zv13, zv14, zv15, zv16, zv17, zv18, zv19, zv20, zv21, zv22, zv23, zv24] at hg); first | (with_reducible assumption) | omega | (simp only [reduceCtorEq, ints_len, bools_len, bif_t, bif_f, zv0, zv1, zv2, zv3, zv4, zv5, zv6, zv7, zv8, zv9, zv10, zv11, zv12, zv13, zv14, zv15, zv16, zv17, zv18, zv19, zv20, zv21, zv22, zv23, zv24] at *; omega) | (refine ⟨?_, ?_⟩ <;> omega)) | (refine ⟨?_, ?_⟩ <;> omega) | (simp [*]; done) | grind)); (conv => whnf))
          ((with_reducible refine And.intro (fun (e : (_ : Bool) = true) => ?_) (fun (e : (_ : Bool) = false) => ?_)) <;> (try simp only [reduceCtorEq, ints_len, bools_len, bif_t, bif_f, zv0, zv1, zv2, zv3, zv4, zv5, zv6, zv7, zv8, zv9, zv10, zv11, zv12, zv13, zv14, zv15, zv16, zv17, zv18, zv19, zv20, zv21, zv22, zv23, zv24] at e) <;> (conv => whnf))
          · have hE : frmE T F k nums asked = 2 := by rw [hE1, if_pos (by omega)]
            obtain ⟨hT1, hL1⟩ := frm_no (T := T) (F := F) (k := k) (nums := nums) (asked := asked) (by rw [hE]; decide)
            rw [hT1, hL1, hE]
            refine ⟨[.slot 8 true, .forget 4], ?_⟩
            (conv => whnf); refine ⟨[0, 1, 2, 3, 4, 5, 8], by simp, .cons ⟨_, rfl, .cons rfl (.cons rfl .nil)⟩ (.cons ⟨_, rfl, rfl, ?_⟩ (.cons ⟨_, rfl, rfl⟩ (.cons ⟨_, rfl, rfl, rfl, rfl⟩ (.cons ⟨_, rfl, rfl, trivial⟩ (.cons ⟨_, rfl, rfl, rfl⟩ (.cons ⟨_, rfl, rfl, ?_⟩ .nil)))))), ?_⟩
            · rfl
            · rfl
            · exact .cons rfl (.cons rfl .nil)
          · rw [if_neg (by omega)] at hE1
            (refine ⟨[0, 1, 2], false, false, ?_⟩; (conv => whnf); intro u0 u1 u2; (conv => whnf); refine ⟨_, _, ⟨T, F, k, u0, u1, u2, rfl, rfl, hT, by assumption, rfl, rfl⟩, ?_⟩; (conv => whnf); refine ⟨rfl, ?_⟩; (conv => whnf); refine ⟨rfl, ?_⟩; (conv => whnf); refine ⟨rfl, ?_⟩; (conv => whnf))
            refine And.intro (fun (e5 : (_ : Bool) = true) => ?_) (fun (e5 : (_ : Bool) = false) => ?_) <;> (conv => whnf)
            · rw [if_pos e5] at hE1
              obtain ⟨hT1, hL1⟩ := frm_no (T := T) (F := F) (k := k) (nums := nums) (asked := asked) (by rw [hE1]; decide)
              rw [hT1, hL1, hE1]
              refine ⟨[.slot 8 true, .forget 4], ?_⟩
              (conv => whnf); refine ⟨[0, 1, 2, 3, 4, 5, 8], by simp, .cons ⟨_, rfl, .cons rfl (.cons rfl .nil)⟩ (.cons ⟨_, rfl, rfl, ?_⟩ (.cons ⟨_, rfl, rfl⟩ (.cons ⟨_, rfl, rfl, rfl, rfl⟩ (.cons ⟨_, rfl, rfl, trivial⟩ (.cons ⟨_, rfl, rfl, rfl⟩ (.cons ⟨_, rfl, rfl, ?_⟩ .nil)))))), ?_⟩
              · rfl
              · rfl
              · exact .cons rfl (.cons rfl .nil)
            · rw [if_neg (by rw [e5]; decide)] at hE1
              have hT1 : frmT T F k nums asked = T ++ (sortI (fnd nums nums.length)).map (newTm T k nums asked) := by unfold frmT; rw [if_pos hE1]
              have hL1 : frmL T F k nums asked = (List.range (fnd nums nums.length).length).map (fun (i : Nat) => (T.length : Int) + i) := by unfold frmL; rw [if_pos hE1]
              rw [hT1, hL1, hE1]
              refine ⟨[7], false, false, ?_⟩
              conv => whnf
              intro u0
              conv => whnf
              refine ⟨_, _, ⟨fnd nums nums.length, u0, rfl, rfl, by omega, rfl, rfl⟩, ?_⟩
              conv => whnf
              refine ⟨rfl, ?_⟩
              conv => whnf
              have hSl : (sortI (fnd nums nums.length)).length = (fnd nums nums.length).length := sortI_len _
              have hSm : ∀ n ∈ sortI (fnd nums nums.length), mems t.im nums asked n nums.length ≠ [] := fun n hn => (fnd_mem nums.length).1 ((sortI_perm _).mem_iff.1 hn)
              have hSn : (sortI (fnd nums nums.length)).Nodup := (sortI_perm _).nodup_iff.2 (fnd_nd _)
              have hnew : ∀ n, newTm T k nums asked n = ⟨k, (sortM (mems t.im nums asked n nums.length)).map Mb.im⟩ := fun n => by unfold newTm; rw [eI]
              have hmlen : ∀ n, (mems t.im nums asked n nums.length).length ≤ nums.length := fun n => mems_len t.im nums asked n nums.length
              have HL : MLeft (fun n => (mems t.im nums asked n nums.length).map Mb.c) (sortI (fnd nums nums.length)) 0 M := ⟨fun p hp _ => (HM.own p hp).1, fun n hn => HM.all n (hSm n hn), HM.nd⟩
              rw [← hSl]
              generalize hS : sortI (fnd nums nums.length) = S at *
              refine ⟨[.slot 16 true, .forget 4], [0, 1, 12, 16, 118, 119, 120], 9, fun n1 σ => ∃ (j : Nat) (M : Mr), j ≤ S.length ∧ n1 = S.length - j ∧ MLeft (fun n => (mems t.im nums asked n nums.length).map Mb.c) S j M ∧ σ = (⟨[.one (.ptr 0 0), .di .i64 k, .junk, .junk, .junk, .junk, .junk, .junk, .junk, .junk, .junk, .junk, .one (.town 6), .junk, .junk, .junk, .one (.own 8), .junk, .junk, .junk, .junk, .junk, .junk, .junk, .junk, .junk, .junk, .junk, .junk, .junk, .junk, .junk, .junk, .junk, .junk, .junk, .junk, .junk, .junk, .junk, .junk, .junk, .junk, .junk, .junk, .junk, .junk, .junk, .junk, .junk, .junk, .junk, .junk, .junk, .junk, .junk, .junk, .junk, .junk, .junk, .junk, .junk, .junk, .junk, .junk, .junk, .junk, .junk, .junk, .junk, .junk, .junk, .junk, .junk, .junk, .junk, .junk, .junk, .junk, .junk, .junk, .junk, .junk, .junk, .junk, .junk, .junk, .junk, .junk, .junk, .junk, .junk, .junk, .junk, .junk, .junk, .junk, .junk, .junk, .junk, .junk, .junk, .junk, .junk, .junk, .junk, .junk, .junk, .junk, .junk, .junk, .junk, .junk, .junk, .junk, .junk, .junk, .junk, .one (.own 7), .di .i64 S.length, .di .i64 j, .junk, .junk, .junk, .junk, .junk, .junk, .junk, .junk, .junk, .junk, .junk, .junk, .junk, .junk, .junk, .junk, .junk, .junk, .junk, .junk, .junk, .junk, .junk, .junk, .junk, .junk, .junk, .junk, .junk, .junk, .junk, .junk, .junk, .junk, .junk, .junk, .junk, .junk, .junk, .junk, .junk, .junk, .junk, .junk, .junk], [.box tB, .row 2 (tRow (T ++ (S.take j).map (newTm T k nums asked))), .mapd (mdF F), .mem v0 (.ptr 0 0), .mem v1 .junk, .mem v2 (.own 2), .mapr 4 M, .row 1 (S.map inC), .row 1 (((List.range j).map (fun (i : Nat) => (T.length : Int) + i)).map inC)]⟩ : St), ?_, ?_⟩
              · refine ⟨S.length, ?_⟩
                conv => whnf
                refine ⟨0, M, by omega, by omega, HL, ?_⟩
                rw [List.take_zero, List.map_nil, List.append_nil, map_len]; rfl
              · clear HL HM
                rintro n1 _ ⟨j, M, hj, rfl, HL, rfl⟩
                conv => whnf
                ((with_reducible refine And.intro (fun (e : (_ : Bool) = true) => ?_) (fun (e : (_ : Bool) = false) => ?_)) <;> (try simp only [reduceCtorEq, ints_len, bools_len, bif_t, bif_f, zv0, zv1, zv2, zv3, zv4, zv5, zv6, zv7, zv8, zv9, zv10, zv11, zv12, zv13, zv14, zv15, zv16, zv17, zv18, zv19, zv20, zv21, zv22, zv23, zv24] at e) <;> (conv => whnf))
                · obtain ⟨n, hn⟩ := get_lt (l := S) (i := j) (by omega)
                  refine And.intro ⟨by omega, by rw [map_len]; omega⟩ ?_
                  conv => whnf
                  refine ⟨_, And.intro (enc_get hn) ?_⟩
                  conv => whnf
                  have hnS : n ∈ S := List.mem_of_getElem? hn
                  have hnt : n ∉ S.take j := by
                    intro h
                    obtain ⟨q, hq⟩ := List.getElem?_of_mem h
                    have hq1 := (List.getElem?_eq_some_iff.1 hq).1
                    rw [List.getElem?_take] at hq
                    split at hq
                    · rename_i hqj
                      have := (List.getElem?_inj (by rw [List.length_take] at hq1; omega) hSn).1 (hq.trans hn.symm)
                      omega
                    · cases hq
                  have hm0 := hSm n hnS
                  have hml := hmlen n
                  have hmp : 0 < (mems t.im nums asked n nums.length).length := by
                    cases hh : mems t.im nums asked n nums.length with
                    | nil => exact absurd hh hm0
                    | cons _ _ => simp
                  refine ⟨fun q r hq => ?_, fun hno => ?_⟩
                  rotate_left
                  · obtain ⟨p, hp, e9⟩ := HL.all n hnS
                    exact absurd e9 (hno p hp)
                  have hr : r = some ((mems t.im nums asked n nums.length).map Mb.c) := HL.own (n, r) (List.mem_of_getElem? hq) hnt
                  subst hr
                  refine ⟨by simp, ?_⟩
                  conv => whnf
                  refine ⟨[6], false, false, ?_⟩
                  conv => whnf
                  intro u0
                  conv => whnf
                  refine ⟨_, _, ⟨M, q, n, mems t.im nums asked n nums.length, u0, rfl, rfl, hq, hmp, by omega, rfl, rfl⟩, ?_⟩
                  conv => whnf
                  refine ⟨rfl, ?_⟩
                  conv => whnf
                  have HN : MLeft (fun n => (mems t.im nums asked n nums.length).map Mb.c) S (j + 1) ((M.set q (n, some ((sortM (mems t.im nums asked n nums.length)).map Mb.c))).set q (n, none)) := by
                    rw [List.set_set]; exact mleft_step HL hn hq
                  have hq' : (M.set q (n, some ((sortM (mems t.im nums asked n nums.length)).map Mb.c)))[q]? = some (n, some ((sortM (mems t.im nums asked n nums.length)).map Mb.c)) := List.getElem?_set_self (List.getElem?_eq_some_iff.1 hq).1
                  have hnd' : ((M.set q (n, some ((sortM (mems t.im nums asked n nums.length)).map Mb.c))).map Prod.fst).Nodup := by rw [set_keys hq]; exact HL.nd
                  refine ⟨fun q2 r2 hq2 => ?_, fun hno => absurd rfl (hno _ (List.mem_of_getElem? hq'))⟩
                  have hqq := nodup_key hnd' hq' hq2
                  subst hqq
                  rw [hq'] at hq2
                  cases hq2
                  refine ⟨by simp, ?_⟩
                  conv => whnf
                  refine ⟨_, _, hq', ?_⟩
                  conv => whnf
                  have hsl := sortM_len (mems t.im nums asked n nums.length)
                  generalize hM2 : (M.set q (n, some ((sortM (mems t.im nums asked n nums.length)).map Mb.c))) = M2 at *
                  have hnw : newTm T k nums asked n = ⟨k, (sortM (mems t.im nums asked n nums.length)).map Mb.im⟩ := hnew n
                  generalize hW : sortM (mems t.im nums asked n nums.length) = W at *
                  refine ⟨[.take 132, .cell 9 1], [0, 1, 12, 16, 19, 118, 119, 120, 132, 133, 134], 12, fun n2 σ => ∃ (p : Nat), p ≤ W.length ∧ n2 = W.length - p ∧ σ = (⟨[.one (.ptr 0 0), .di .i64 k, .junk, .junk, .junk, .junk, .junk, .junk, .junk, .junk, .junk, .junk, .one (.town 6), .junk, .junk, .junk, .one (.own 8), .junk, .junk, .one (.ptr 9 0), .junk, .junk, .junk, .junk, .junk, .junk, .junk, .junk, .junk, .junk, .junk, .junk, .junk, .junk, .junk, .junk, .junk, .junk, .junk, .junk, .junk, .junk, .junk, .junk, .junk, .junk, .junk, .junk, .junk, .junk, .junk, .junk, .junk, .junk, .junk, .junk, .junk, .junk, .junk, .junk, .junk, .junk, .junk, .junk, .junk, .junk, .junk, .junk, .junk, .junk, .junk, .junk, .junk, .junk, .junk, .junk, .junk, .junk, .junk, .junk, .junk, .junk, .junk, .junk, .junk, .junk, .junk, .junk, .junk, .junk, .junk, .junk, .junk, .junk, .junk, .junk, .junk, .junk, .junk, .junk, .junk, .junk, .junk, .junk, .junk, .junk, .junk, .junk, .junk, .junk, .junk, .junk, .junk, .junk, .junk, .junk, .junk, .junk, .one (.own 7), .di .i64 S.length, .di .i64 j, .junk, .junk, .junk, .junk, .junk, .junk, .junk, .junk, .junk, .junk, .junk, .one (.own 10), .di .i64 W.length, .di .i64 p, .junk, .junk, .junk, .junk, .junk, .junk, .junk, .junk, .junk, .junk, .junk, .junk, .junk, .junk, .junk, .junk, .junk, .junk, .junk, .junk, .junk, .junk, .junk, .junk, .junk, .junk, .junk, .junk, .junk, .junk, .junk], [.box tB, .row 2 (tRow (T ++ (S.take j).map (newTm T k nums asked))), .mapd (mdF F), .mem v0 (.ptr 0 0), .mem v1 .junk, .mem v2 (.own 2), .mapr 4 (M2.set q (n, none)), .row 1 (S.map inC), .row 1 (((List.range j).map (fun (i : Nat) => (T.length : Int) + i)).map inC), .box [.d (.int .i64 k), .own 11], .row 4 (W.map Mb.c), .row 1 (((W.take p).map Mb.im).map inC)]⟩ : St), ?_, ?_⟩
                  · refine ⟨W.length, ?_⟩
                    conv => whnf
                    refine ⟨_, _, hq', ?_⟩
                    conv => whnf
                    refine ⟨0, by omega, by omega, ?_⟩
                    rw [List.length_map]; rfl
                  · rintro n2 _ ⟨p, hp, rfl, rfl⟩
                    conv => whnf
                    ((with_reducible refine And.intro (fun (e : (_ : Bool) = true) => ?_) (fun (e : (_ : Bool) = false) => ?_)) <;> (try simp only [reduceCtorEq, ints_len, bools_len, bif_t, bif_f, zv0, zv1, zv2, zv3, zv4, zv5, zv6, zv7, zv8, zv9, zv10, zv11, zv12, zv13, zv14, zv15, zv16, zv17, zv18, zv19, zv20, zv21, zv22, zv23, zv24] at e) <;> (conv => whnf))
                    · obtain ⟨m, hm⟩ := get_lt (l := W) (i := p) (by omega)
                      have htk : W.take (p + 1) = W.take p ++ [m] := by rw [List.take_add_one, hm]; rfl
                      refine And.intro ⟨by omega, by rw [List.length_map]; omega⟩ ?_
                      conv => whnf
                      refine ⟨_, And.intro (enc_get hm) ?_⟩
                      obtain ⟨mi, mn, ma, mp⟩ := m
                      conv => whnf
                      repeat' (first | (refine And.intro ?_ ?_; (rw [List.length_map, List.length_map, List.length_take]; simp only [List.length_cons, List.length_nil]; omega); (conv => whnf)) | (refine And.intro ?_ ?_; ((first | (with_reducible assumption) | (intro _; with_reducible assumption) | omega | (simp only [reduceCtorEq, ints_len, bools_len, bif_t, bif_f, zv0, zv1, zv2, zv3, zv4, zv5, zv6, zv7, zv8, zv9, zv10, zv11, zv12, zv13, zv14, zv15, zv16, zv17, zv18, zv19, zv20, zv21, zv22, zv23, zv24] at *; omega) | (intro hg; (try simp only [reduceCtorEq, ints_len, bools_len, bif_t, bif_f, zv0, zv1, zv2, zv3, zv4, zv5, zv6, zv7, zv8, zv9, zv10, zv11, zv12, zv13, zv14, zv15, zv16, zv17, zv18, zv19, zv20, zv21, zv22, zv23, zv24] at hg); first | (with_reducible assumption) | omega | (simp only [reduceCtorEq, ints_len, bools_len, bif_t, bif_f, zv0, zv1, zv2, zv3, zv4, zv5, zv6, zv7, zv8, zv9, zv10, zv11, zv12, zv13, zv14, zv15, zv16, zv17, zv18, zv19, zv20, zv21, zv22, zv23, zv24] at *; omega) | (refine ⟨?_, ?_⟩ <;> omega)) | (refine ⟨?_, ?_⟩ <;> omega) | (simp [*]; done) | grind)); (conv => whnf)) | (refine And.intro ?_ ?_ <;> (conv => whnf)))
                      all_goals
                        refine ⟨W.length - (p + 1), by omega, [], ?_⟩
                        conv => whnf
                        refine ⟨p + 1, by omega, rfl, ?_⟩
                        rw [htk, List.map_append, List.map_append]; rfl
                    · have hp' : p = W.length := by omega
                      subst hp'
                      rw [List.take_length]
                      have hS8 : S.length ≤ 8 := by omega
                      have htk : S.take (j + 1) = S.take j ++ [n] := by rw [List.take_add_one, hn]; rfl
                      have htl : (tRow (T ++ (S.take j).map (newTm T k nums asked))).length = T.length + j := by
                        rw [tRow_len, List.length_append, List.length_map, List.length_take]; omega
                      have ho : (((List.range j).map (fun (i : Nat) => (T.length : Int) + i)).map inC).length = j := by simp
                      have e1 : tRow (T ++ (S.take (j + 1)).map (newTm T k nums asked)) = tRow (T ++ (S.take j).map (newTm T k nums asked)) ++ [[.int .i64 k, .sl 1 ((W.map Mb.im).map inC)]] := by
                        rw [htk, List.map_append, ← List.append_assoc]
                        unfold tRow
                        rw [List.map_append]
                        show _ ++ [Tm.c (newTm T k nums asked n)] = _
                        rw [hnw]; rfl
                      have e2 : ((List.range (j + 1)).map (fun (i : Nat) => (T.length : Int) + i)).map inC = ((List.range j).map (fun (i : Nat) => (T.length : Int) + i)).map inC ++ [[.int .i64 ((tRow (T ++ (S.take j).map (newTm T k nums asked))).length : Int)]] := by
                        rw [List.range_succ, List.map_append, List.map_append, htl]; rfl
                      repeat' (first | (refine And.intro ?_ ?_; (rw [ho]; simp only [List.length_cons, List.length_nil]; omega); (conv => whnf)) | (refine And.intro ?_ ?_; (rw [htl]; simp only [List.length_cons, List.length_nil]; omega); (conv => whnf)) | (refine And.intro ?_ ?_; ((first | (with_reducible assumption) | (intro _; with_reducible assumption) | omega | (simp only [reduceCtorEq, ints_len, bools_len, bif_t, bif_f, zv0, zv1, zv2, zv3, zv4, zv5, zv6, zv7, zv8, zv9, zv10, zv11, zv12, zv13, zv14, zv15, zv16, zv17, zv18, zv19, zv20, zv21, zv22, zv23, zv24] at *; omega) | (intro hg; (try simp only [reduceCtorEq, ints_len, bools_len, bif_t, bif_f, zv0, zv1, zv2, zv3, zv4, zv5, zv6, zv7, zv8, zv9, zv10, zv11, zv12, zv13, zv14, zv15, zv16, zv17, zv18, zv19, zv20, zv21, zv22, zv23, zv24] at hg); first | (with_reducible assumption) | omega | (simp only [reduceCtorEq, ints_len, bools_len, bif_t, bif_f, zv0, zv1, zv2, zv3, zv4, zv5, zv6, zv7, zv8, zv9, zv10, zv11, zv12, zv13, zv14, zv15, zv16, zv17, zv18, zv19, zv20, zv21, zv22, zv23, zv24] at *; omega) | (refine ⟨?_, ?_⟩ <;> omega)) | (refine ⟨?_, ?_⟩ <;> omega) | (simp [*]; done) | grind)); (conv => whnf)) | (refine And.intro ?_ ?_ <;> (conv => whnf)))
                      all_goals
                        refine ⟨S.length - (j + 1), by omega, [], ?_⟩
                        conv => whnf
                        refine ⟨j + 1, M2.set q (n, none), by omega, rfl, HN, ?_⟩
                        rw [e1, e2]; rfl
                · have hj' : j = S.length := by omega
                  subst hj'
                  rw [List.take_length]
                  refine ⟨[], ?_⟩
                  (conv => whnf); refine ⟨[0, 1, 2, 3, 4, 5, 8], by simp, .cons ⟨_, rfl, .cons rfl (.cons rfl .nil)⟩ (.cons ⟨_, rfl, rfl, ?_⟩ (.cons ⟨_, rfl, rfl⟩ (.cons ⟨_, rfl, rfl, rfl, rfl⟩ (.cons ⟨_, rfl, rfl, trivial⟩ (.cons ⟨_, rfl, rfl, rfl⟩ (.cons ⟨_, rfl, rfl, ?_⟩ .nil)))))), ?_⟩
                  · rfl
                  · rfl
                  · exact .cons rfl (.cons rfl .nil)
end Go.Proofs.Ytphmcgmblkbijaa.V
-- Th
namespace Go.Proofs.Ytphmcgmblkbijaa.V
open Go.Proofs.YtphmcgmblkbijaaVY Go.RowKit
theorem sortM_perm (L : List Mb) : (sortM L).Perm L := by
  have h := (sortF_spec swo_ord L).1
  have h3 := h.2.2
  have e1 : ((sortF ordM L).toArray.extract 0 L.toArray.size).toList = sortF ordM L := by
    have := h.1
    simp at this
    simp [← this]
  have e2 : (L.toArray.extract 0 L.toArray.size).toList = L := by simp
  rw [e1, e2] at h3
  exact h3
theorem flat_bump {f : Int → List Int} {x z : Int} : ∀ {L : List Int}, L.Nodup → ((x ∈ L → (L.flatMap fun n => f n ++ if n = x then [z] else []).Perm (L.flatMap f ++ [z])) ∧ (x ∉ L → (L.flatMap fun n => f n ++ if n = x then [z] else []) = L.flatMap f))
  | [], _ => ⟨by simp, by simp⟩
  | y :: L, h => by
    obtain ⟨h1, h2⟩ := List.nodup_cons.1 h
    obtain ⟨ih1, ih2⟩ := flat_bump (f := f) (x := x) (z := z) h2
    refine ⟨fun hx => ?_, fun hx => ?_⟩
    · rw [List.flatMap_cons, List.flatMap_cons]
      by_cases e : y = x
      · subst e
        rw [if_pos rfl, ih2 h1, List.append_assoc, List.append_assoc]
        exact List.Perm.append_left _ List.perm_append_comm
      · rw [if_neg e, List.append_nil, List.append_assoc]
        have hx' : x ∈ L := by
          rcases List.mem_cons.1 hx with h | h
          · exact absurd h.symm e
          · exact h
        exact List.Perm.append_left _ (ih1 hx')
    · rw [List.flatMap_cons, List.flatMap_cons, if_neg (by rintro rfl; exact hx (List.mem_cons_self ..)), List.append_nil, ih2 fun h => hx (List.mem_cons_of_mem _ h)]
theorem flat_congr {f g : Int → List Int} : ∀ {L : List Int}, (∀ n ∈ L, (f n).Perm (g n)) → (L.flatMap f).Perm (L.flatMap g)
  | [], _ => by simp
  | x :: L, h => by
    rw [List.flatMap_cons, List.flatMap_cons]
    exact (h x (List.mem_cons_self ..)).append (flat_congr fun n hn => h n (List.mem_cons_of_mem _ hn))
theorem mems_all (ims nums asked : List Int) : ∀ i ≤ ims.length, ((fnd nums i).flatMap fun n => (mems ims nums asked n i).map Mb.im).Perm (ims.take i)
  | 0, _ => by simp [fnd]
  | i + 1, hi => by
    obtain ⟨z, hz⟩ := get_lt (l := ims) (i := i) (by omega)
    have ih := mems_all ims nums asked i (by omega)
    have gz : ims.getD i 0 = z := by rw [List.getD_eq_getElem?_getD, hz]; rfl
    have hf : (fun n => (mems ims nums asked n (i + 1)).map Mb.im) = fun n => (mems ims nums asked n i).map Mb.im ++ if n = nums.getD i 0 then [z] else [] := by
      funext n
      rw [mems, List.map_append]
      congr 1
      by_cases h : nums.getD i 0 = n
      · rw [if_pos h, if_pos h.symm]; show [ims.getD i 0] = _; rw [gz]
      · rw [if_neg h, if_neg (Ne.symm h)]; rfl
    have ht : ims.take (i + 1) = ims.take i ++ [z] := by rw [List.take_add_one, hz]; rfl
    rw [hf, ht, fnd]
    have hb := flat_bump (f := fun n => (mems ims nums asked n i).map Mb.im) (x := nums.getD i 0) (z := z) (fnd_nd (nums := nums) i)
    split
    · rename_i h
      exact (hb.1 h).trans (List.Perm.append_right _ ih)
    · rename_i h
      rw [List.flatMap_append, hb.2 h, List.flatMap_cons, List.flatMap_nil, List.append_nil, if_pos rfl]
      have h0 : mems ims nums asked (nums.getD i 0) i = [] := by
        by_cases h0 : mems ims nums asked (nums.getD i 0) i = []
        · exact h0
        · exact absurd ((fnd_mem i).2 h0) h
      rw [h0]
      exact List.Perm.append_right _ ih
structure TGood (T : List Tm) : Prop extends TOk T where
  nd : ∀ t ∈ T, t.im.Nodup
theorem frm_zero {T : List Tm} {F : List Int} {k : Int} {nums asked : List Int} (h : frmE T F k nums asked = 0) : tErr T k = 0 ∧ nums.length = (tIm T k).length ∧ T.length + (fnd nums nums.length).length ≤ 50 := by
  unfold frmE at h
  split at h
  · rename_i h1; exact absurd h h1
  · rename_i h1
    split at h
    · cases h
    · rename_i h2
      split at h
      · cases h
      · split at h
        · cases h
        · rename_i h4
          exact ⟨by simpa using h1, by omega, by omega⟩
/-- the images of all new teams are those of the old one -/
theorem frm_all {T : List Tm} {F : List Int} {k : Int} {nums asked : List Int} (h : frmE T F k nums asked = 0) : ((sortI (fnd nums nums.length)).flatMap fun n => (newTm T k nums asked n).im).Perm (tIm T k) := by
  obtain ⟨_, hl, _⟩ := frm_zero h
  have h1 := mems_all (tIm T k) nums asked nums.length (by omega)
  rw [hl, List.take_length, ← hl] at h1
  refine List.Perm.trans ?_ h1
  refine List.Perm.trans (List.Perm.flatMap_right _ (sortI_perm _)) ?_
  exact flat_congr fun n _ => (sortM_perm _).map _
theorem newTm_good {T : List Tm} {F : List Int} {k : Int} {nums asked : List Int} (h : frmE T F k nums asked = 0) (hT : TGood T) {n : Int} (hn : n ∈ sortI (fnd nums nums.length)) : (newTm T k nums asked n).im ≠ [] ∧ (newTm T k nums asked n).im.length ≤ 8 ∧ (newTm T k nums asked n).im.Nodup := by
  obtain ⟨he, hl, _⟩ := frm_zero h
  obtain ⟨h1, h2, t, ht⟩ := tErr_at he
  have eI : tIm T k = t.im := by unfold tIm; rw [if_pos h1, ht]; rfl
  have h8 := hT.im _ (List.mem_of_getElem? ht)
  have hnd := hT.nd _ (List.mem_of_getElem? ht)
  have hall := frm_all h
  rw [eI] at hall
  refine ⟨?_, ?_, ?_⟩
  · intro h0
    have := (fnd_mem (ims := tIm T k) (asked := asked) nums.length).1 ((sortI_perm _).mem_iff.1 hn)
    have hl0 : (newTm T k nums asked n).im.length = 0 := by rw [h0]; rfl
    unfold newTm at hl0
    rw [List.length_map, sortM_len] at hl0
    exact this (List.length_eq_zero_iff.1 hl0)
  · unfold newTm
    rw [List.length_map, sortM_len]
    have := mems_len (tIm T k) nums asked n nums.length
    rw [eI] at hl
    omega
  · have hnd2 : ((sortI (fnd nums nums.length)).flatMap fun n => (newTm T k nums asked n).im).Nodup := hall.nodup_iff.2 hnd
    obtain ⟨a, b, e⟩ := List.append_of_mem hn
    rw [e, List.flatMap_append, List.flatMap_cons] at hnd2
    exact (List.nodup_append.1 (List.nodup_append.1 hnd2).2.1).1
theorem frmT_good {T : List Tm} {F : List Int} {k : Int} {nums asked : List Int} (hT : TGood T) : TGood (frmT T F k nums asked) := by
  unfold frmT
  split
  · rename_i h
    obtain ⟨he, hl, h50⟩ := frm_zero h
    have hlen : (T ++ (sortI (fnd nums nums.length)).map (newTm T k nums asked)).length = T.length + (fnd nums nums.length).length := by rw [List.length_append, List.length_map, sortI_len]
    refine ⟨⟨by rw [hlen]; have := hT.pos; omega, by rw [hlen]; exact h50, fun t ht => ?_⟩, fun t ht => ?_⟩
    · rcases List.mem_append.1 ht with ht | ht
      · exact hT.im t ht
      · obtain ⟨n, hn, rfl⟩ := List.mem_map.1 ht
        exact (newTm_good h hT hn).2.1
    · rcases List.mem_append.1 ht with ht | ht
      · exact hT.nd t ht
      · obtain ⟨n, hn, rfl⟩ := List.mem_map.1 ht
        exact (newTm_good h hT hn).2.2
  · exact hT
theorem oneTo_nd (n : Nat) : (oneTo n).Nodup := by
  unfold oneTo
  exact List.pairwise_map.2 (List.nodup_range.imp fun h e => h (by omega))
theorem newT_good {n : Int} (h : 1 ≤ n ∧ n ≤ 8) : TGood (newT n) := by
  refine ⟨⟨by simp [newT], by simp [newT], fun t ht => ?_⟩, fun t ht => ?_⟩
  · simp [newT] at ht; subst ht; show (oneTo _).length ≤ 8; rw [oneTo_len]; omega
  · simp [newT] at ht; subst ht; exact oneTo_nd _
end Go.Proofs.Ytphmcgmblkbijaa.V
-- Ti
namespace Go.Proofs.Ytphmcgmblkbijaa.V
open Go.Proofs.YtphmcgmblkbijaaVY Go.RowKit
structure Ac where
  deed : Int
  team : Int
  nums : List Int
  ask : List Int
def Ac.c (a : Ac) : List D := [.int .i64 a.deed, .int .i64 a.team, .sl 1 (a.nums.map inC), .sl 1 (a.ask.map inC)]
theorem take_ext {α : Type} {a b : List α} (hl : a.length = b.length) (h : a.take a.length = b.take a.length) : a = b := by
  rw [List.take_length] at h
  rw [h, hl, List.take_length]
def R42 : Ct := fun ss hp r out => ∃ a b : List Int, ss = [.one (.d (.sl 1 (a.map inC))), .one (.d (.sl 1 (b.map inC)))] ∧ hp = [] ∧ a.length < 4611686018427387904 ∧ r = .db (decide (a = b)) ∧ out = []
set_option maxHeartbeats 4000000 in
theorem ok42 : VSound Try.prog (42, R42) := by
  refine vsound (T := ty) (F := []) (pl := [(6, [[], [], [0, 1], [0, 1, 2], [], [], [4, 5], [4, 5, 6], [0, 1, 2, 3, 4, 5, 6, 7]], .look 0 (.look 1 (.look 2 (.look 3 (.look 4 (.look 5 (.look 6 (.look 7 (.look 8 .done)))))))))]) (nw := true) (cuts := []) mix tyOk .nil Try.func42 (by kernel_rfl) (by kernel_rfl) ?_
  rintro _ _ _ _ ⟨a, b, rfl, rfl, hl, rfl, rfl⟩
  conv => whnf
  rw [map_len, map_len]
  ((with_reducible refine And.intro (fun (e : (_ : Bool) = true) => ?_) (fun (e : (_ : Bool) = false) => ?_)) <;> (try simp only [reduceCtorEq, ints_len, bools_len, bif_t, bif_f, zv0, zv1, zv2, zv3, zv4, zv5, zv6, zv7, zv8, zv9, zv10, zv11, zv12, zv13, zv14, zv15, zv16, zv17, zv18, zv19, zv20, zv21, zv22, zv23, zv24] at e) <;> (conv => whnf))
  · (refine ⟨[], ?_⟩; (conv => whnf); refine ⟨[], .nil, .nil, ?_⟩; (conv => whnf))
    rw [decide_eq_false]; intro h; subst h; omega
  · have hab : a.length = b.length := by omega
    refine ⟨[], [0, 1, 5], 0, fun n σ => ∃ i : Nat, i ≤ a.length ∧ n = a.length - i ∧ a.take i = b.take i ∧ σ = (⟨[.one (.d (.sl 1 (a.map inC))), .one (.d (.sl 1 (b.map inC))), .junk, .junk, .junk, .di .i64 i, .junk, .junk, .junk, .junk, .junk, .junk, .junk, .junk, .junk, .junk, .junk, .junk, .junk, .junk, .junk, .junk, .junk, .junk, .junk, .junk], []⟩ : St), ?_, ?_⟩
    · refine ⟨a.length, ?_⟩
      conv => whnf
      exact ⟨0, by omega, by omega, rfl, rfl⟩
    · rintro n _ ⟨i, hi, rfl, ht, rfl⟩
      conv => whnf
      rw [map_len]
      ((with_reducible refine And.intro (fun (e : (_ : Bool) = true) => ?_) (fun (e : (_ : Bool) = false) => ?_)) <;> (try simp only [reduceCtorEq, ints_len, bools_len, bif_t, bif_f, zv0, zv1, zv2, zv3, zv4, zv5, zv6, zv7, zv8, zv9, zv10, zv11, zv12, zv13, zv14, zv15, zv16, zv17, zv18, zv19, zv20, zv21, zv22, zv23, zv24] at e) <;> (conv => whnf))
      · obtain ⟨x, hx⟩ := get_lt (l := a) (i := i) (by omega)
        obtain ⟨y, hy⟩ := get_lt (l := b) (i := i) (by omega)
        (refine ⟨_, And.intro ⟨by omega, enc_get hx⟩ ?_⟩; (conv => whnf))
        (refine ⟨_, And.intro ⟨by omega, enc_get hy⟩ ?_⟩; (conv => whnf))
        (first | (refine And.intro (fun (e2 : (_ : Bool) = true) => ?_) (fun (e2 : (_ : Bool) = false) => ?_) <;> (conv => whnf)))
        · (refine ⟨[], ?_⟩; (conv => whnf); refine ⟨[], .nil, .nil, ?_⟩; (conv => whnf))
          rw [decide_eq_false]; intro h; subst h; rw [hx] at hy; cases hy; simp at e2
        · have hxy : x = y := by simpa using e2
          (refine And.intro ?_ ?_; ((first | (with_reducible assumption) | (intro _; with_reducible assumption) | omega | (simp only [reduceCtorEq, ints_len, bools_len, bif_t, bif_f, zv0, zv1, zv2, zv3, zv4, zv5, zv6, zv7, zv8, zv9, zv10, zv11, zv12, zv13, zv14, zv15, zv16, zv17, zv18, zv19, zv20, zv21, zv22, zv23, zv24] at *; omega) | (intro hg; (try simp only [reduceCtorEq, ints_len, bools_len, bif_t, bif_f, zv0, zv1, zv2, zv3, zv4, zv5, zv6, zv7, zv8, zv9, zv10, zv11, zv12, zv13, zv14, zv15, zv16, zv17, zv18, zv19, zv20, zv21, zv22, zv23, zv24] at hg); first | (with_reducible assumption) | omega | (simp only [reduceCtorEq, ints_len, bools_len, bif_t, bif_f, zv0, zv1, zv2, zv3, zv4, zv5, zv6, zv7, zv8, zv9, zv10, zv11, zv12, zv13, zv14, zv15, zv16, zv17, zv18, zv19, zv20, zv21, zv22, zv23, zv24] at *; omega) | (refine ⟨?_, ?_⟩ <;> omega)) | (refine ⟨?_, ?_⟩ <;> omega) | (simp [*]; done) | grind)); (conv => whnf))
          refine ⟨a.length - (i + 1), by omega, [], ?_⟩
          conv => whnf
          refine ⟨i + 1, by omega, rfl, ?_, rfl⟩
          rw [List.take_add_one, List.take_add_one, ht, hx, hy, hxy]
      · have hi' : i = a.length := by omega
        subst hi'
        (refine ⟨[], ?_⟩; (conv => whnf); refine ⟨[], .nil, .nil, ?_⟩; (conv => whnf))
        rw [decide_eq_true (take_ext hab ht)]
def longA (l : List Ac) : Bool := (l.any fun a => decide (100 < a.nums.length ∨ 100 < a.ask.length)) || decide (60 < l.length)
def R17 : Ct := fun ss hp r out => ∃ l : List Ac, ss = [.one (.d (.sl 4 (l.map Ac.c)))] ∧ hp = [] ∧ l.length < 4611686018427387904 ∧ r = .db (longA l) ∧ out = []
set_option maxHeartbeats 4000000 in
theorem ok17 : VSound Try.prog (17, R17) := by
  refine vsound (T := ty) (F := []) (pl := []) (nw := true) (cuts := []) mix tyOk .nil Try.func17 (by kernel_rfl) (by kernel_rfl) ?_
  rintro _ _ _ _ ⟨l, rfl, rfl, hl, rfl, rfl⟩
  conv => whnf
  refine ⟨[], [0, 3], 0, fun n σ => ∃ i : Nat, i ≤ l.length ∧ n = l.length - i ∧ (∀ j < i, ∀ a, l[j]? = some a → ¬ (100 < a.nums.length ∨ 100 < a.ask.length)) ∧ σ = (⟨[.one (.d (.sl 4 (l.map Ac.c))), .junk, .junk, .di .i64 i, .junk, .junk, .junk, .junk, .junk, .junk, .junk, .junk, .junk, .junk, .junk, .junk, .junk, .junk, .junk, .junk, .junk, .junk, .junk, .junk, .junk, .junk, .junk, .junk, .junk], []⟩ : St), ?_, ?_⟩
  · refine ⟨l.length, ?_⟩
    conv => whnf
    exact ⟨0, by omega, by omega, by omega, rfl⟩
  · rintro n _ ⟨i, hi, rfl, hb, rfl⟩
    conv => whnf
    rw [map_len]
    ((with_reducible refine And.intro (fun (e : (_ : Bool) = true) => ?_) (fun (e : (_ : Bool) = false) => ?_)) <;> (try simp only [reduceCtorEq, ints_len, bools_len, bif_t, bif_f, zv0, zv1, zv2, zv3, zv4, zv5, zv6, zv7, zv8, zv9, zv10, zv11, zv12, zv13, zv14, zv15, zv16, zv17, zv18, zv19, zv20, zv21, zv22, zv23, zv24] at e) <;> (conv => whnf))
    · obtain ⟨a, ha⟩ := get_lt (l := l) (i := i) (by omega)
      (refine ⟨_, And.intro ⟨by omega, enc_get ha⟩ ?_⟩; (conv => whnf))
      obtain ⟨ad, at1, an, aa⟩ := a
      conv => whnf
      (repeat ((first | with_reducible refine And.intro (fun h => h) ?_ | with_reducible refine And.intro (fun _ => rfl) ?_ | with_reducible refine And.intro rfl ?_); conv => whnf))
      (refine ⟨_, And.intro (fun _ => ⟨by omega, enc_get ha⟩) ?_⟩; (conv => whnf))
      (repeat ((first | with_reducible refine And.intro (fun h => h) ?_ | with_reducible refine And.intro (fun _ => rfl) ?_ | with_reducible refine And.intro rfl ?_); conv => whnf))
      refine And.intro (fun (e2 : (_ : Bool) = true) => ?_) (fun (e2 : (_ : Bool) = false) => ?_) <;> (conv => whnf)
      · have hx : 100 < an.length ∨ 100 < aa.length := by simp only [map_len] at e2; simp at e2; omega
        (refine ⟨[], ?_⟩; (conv => whnf); refine ⟨[], .nil, .nil, ?_⟩; (conv => whnf))
        have : longA l = true := by
          unfold longA
          rw [Bool.or_eq_true]
          exact .inl (List.any_eq_true.2 ⟨_, List.mem_of_getElem? ha, decide_eq_true hx⟩)
        rw [this]
      · have hx : ¬ (100 < an.length ∨ 100 < aa.length) := by simp only [map_len] at e2; simp at e2; omega
        (refine And.intro ?_ ?_; ((first | (with_reducible assumption) | (intro _; with_reducible assumption) | omega | (simp only [reduceCtorEq, ints_len, bools_len, bif_t, bif_f, zv0, zv1, zv2, zv3, zv4, zv5, zv6, zv7, zv8, zv9, zv10, zv11, zv12, zv13, zv14, zv15, zv16, zv17, zv18, zv19, zv20, zv21, zv22, zv23, zv24] at *; omega) | (intro hg; (try simp only [reduceCtorEq, ints_len, bools_len, bif_t, bif_f, zv0, zv1, zv2, zv3, zv4, zv5, zv6, zv7, zv8, zv9, zv10, zv11, zv12, zv13, zv14, zv15, zv16, zv17, zv18, zv19, zv20, zv21, zv22, zv23, zv24] at hg); first | (with_reducible assumption) | omega | (simp only [reduceCtorEq, ints_len, bools_len, bif_t, bif_f, zv0, zv1, zv2, zv3, zv4, zv5, zv6, zv7, zv8, zv9, zv10, zv11, zv12, zv13, zv14, zv15, zv16, zv17, zv18, zv19, zv20, zv21, zv22, zv23, zv24] at *; omega) | (refine ⟨?_, ?_⟩ <;> omega)) | (refine ⟨?_, ?_⟩ <;> omega) | (simp [*]; done) | grind)); (conv => whnf))
        refine ⟨l.length - (i + 1), by omega, [], ?_⟩
        conv => whnf
        refine ⟨i + 1, by omega, rfl, fun j hj a hja => ?_, rfl⟩
        by_cases ej : j = i
        · subst ej; rw [ha] at hja; cases hja; exact hx
        · exact hb j (by omega) a hja
    · (refine ⟨[], ?_⟩; (conv => whnf); refine ⟨[], .nil, .nil, ?_⟩; (conv => whnf))
      have : (l.any fun a => decide (100 < a.nums.length ∨ 100 < a.ask.length)) = false := List.any_eq_false.2 fun a ha => by
        obtain ⟨j, hj⟩ := List.getElem?_of_mem ha
        have := (List.getElem?_eq_some_iff.1 hj).1
        have := hb j (by omega) a hj
        simpa using this
      unfold longA
      rw [this, Bool.false_or, map_len]
      by_cases h : 60 < l.length
      · rw [decide_eq_true h, decide_eq_true (by omega)]
      · rw [decide_eq_false h, decide_eq_false (by omega)]
theorem aw1 : frmE (newT 4) [] 0 [1, 2, 1, 2] [0, 0, 0, 0] = 0 := by decide +kernel
theorem aw2 : frmL (newT 4) [] 0 [1, 2, 1, 2] [0, 0, 0, 0] = [1, 2] := by decide +kernel
theorem lessM_asymm {x y : Mb} (h : lessM x y) : ¬ lessM y x := by unfold lessM at *; omega
theorem sortM_of {L : List Mb} (h : L.Pairwise lessM) : sortM L = L := by
  have hp := sortM_perm L
  have hs : (sortM L).Pairwise fun x y => ¬ lessM y x := by
    have h2 := (sortF_spec swo_ord L).2
    rw [List.pairwise_iff_getElem]
    intro i j hi hj hij
    have hl : (sortM L).length = L.length := sortM_len L
    have := h2 i j (Nat.zero_le _) hij (by simp; omega)
    unfold ltOf at this
    rw [decide_eq_false_iff_not, ordM_lt] at this
    have e1 : (sortF ordM L).toArray[i]! = (sortM L)[i] := by rw [show sortF ordM L = sortM L from rfl]; simp [hi]
    have e2 : (sortF ordM L).toArray[j]! = (sortM L)[j] := by rw [show sortF ordM L = sortM L from rfl]; simp [hj]
    rw [e1, e2] at this
    exact this
  refine List.Perm.eq_of_pairwise (le := fun x y => ¬ lessM y x) (fun a b ha hb h1 h2 => ?_) hs (h.imp lessM_asymm) hp
  have ha' := hp.mem_iff.1 ha
  obtain ⟨i, hi⟩ := List.getElem?_of_mem ha'
  obtain ⟨j, hj⟩ := List.getElem?_of_mem hb
  obtain ⟨hi1, hi2⟩ := List.getElem?_eq_some_iff.1 hi
  obtain ⟨hj1, hj2⟩ := List.getElem?_eq_some_iff.1 hj
  rw [List.pairwise_iff_getElem] at h
  rcases Nat.lt_trichotomy i j with hij | hij | hij
  · have := h i j hi1 hj1 hij; rw [hi2, hj2] at this; exact absurd this h2
  · subst hij; rw [← hi2, ← hj2]
  · have := h j i hj1 hi1 hij; rw [hi2, hj2] at this; exact absurd this h1
theorem sortI_12 : sortI [1, 2] = [1, 2] := List.Perm.eq_of_pairwise (le := (· ≤ ·)) (fun a b _ _ h1 h2 => by omega) (sortI_sorted _) (by decide) (sortI_perm _)
theorem awT : frmT (newT 4) [] 0 [1, 2, 1, 2] [0, 0, 0, 0] = [⟨-1, [1, 2, 3, 4]⟩, ⟨0, [1, 3]⟩, ⟨0, [2, 4]⟩] := by
  unfold frmT
  rw [if_pos aw1, show fnd [1, 2, 1, 2] ([1, 2, 1, 2] : List Int).length = [1, 2] by decide +kernel, sortI_12]
  show newT 4 ++ [newTm (newT 4) 0 [1, 2, 1, 2] [0, 0, 0, 0] 1, newTm (newT 4) 0 [1, 2, 1, 2] [0, 0, 0, 0] 2] = _
  unfold newTm
  rw [show mems (tIm (newT 4) 0) [1, 2, 1, 2] [0, 0, 0, 0] 1 ([1, 2, 1, 2] : List Int).length = [⟨1, 1, 0, 0⟩, ⟨3, 1, 0, 2⟩] from rfl, show mems (tIm (newT 4) 0) [1, 2, 1, 2] [0, 0, 0, 0] 2 ([1, 2, 1, 2] : List Int).length = [⟨2, 2, 0, 1⟩, ⟨4, 2, 0, 3⟩] from rfl]
  rw [sortM_of (by simp [lessM]), sortM_of (by simp [lessM])]
  rfl
def R18 : Ct := fun ss hp r out => ss = [] ∧ hp = [] ∧ r = .db true ∧ out = []
set_option maxHeartbeats 4000000 in
theorem ok18 : VSound Try.prog (18, R18) := by
  refine vsound (T := ty) (F := [(19, R19), (21, R21), (22, R22), (42, R42)]) (pl := []) (nw := true) (cuts := []) mix tyOk (.cons (ok19) (.cons (ok21) (.cons (ok22) (.cons (ok42) .nil)))) Try.func18 (by kernel_rfl) (by kernel_rfl) ?_
  rintro _ _ _ _ ⟨rfl, rfl, rfl, rfl⟩
  conv => whnf
  refine ⟨[], false, false, ?_⟩
  conv => whnf
  refine ⟨_, _, ⟨4, rfl, rfl, .inl ⟨by decide, by decide, rfl, rfl⟩⟩, ?_⟩
  conv => whnf
  (repeat ((first | with_reducible refine And.intro (fun h => h) ?_ | with_reducible refine And.intro (fun _ => rfl) ?_ | with_reducible refine And.intro rfl ?_); conv => whnf))
  ((first | refine And.intro (fun _ => ?_) (fun h => absurd h (by decide)) | refine And.intro (fun h => absurd h (by decide)) (fun _ => ?_)); (conv => whnf))
  have hG := newT_good (n := 4) (by decide)
  have hG2 : TGood (frmT (newT 4) [] 0 [1, 2, 1, 2] [0, 0, 0, 0]) := frmT_good hG
  (refine ⟨[0, 1, 2], false, true, ?_⟩; (conv => whnf); intro u0 u1 u2; (conv => whnf); refine ⟨_, _, ⟨newT 4, [], 0, [1, 2, 1, 2], [0, 0, 0, 0], u0, u1, u2, rfl, rfl, hG.toTOk, rfl, rfl⟩, ?_⟩; (conv => whnf); refine ⟨rfl, ?_⟩; (conv => whnf); refine ⟨rfl, ?_⟩; (conv => whnf); refine ⟨rfl, ?_⟩; (conv => whnf))
  rw [awT] at hG2
  rw [aw1, aw2, awT]
  have hok := hG2.toTOk
  clear hG hG2
  generalize hT3 : ([⟨-1, [1, 2, 3, 4]⟩, ⟨0, [1, 3]⟩, ⟨0, [2, 4]⟩] : List Tm) = T3 at *
  have hI1 : tIm T3 1 = [1, 3] := by subst hT3; rfl
  have hI2 : tIm T3 2 = [2, 4] := by subst hT3; rfl
  have hE1 : tErr T3 1 = 0 := by subst hT3; rfl
  have hE2 : tErr T3 2 = 0 := by subst hT3; rfl
  (repeat ((first | with_reducible refine And.intro (fun h => h) ?_ | with_reducible refine And.intro (fun _ => rfl) ?_ | with_reducible refine And.intro rfl ?_); conv => whnf))
  ((first | refine And.intro (fun _ => ?_) (fun h => absurd h (by decide)) | refine And.intro (fun h => absurd h (by decide)) (fun _ => ?_)); (conv => whnf))
  refine And.intro ⟨by decide, by decide⟩ ?_
  conv => whnf
  refine ⟨_, And.intro rfl ?_⟩
  conv => whnf
  (refine ⟨[0, 1, 2], false, false, ?_⟩; (conv => whnf); intro u0 u1 u2; (conv => whnf); refine ⟨_, _, ⟨T3, [], 1, u0, u1, u2, rfl, rfl, hok, rfl, rfl⟩, ?_⟩; (conv => whnf); refine ⟨rfl, ?_⟩; (conv => whnf); refine ⟨rfl, ?_⟩; (conv => whnf); refine ⟨rfl, ?_⟩; (conv => whnf))
  rw [hI1, hE1]
  refine And.intro ⟨by decide, by decide⟩ ?_
  conv => whnf
  refine ⟨_, And.intro rfl ?_⟩
  conv => whnf
  (refine ⟨[0, 1, 2], false, false, ?_⟩; (conv => whnf); intro u0 u1 u2; (conv => whnf); refine ⟨_, _, ⟨T3, [], 2, u0, u1, u2, rfl, rfl, hok, rfl, rfl⟩, ?_⟩; (conv => whnf); refine ⟨rfl, ?_⟩; (conv => whnf); refine ⟨rfl, ?_⟩; (conv => whnf); refine ⟨rfl, ?_⟩; (conv => whnf))
  rw [hI2, hE2]
  (repeat ((first | with_reducible refine And.intro (fun h => h) ?_ | with_reducible refine And.intro (fun _ => rfl) ?_ | with_reducible refine And.intro rfl ?_); conv => whnf))
  refine ⟨fun _ => ?_, fun h => absurd h (by decide)⟩
  conv => whnf
  refine ⟨fun _ => ?_, fun h => absurd h (by decide)⟩
  conv => whnf
  (repeat ((first | with_reducible refine And.intro (fun h => h) ?_ | with_reducible refine And.intro (fun _ => rfl) ?_ | with_reducible refine And.intro rfl ?_); conv => whnf))
  (refine ⟨[], false, false, ?_⟩; (conv => whnf); refine ⟨_, _, ⟨[1, 3], [1, 3], rfl, rfl, by decide, rfl, rfl⟩, ?_⟩; (conv => whnf))
  (repeat ((first | with_reducible refine And.intro (fun h => h) ?_ | with_reducible refine And.intro (fun _ => rfl) ?_ | with_reducible refine And.intro rfl ?_); conv => whnf))
  refine ⟨fun _ => ?_, fun h => absurd h (by decide)⟩
  conv => whnf
  refine ⟨fun _ => ?_, fun h => absurd h (by decide)⟩
  conv => whnf
  (repeat ((first | with_reducible refine And.intro (fun h => h) ?_ | with_reducible refine And.intro (fun _ => rfl) ?_ | with_reducible refine And.intro rfl ?_); conv => whnf))
  (refine ⟨[], false, false, ?_⟩; (conv => whnf); refine ⟨_, _, ⟨[2, 4], [2, 4], rfl, rfl, by decide, rfl, rfl⟩, ?_⟩; (conv => whnf))
  (repeat ((first | with_reducible refine And.intro (fun h => h) ?_ | with_reducible refine And.intro (fun _ => rfl) ?_ | with_reducible refine And.intro rfl ?_); conv => whnf))
  refine ⟨[], ?_⟩
  conv => whnf
  refine ⟨[], .nil, .nil, ?_⟩
  first | rfl | (show D.bool _ = D.bool _; decide +kernel)
end Go.Proofs.Ytphmcgmblkbijaa.V
