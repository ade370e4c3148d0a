/-
  VX: a reader of code that says what is left to prove: what is known of values and of memory, and what each operation makes of it. By the session's own hand.
-/
import Derived.Lib.TrailingZeros
import GoSem.Core.Region
import GoSem.Core.World
import GoSem.Dispatch
import Derived.Laws.Entries
import Derived.RowKit
set_option linter.unusedSimpArgs false
namespace Go.Proofs.YtgpnmifejgdipaaDoorVX

/-- What is read and never written here: numbers, texts, and rows of elements (of sz cells each). -/
inductive D where
  | int (k : IntKind) (n : Int)
  | bool (b : Bool)
  | str (s : ByteArray)
  | val (v : Value)
  | sl (sz : Nat) (L : List (List D))

/-- A captured variable: a box of one's own, or cells that are only read. -/
inductive Cap where
  | ptr (h : Nat)
  | pel (l : List D)

/-- What is known of one cell's value. -/
inductive C where
  | d (x : D)
  | emp (sz : Nat)
  | own (h : Nat)
  | win (h sz lo n : Nat)
  | ptr (h off : Nat)
  | prow (h sz i j : Nat)
  | pel (l : List D)
  | fn (f : FuncId) (cs : List Cap)
  | junk

/-- A value: one cell, or several; or nothing but under a condition. -/
inductive V1 where
  | c (x : C)
  | ag (l : List C)
  | cnd (b w : Bool) (x : V1)
inductive S where
  | v (x : V1)
  | tup (l : List V1)

/-- Memory of one's own: a box of cells; a row with room behind it; a row that is no longer written; nothing. -/
inductive Reg where
  | box (cs : List C)
  | row (sz : Nat) (L : List (List D))
  | frz (sz : Nat) (L : List (List D))
  | gone

structure St where
  t : List S
  hp : List Reg

abbrev S.one (x : C) : S := .v (.c x)
abbrev S.di (k : IntKind) (n : Int) : S := .v (.c (.d (.int k n)))
abbrev S.db (b : Bool) : S := .v (.c (.d (.bool b)))
abbrev S.junk : S := .v (.c .junk)

/-- Types: what is asked of them. -/
inductive TK where
  | sca (k : Option IntKind)
  | bool
  | str
  | agg (fs : List (Nat × Nat × Bool))
  | arr (len esz : Nat) (eagg : Bool)
  | sl (e : TypeId) (esz ebytes : Nat) (ezero : List D)
  | oth
structure TI where
  kd : TK
  size : Nat
  zero : List C

def C.ofV (T : TI) : Value → C
  | .slice none 0 0 => match T.kd with
    | .sl _ sz _ _ => .emp sz
    | _ => .junk
  | .int k n => .d (.int k n)
  | .bool b => .d (.bool b)
  | .string s => .d (.str s)
  | .pointer none => .d (.val (.pointer none))
  | .nilFunc => .d (.val .nilFunc)
  | .nilIface => .d (.val .nilIface)
  | _ => .junk

section lists
variable {α : Type}
def nthK : List α → Nat → (α → Prop) → Prop
  | [], _, _ => False
  | a :: _, 0, k => k a
  | _ :: l, n + 1, k => nthK l n k
def setK : List α → Nat → α → (List α → Prop) → Prop
  | [], _, _, _ => False
  | _ :: l, 0, x, k => k (x :: l)
  | a :: l, n + 1, x, k => setK l n x fun l' => k (a :: l')
def takeK : List α → Nat → (List α → Prop) → Prop
  | _, 0, k => k []
  | [], _ + 1, _ => False
  | a :: l, n + 1, k => takeK l n fun l' => k (a :: l')
def dropK : List α → Nat → (List α → Prop) → Prop
  | l, 0, k => k l
  | [], _ + 1, _ => False
  | _ :: l, n + 1, k => dropK l n k
def appK : List α → List α → (List α → Prop) → Prop
  | [], m, k => k m
  | a :: l, m, k => appK l m fun l' => k (a :: l')
/-- Several written from a place on. -/
def putsK : List α → Nat → List α → (List α → Prop) → Prop
  | l, _, [], k => k l
  | [], _, _ :: _, _ => False
  | _ :: l, 0, x :: xs, k => putsK l 0 xs fun l' => k (x :: l')
  | a :: l, n + 1, x :: xs, k => putsK l n (x :: xs) fun l' => k (a :: l')
def lenK : List α → Nat → (Nat → Prop) → Prop
  | [], n, k => k n
  | _ :: l, n, k => lenK l (n + 1) k
end lists

/-- a test that is decided by what is written in the code -/
def tt (b : Bool) (p : Prop) : Prop := match b with
  | true => p
  | false => False
/-- what must hold, where the operation is done at all -/
def ob (gd : Option (Bool × Bool)) (p q : Prop) : Prop := match gd with
  | none => p ∧ q
  | some (b, w) => (b = w → p) ∧ q
def strip (gd : Option (Bool × Bool)) (s : S) (k : S → Prop) : Prop := match s with
  | .v (.cnd b w x) => match gd with
    | some (b', w') => (b' = w' → b = w) ∧ k (.v x)
    | none => k (.v (.cnd b w x))
  | s => k s
/-- package-level tables that are only read, and what they hold -/
def globs : List (Nat × List D) := [(0, Lib.deBruijn64tab.map fun (n : Nat) => D.int .u8 n)]
def findG : List (Nat × List D) → Nat → Option (List D)
  | [], _ => none
  | (n, l) :: G, g => match Nat.beq n g with
    | true => some l
    | false => findG G g
def operand (Γ : TypeId → TI) (T : TypeId) (gd : Option (Bool × Bool)) (t : List S) : Operand → (S → Prop) → Prop
  | .tmp i, k => nthK t i fun s => strip gd s k
  | .const v, k => k (.one (C.ofV (Γ T) v))
  | .func f, k => k (.one (.fn f []))
  | .global g, k => match findG globs g with
    | some l => k (.one (.pel l))
    | none => k .junk
def operands (Γ : TypeId → TI) (gd : Option (Bool × Bool)) (t : List S) : List Operand → List TypeId → (List S → Prop) → Prop
  | [], _, k => k []
  | x :: xs, [], k => operand Γ 0 gd t x fun s => operands Γ gd t xs [] fun l => k (s :: l)
  | x :: xs, T :: Ts, k => operand Γ T gd t x fun s => operands Γ gd t xs Ts fun l => k (s :: l)

/-- What is read in one cell, as a plain datum: a row of one's own as what it holds. -/
def viewK (hp : List Reg) (c : C) (k : D → Prop) : Prop := match c with
  | .d x => k x
  | .emp sz => k (.sl sz [])
  | .own h => nthK hp h fun
    | .frz sz L => k (.sl sz L)
    | _ => False
  | _ => False
def viewsK (hp : List Reg) : List C → (List D → Prop) → Prop
  | [], k => k []
  | c :: cs, k => viewK hp c fun x => viewsK hp cs fun l => k (x :: l)

/-- A row's moved away: nobody else knows it. -/
def C.lose (h : Nat) : C → C
  | .own h' => bif h == h' then .junk else .own h'
  | .win h' a b c => bif h == h' then .junk else .win h' a b c
  | .prow h' a b c => bif h == h' then .junk else .prow h' a b c
  | .d x => .d x
  | .emp s => .emp s
  | .ptr a b => .ptr a b
  | .pel l => .pel l
  | .fn f cs => .fn f cs
  | .junk => .junk
def S.lose (h : Nat) : S → S
  | .v (.c x) => .v (.c (x.lose h))
  | .v (.ag l) => .v (.ag (l.map (C.lose h)))
  | _ => .junk
def Reg.lose (h : Nat) : Reg → Reg
  | .box cs => .box (cs.map (C.lose h))
  | .row s L => .row s L
  | .frz s L => .frz s L
  | .gone => .gone
def loseCs (h : Nat) : List C → (List C → Prop) → Prop
  | [], k => k []
  | .own h' :: l, k => match h == h' with
    | true => loseCs h l fun l' => k (.junk :: l')
    | false => loseCs h l fun l' => k (.own h' :: l')
  | .win h' a b c :: l, k => match h == h' with
    | true => loseCs h l fun l' => k (.junk :: l')
    | false => loseCs h l fun l' => k (.win h' a b c :: l')
  | .prow h' a b c :: l, k => match h == h' with
    | true => loseCs h l fun l' => k (.junk :: l')
    | false => loseCs h l fun l' => k (.prow h' a b c :: l')
  | c :: l, k => loseCs h l fun l' => k (c :: l')
def loseSs (h : Nat) : List S → (List S → Prop) → Prop
  | [], k => k []
  | .v (.c x) :: l, k => loseCs h [x] fun
    | [y] => loseSs h l fun l' => k (.v (.c y) :: l')
    | _ => False
  | .v (.ag cs) :: l, k => loseCs h cs fun cs' => loseSs h l fun l' => k (.v (.ag cs') :: l')
  | _ :: l, k => loseSs h l fun l' => k (.junk :: l')
def loseRs (h : Nat) : List Reg → (List Reg → Prop) → Prop
  | [], k => k []
  | .box cs :: l, k => loseCs h cs fun cs' => loseRs h l fun l' => k (.box cs' :: l')
  | r :: l, k => loseRs h l fun l' => k (r :: l')

/-- handles counted from n on -/
def Cap.shift (n : Nat) : Cap → Cap
  | .ptr h => .ptr (n + h)
  | .pel l => .pel l
def C.shift (n : Nat) : C → C
  | .own h => .own (n + h)
  | .win h a b c => .win (n + h) a b c
  | .prow h a b c => .prow (n + h) a b c
  | .ptr h o => .ptr (n + h) o
  | .fn f cs => .fn f (cs.map (Cap.shift n))
  | .d x => .d x
  | .emp s => .emp s
  | .pel l => .pel l
  | .junk => .junk
def V1.shift (n : Nat) : V1 → V1
  | .c x => .c (x.shift n)
  | .ag l => .ag (l.map (C.shift n))
  | .cnd b w x => .cnd b w (x.shift n)
def S.shift (n : Nat) : S → S
  | .v x => .v (x.shift n)
  | .tup l => .tup (l.map (V1.shift n))
def Reg.shift (n : Nat) : Reg → Reg
  | .box cs => .box (cs.map (C.shift n))
  | .row s L => .row s L
  | .frz s L => .frz s L
  | .gone => .gone

/-- What an operation leaves: a value; memory written anew; memory made; the row that was moved. -/
abbrev EffK := S → List (Nat × Reg) → List Reg → Option Nat → Prop
def updsK : List (Nat × Reg) → List Reg → (List Reg → Prop) → Prop
  | [], hp, k => k hp
  | (h, r) :: us, hp, k => setK hp h r fun hp' => updsK us hp' k
def putD (t : List S) (hp : List Reg) (dst : Option Tmp) (s : S) (k : St → Prop) : Prop := match dst with
  | none => k ⟨t, hp⟩
  | some d => setK t d s fun t => k ⟨t, hp⟩
def St.apply (σ : St) (dst : Option Tmp) (s : S) (upd : List (Nat × Reg)) (new : List Reg) (inv : Option Nat) (k : St → Prop) : Prop :=
  (match inv with
    | none => fun (k : List S → List Reg → Prop) => k σ.t σ.hp
    | some h => fun k => loseSs h σ.t fun t => loseRs h σ.hp fun hp => k t hp) fun t hp =>
  updsK upd hp fun hp => appK hp new fun hp => putD t hp dst s k

/-- An order in which operations are read that stand for all orders: those that look as soon as they may, of the others each that may be next. -/
inductive Plan where
  | done
  | stop
  | look (i : Nat) (p : Plan)
  | act (i : Nat) (us : List Nat) (p q : Plan)
structure Cx where
  ty : TypeId → TI
  nw : Bool := true
  fns : FuncId → Option (List S → S → List Reg → Prop)
  plan : Nat → List (List Nat) × Plan := fun _ => ([], .done)
  cut : Nat → Bool := fun _ => false

def sameK : IntKind → IntKind → Bool
  | .i8, .i8 | .i16, .i16 | .i32, .i32 | .i64, .i64 | .u8, .u8 | .u16, .u16 | .u32, .u32 | .u64, .u64 => true
  | _, _ => false
/-- a sum: within its kind, or wrapped -/
def sumK (nw : Bool) (gd : Option (Bool × Bool)) (k : IntKind) (n : Int) (c : S → Prop) : Prop :=
  match nw, k with
  | true, .i64 => ob gd (-9223372036854775808 ≤ n ∧ n ≤ 9223372036854775807) (c (.di .i64 n))
  | false, .i64 => c (.di .i64 (RowKit.wrap64 n))
  | _, k => c (.di k (k.wrap n))
def binI (nw : Bool) (gd : Option (Bool × Bool)) (op : BinOp) (k : IntKind) (x y : Int) (c : S → Prop) : Prop :=
  match op with
  | .add => sumK nw gd k (x + y) c
  | .sub => sumK nw gd k (x - y) c
  | .mul => sumK nw gd k (x * y) c
  | .quo => ob gd (y ≠ 0) (sumK nw gd k (x.tdiv y) c)
  | .rem => ob gd (y ≠ 0) (c (.di k (x.tmod y)))
  | .and => c (.di k (Go.bits .and k x y))
  | .or => c (.di k (Go.bits .or k x y))
  | .xor => c (.di k (Go.bits .xor k x y))
  | .andNot => c (.di k (Go.bits .andNot k x y))
  | .eql => c (.db (x == y))
  | .neq => c (.db (x != y))
  | .lss => c (.db (x < y))
  | .leq => c (.db (x ≤ y))
  | .gtr => c (.db (x > y))
  | .geq => c (.db (x ≥ y))
  | .shl => ob gd (0 ≤ y) (c (.di k (k.wrap (x * 2 ^ min y.toNat k.bits))))
  | .shr => ob gd (0 ≤ y) (c (.di k (x / 2 ^ min y.toNat k.bits)))
def isShift : BinOp → Bool
  | .shl | .shr => true
  | _ => false
/-- what is not done at all: its guard is not met -/
def dead (gd : Option (Bool × Bool)) (p : Prop) : Prop := match gd with
  | none => False
  | some (b, w) => b = !w ∧ p
def bin (nw : Bool) (T : TI) (gd : Option (Bool × Bool)) (op : BinOp) (a b : S) (c : S → Prop) : Prop :=
  match a, b with
  | .v (.c (.d (.int k x))), .v (.c (.d (.int k' y))) =>
    match isShift op || sameK k k' with
    | false => False
    | true => binI nw gd op k x y c
  | .v (.c (.d (.bool x))), .v (.c (.d (.bool y))) =>
    match op, T.kd with
    | .eql, .bool => c (.db (x == y))
    | .neq, .bool => c (.db (!(x == y)))
    | _, _ => False
  | .v (.c (.d (.str x))), .v (.c (.d (.str y))) =>
    match op with
    | .eql => c (.db (x.toList == y.toList))
    | .neq => c (.db (!(x.toList == y.toList)))
    | _ => False
  | .v (.c .junk), _ => dead gd (c .junk)
  | _, .v (.c .junk) => dead gd (c .junk)
  | _, _ => False
def un (nw : Bool) (gd : Option (Bool × Bool)) (op : UnOp) (a : S) (c : S → Prop) : Prop :=
  match op, a with
  | _, .v (.c .junk) => dead gd (c .junk)
  | .neg, .v (.c (.d (.int k x))) => sumK nw gd k (-x) c
  | .not, .v (.c (.d (.bool x))) => c (.db (!x))
  | _, _ => False

def dsK : List D → (List C → Prop) → Prop
  | [], k => k []
  | x :: l, k => dsK l fun l' => k (.d x :: l')
def isAg : TK → Bool
  | .agg _ | .arr _ _ _ => true
  | _ => false
def isStr : TK → Bool
  | .str => true
  | _ => false
def told : TK → Bool
  | .oth => false
  | _ => true
/-- the value of a type, out of cells that begin at its place -/
def partK (ag : Bool) (size : Nat) (cs : List C) (k : S → Prop) : Prop :=
  match ag with
  | true => takeK cs size fun l => k (.v (.ag l))
  | false => match cs with
    | c :: _ => k (.one c)
    | [] => False
def loadK (gd : Option (Bool × Bool)) (T : TI) (hp : List Reg) (a : S) (k : S → Prop) : Prop :=
  tt (told T.kd) <| match a with
  | .v (.c (.ptr h off)) => nthK hp h fun
    | .box cs => dropK cs off fun cs => partK (isAg T.kd) T.size cs k
    | _ => False
  | .v (.c (.pel l)) => dsK l fun cs => partK (isAg T.kd) T.size cs k
  | .v (.c (.prow h sz i j)) => nthK hp h fun
    | .row sz' L => tt (Nat.beq sz sz') <| ∃ e, ob gd (L[i]? = some e) (dropK e j fun l => dsK l fun cs => partK (isAg T.kd) T.size cs k)
    | _ => False
  | _ => False

/-- parts put into their places -/
def fillK (fs : List (Nat × Nat × Bool)) : List C → List (Nat × S) → (List C → Prop) → Prop
  | l, [], k => k l
  | l, (j, x) :: ps, k => nthK fs j fun (o, n, _) => match x with
    | .v (.ag xs) => tt (Nat.beq xs.length n) <| putsK l o xs fun l => fillK fs l ps k
    | .v (.c c) => tt (Nat.beq n 1) <| match c with
      | .junk => False
      | c => putsK l o [c] fun l => fillK fs l ps k
    | _ => False
/-- the places of a row's elements, and their zeros -/
def slotsOf (esz : Nat) : Nat → Nat → List (Nat × Nat × Bool)
  | 0, _ => []
  | n + 1, o => (o, esz, false) :: slotsOf esz n (o + esz)
def zerosOf (ez : List D) : Nat → List C
  | 0 => []
  | n + 1 => ez.map .d ++ zerosOf ez n
/-- cells, cut into elements -/
def chunkK (sz : Nat) : Nat → List D → (List (List D) → Prop) → Prop
  | 0, _, k => k []
  | n + 1, l, k => takeK l sz fun e => dropK l sz fun l => chunkK sz n l fun L => k (e :: L)
def partsK (Γ : TypeId → TI) (T : Nat → TypeId) (gd : Option (Bool × Bool)) (t : List S) : List (Nat × Operand) → (List (Nat × S) → Prop) → Prop
  | [], k => k []
  | (j, x) :: ps, k => operand Γ (T j) gd t x fun s => partsK Γ T gd t ps fun l => k ((j, s) :: l)
def capsK (t : List S) : List Operand → (List Cap → Prop) → Prop
  | [], k => k []
  | .tmp i :: xs, k => nthK t i fun
    | .v (.c (.ptr h 0)) => capsK t xs fun l => k (.ptr h :: l)
    | .v (.c (.pel l)) => capsK t xs fun l' => k (.pel l :: l')
    | _ => False
  | _, _ => False

/-- how many elements a row has, and which, as it is read -/
def rowK (hp : List Reg) (c : C) (k : Nat → List (List D) → Prop) : Prop := match c with
  | .d (.sl sz L) => k sz L
  | .emp sz => k sz []
  | .own h => nthK hp h fun
    | .row sz L => k sz L
    | .frz sz L => k sz L
    | _ => False
  | .win h sz lo n => nthK hp h fun
    | .row sz' L => tt (Nat.beq sz sz') <| k sz ((L.drop lo).take n)
    | _ => False
  | _ => False

/-- s[l:h], l and h known -/
def cutK (gd : Option (Bool × Bool)) (hp : List Reg) (c : C) (l h : Int) (k : S → Prop) : Prop := match c with
  | .d (.sl sz L) => ob gd (0 ≤ l ∧ l ≤ h ∧ h ≤ L.length) (k (.one (.d (.sl sz ((L.take h.toNat).drop l.toNat)))))
  | .own r => nthK hp r fun
    | .row sz L => ob gd (0 ≤ l ∧ l ≤ h ∧ h ≤ L.length) (k (.one (.win r sz l.toNat (h.toNat - l.toNat))))
    | .frz sz L => ob gd (0 ≤ l ∧ l ≤ h ∧ h ≤ L.length) (k (.one (.d (.sl sz ((L.take h.toNat).drop l.toNat)))))
    | _ => False
  | .win r sz lo n => ob gd (0 ≤ l ∧ l ≤ h ∧ h ≤ n) (k (.one (.win r sz (lo + l.toNat) (h.toNat - l.toNat))))
  | .emp sz => ob gd (l = 0 ∧ h = 0) (k (.one (.emp sz)))
  | _ => False

/-- a bound, or what stands for none -/
def optK (Γ : TypeId → TI) (gd : Option (Bool × Bool)) (t : List S) (x : Option Operand) (n : Int) (k : Int → Prop) : Prop := match x with
  | none => k n
  | some x => operand Γ 0 gd t x fun
    | .v (.c (.d (.int _ n))) => k n
    | _ => False

/-- Operations that only look. -/
def evP (Γ : Cx) (gd : Option (Bool × Bool)) (o : Oper) (t : List S) (hp : List Reg) (k : S → Prop) : Prop :=
  match o.op with
  | .move x | .assign x => operand Γ.ty o.type gd t x k
  | .pick c a b => operand Γ.ty o.type gd t c fun c => operand Γ.ty o.type none t a fun a => operand Γ.ty o.type none t b fun b =>
    match c, a, b with
    | .v (.c (.d (.bool c))), .v (.c (.d (.bool a))), .v (.c (.d (.bool b))) => k (.db (bif c then a else b))
    | .v (.c (.d (.bool c))), .v (.c (.d (.bool a))), .v (.cnd b' w (.c (.d (.bool b)))) => ob gd (c = false → b' = w) (k (.db (bif c then a else b)))
    | .v (.c (.d (.bool c))), .v (.cnd b' w (.c (.d (.bool a)))), .v (.c (.d (.bool b))) => ob gd (c = true → b' = w) (k (.db (bif c then a else b)))
    | .v (.c (.d (.bool c))), .v (.c .junk), .v (.c (.d (.bool b))) => ob gd (c = false) (k (.db b))
    | .v (.c (.d (.bool c))), .v (.c (.d (.bool a))), .v (.c .junk) => ob gd (c = true) (k (.db a))
    | _, _, _ => False
  | .load T a => operand Γ.ty T gd t a fun a => loadK gd (Γ.ty T) hp a k
  | .nilCheck x => operand Γ.ty o.type gd t x fun x => match x with
    | .v (.c (.ptr h o)) => k (.one (.ptr h o))
    | .v (.c (.pel l)) => k (.one (.pel l))
    | _ => False
  | .binOp op T x y T' => operand Γ.ty T gd t x fun x => operand Γ.ty T' gd t y fun y => bin Γ.nw (Γ.ty T) gd op x y k
  | .unOp op T x => operand Γ.ty T gd t x fun x => un Γ.nw gd op x k
  | .convert src dst x => operand Γ.ty src gd t x fun x => match x, (Γ.ty dst).kd with
    | .v (.c (.d (.int _ n))), .sca (some jk) => tt (told (Γ.ty src).kd) <| sumK Γ.nw gd jk n k
    | .v (.c (.d (.str s))), .str => tt (told (Γ.ty src).kd) <| k (.one (.d (.str s)))
    | _, _ => False
  | .fieldAddr T x j => operand Γ.ty T gd t x fun x => match (Γ.ty T).kd with
    | .agg fs => nthK fs j fun (o, _, _) => match x with
      | .v (.c (.ptr h off)) => k (.one (.ptr h (off + o)))
      | .v (.c (.pel l)) => dropK l o fun l => k (.one (.pel l))
      | .v (.c (.prow h sz i j)) => k (.one (.prow h sz i (j + o)))
      | _ => False
    | _ => False
  | .field T x j => operand Γ.ty T gd t x fun x => match (Γ.ty T).kd, x with
    | .agg fs, .v (.ag l) => nthK fs j fun (o, n, a) => dropK l o fun l => partK a n l k
    | _, _ => False
  | .indexAddr T x i => operand Γ.ty T gd t x fun x => operand Γ.ty 0 gd t i fun i => match i with
    | .v (.c (.d (.int _ i))) => match (Γ.ty T).kd, x with
      | .sl _ esz _ _, .v (.c (.d (.sl sz L))) => tt (Nat.beq esz sz) <| ∃ e, ob gd (0 ≤ i ∧ L[i.toNat]? = some e) (k (.one (.pel e)))
      | .sl _ esz _ _, .v (.c (.own h)) => nthK hp h fun
        | .row sz L => tt (Nat.beq esz sz) <| ob gd (0 ≤ i ∧ i.toNat < L.length) (k (.one (.prow h sz i.toNat 0)))
        | .frz sz L => tt (Nat.beq esz sz) <| ∃ e, ob gd (0 ≤ i ∧ L[i.toNat]? = some e) (k (.one (.pel e)))
        | _ => False
      | .sl _ esz _ _, .v (.c (.win h sz lo n)) => nthK hp h fun
        | .row sz' _ => tt (Nat.beq esz sz && Nat.beq sz sz') <| ob gd (0 ≤ i ∧ i.toNat < n) (k (.one (.prow h sz (lo + i.toNat) 0)))
        | _ => False
      | .arr len esz _, .v (.c (.ptr h off)) => ob gd (0 ≤ i ∧ i < len) (k (.one (.ptr h (off + i.toNat * esz))))
      | .arr len esz _, .v (.c (.pel l)) => ob gd (0 ≤ i ∧ i < len) (dropK l (i.toNat * esz) fun l => k (.one (.pel l)))
      | _, _ => False
    | _ => False
  | .index T x i => operand Γ.ty T gd t x fun x => operand Γ.ty 0 gd t i fun i => match i, x with
    | .v (.c (.d (.int _ i))), .v (.c (.d (.str s))) => tt (isStr (Γ.ty T).kd) <| ∃ b, ob gd (0 ≤ i ∧ s[i.toNat]? = some b) (k (.di .u8 b.toNat))
    | _, _ => False
  | .slice T x lo hi none => operand Γ.ty T gd t x fun x => match (Γ.ty T).kd, x with
    | .sl _ esz _ _, .v (.c c) => rowK hp c fun sz L => tt (Nat.beq esz sz) <|
      optK Γ.ty gd t lo 0 fun l => optK Γ.ty gd t hi L.length fun h => cutK gd hp c l h k
    | _, _ => False
  | .extract x j => operand Γ.ty o.type gd t x fun x => match x with
    | .tup vs => nthK vs j fun v => k (.v v)
    | _ => False
  | .makeFunc (.func f) first captured => match first.toList with
    | [] => capsK t captured.toList fun cs => k (.one (.fn f cs))
    | _ => False
  | .build T ps => match (Γ.ty T).kd with
    | .agg fs => partsK Γ.ty (fun _ => 0) gd t ps.toList fun ps => fillK fs (Γ.ty T).zero ps fun l => k (.v (.ag l))
    | .arr len esz _ => tt (Nat.ble 1 esz) <| partsK Γ.ty (fun _ => 0) gd t ps.toList fun ps => fillK (slotsOf esz len 0) (Γ.ty T).zero ps fun l => k (.v (.ag l))
    | _ => False
  | .call c => match c.callee with
    | .builtin .len => operands Γ.ty gd t c.args.toList c.argTypes.toList fun ss => match ss, c.argTypes.toList with
      | [.v (.c c)], [T] => match (Γ.ty T).kd, c with
        | .str, .d (.str s) => k (.di .i64 s.size)
        | .sl _ _ _ _, c => rowK hp c fun _ L => k (.di .i64 L.length)
        | _, _ => False
      | _, _ => False
    | .builtin .min => operands Γ.ty gd t c.args.toList c.argTypes.toList fun ss => match ss with
      | [.v (.c (.d (.int i x))), .v (.c (.d (.int _ y)))] => k (.di i (if y < x then y else x))
      | _ => False
    | .builtin .max => operands Γ.ty gd t c.args.toList c.argTypes.toList fun ss => match ss with
      | [.v (.c (.d (.int i x))), .v (.c (.d (.int _ y)))] => k (.di i (if y > x then y else x))
      | _ => False
    | _ => False
  | _ => False

def isLook : Op → Bool
  | .move _ | .assign _ | .pick _ _ _ | .load _ _ | .nilCheck _ | .binOp _ _ _ _ _ | .unOp _ _ _ | .convert _ _ _ | .fieldAddr _ _ _ | .field _ _ _
  | .indexAddr _ _ _ | .index _ _ _ | .slice _ _ _ _ _ | .extract _ _ | .makeFunc _ _ _ | .build _ _ => true
  | .call ⟨.builtin .len, _, _⟩ | .call ⟨.builtin .min, _, _⟩ | .call ⟨.builtin .max, _, _⟩ => true
  | _ => false

/-- the row that an append begins with -/
def baseK (hp : List Reg) (c : C) (k : Option Nat → Nat → List (List D) → Prop) : Prop := match c with
  | .emp sz => k none sz []
  | .own h => nthK hp h fun
    | .row sz L => k (some h) sz L
    | _ => False
  | .win h sz lo n => nthK hp h fun
    | .row sz' L => tt (Nat.beq sz sz') <| k (some h) sz ((L.drop lo).take n)
    | _ => False
  | _ => False

/-- what a callee is shown of an argument, and which rows are lent with it -/
def lendC (hp : List Reg) (c : C) (k : C → List (Nat × Nat × List (List D)) → Prop) : Prop := match c with
  | .d x => k (.d x) []
  | .emp sz => k (.d (.sl sz [])) []
  | .pel l => k (.pel l) []
  | .fn f [] => k (.fn f []) []
  | .own h => nthK hp h fun
    | .row sz L => k (.d (.sl sz L)) [(h, sz, L)]
    | .frz sz L => k (.d (.sl sz L)) []
    | _ => False
  | .win h sz lo n => nthK hp h fun
    | .row sz' L => tt (Nat.beq sz sz') <| k (.d (.sl sz ((L.drop lo).take n))) [(h, sz, L)]
    | _ => False
  | _ => False
def lendCs (hp : List Reg) : List C → (List C → List (Nat × Nat × List (List D)) → Prop) → Prop
  | [], k => k [] []
  | c :: cs, k => lendC hp c fun c' l => lendCs hp cs fun cs' l' => appK l l' fun m => k (c' :: cs') m
def lendSs (hp : List Reg) : List S → (List S → List (Nat × Nat × List (List D)) → Prop) → Prop
  | [], k => k [] []
  | .v (.c c) :: ss, k => lendC hp c fun c' l => lendSs hp ss fun ss' l' => appK l l' fun m => k (.v (.c c') :: ss') m
  | .v (.ag cs) :: ss, k => lendCs hp cs fun cs' l => lendSs hp ss fun ss' l' => appK l l' fun m => k (.v (.ag cs') :: ss') m
  | _, _ => False
/-- no memory in it -/
def plainC : C → Bool
  | .d (.int _ _) | .d (.bool _) | .d (.str _) | .d (.val _) => true
  | _ => false
def plainV : V1 → Bool
  | .c c => plainC c
  | .ag l => l.all plainC
  | .cnd _ _ _ => false
def plainS : S → Bool
  | .v x => plainV x
  | .tup l => l.all plainV
def frzs : List (Nat × Nat × List (List D)) → List (Nat × Reg)
  | [] => []
  | (h, sz, L) :: l => (h, .frz sz L) :: frzs l

/-- Operations that write memory, make it, or call. -/
def evM (Γ : Cx) (gd : Option (Bool × Bool)) (o : Oper) (t : List S) (hp : List Reg) (k : EffK) : Prop :=
  match o.op with
  | .alloc T => tt (told (Γ.ty T).kd) <| lenK hp 0 fun n => k (.one (.ptr n 0)) [] [.box (Γ.ty T).zero] none
  | .box T x => operand Γ.ty T gd t x fun x => lenK hp 0 fun n => match x with
    | .v (.ag l) => k (.one (.ptr n 0)) [] [.box l] none
    | .v (.c .junk) => False
    | .v (.c c) => k (.one (.ptr n 0)) [] [.box [c]] none
    | _ => False
  | .store T a x => operand Γ.ty T gd t a fun a => operand Γ.ty T gd t x fun x => match a with
    | .v (.c (.ptr h off)) => nthK hp h fun
      | .box cs => match x with
        | .v (.ag l) => tt (told (Γ.ty T).kd && Nat.beq l.length (Γ.ty T).size && Nat.ble 1 (Γ.ty T).size) <| putsK cs off l fun cs => k .junk [(h, .box cs)] [] none
        | .v (.c .junk) => False
        | .v (.c c) => tt (told (Γ.ty T).kd && Nat.beq (Γ.ty T).size 1) <| putsK cs off [c] fun cs => k .junk [(h, .box cs)] [] none
        | _ => False
      | _ => False
    | .v (.c (.prow h sz' i j)) => nthK hp h fun
      | .row sz L => tt (Nat.beq sz' sz) <| ∃ e, ob gd (L[i]? = some e) (match x with
        | .v (.ag l) => viewsK hp l fun l => tt (told (Γ.ty T).kd && Nat.beq l.length (Γ.ty T).size && Nat.ble 1 (Γ.ty T).size) <| putsK e j l fun e => k .junk [(h, .row sz (L.set i e))] [] none
        | .v (.c c) => viewK hp c fun x => tt (told (Γ.ty T).kd && Nat.beq (Γ.ty T).size 1) <| putsK e j [x] fun e => k .junk [(h, .row sz (L.set i e))] [] none
        | _ => False)
      | _ => False
    | _ => False
  | .makeSlice T l c => match (Γ.ty T).kd with
    | .sl _ esz eb ez => operand Γ.ty 0 gd t l fun l => operand Γ.ty 0 gd t c fun c => match l, c with
      | .v (.c (.d (.int _ l))), .v (.c (.d (.int _ c))) => tt (Nat.ble 1 esz && Nat.ble 1 eb) <| ob gd (0 ≤ l ∧ l ≤ c ∧ c * eb ≤ 281474976710656) <|
        lenK hp 0 fun n => k (.one (.own n)) [] [.row esz (List.replicate l.toNat ez)] none
      | _, _ => False
    | _ => False
  | .buildSlice T len ps => match (Γ.ty T).kd with
    | .sl e esz _ ez => tt (Nat.ble 1 esz && Nat.ble (len * esz) 16777216) <| partsK Γ.ty (fun _ => e) gd t ps.toList fun ps =>
      fillK (slotsOf esz len 0) (zerosOf ez len) ps fun cs => viewsK hp cs fun l => chunkK esz len l fun L => match L with
        | [] => k (.one (.emp esz)) [] [] none
        | L => lenK hp 0 fun n => k (.one (.own n)) [] [.row esz L] none
    | _ => False
  | .call c => match c.callee with
    | .value x => operand Γ.ty 0 gd t x fun
      | .v (.c (.fn f [])) => operands Γ.ty gd t c.args.toList c.argTypes.toList fun ss => match Γ.fns f with
        | none => False
        | some R => lendSs hp ss fun ss lent => ∃ r new, R ss r new ∧ lenK hp 0 fun n => match lent, new, plainS r with
          | [], _, _ => k (r.shift n) [] (new.map (Reg.shift n)) none
          | _, [], true => k r [] [] none
          | _, _, _ => k (r.shift n) (frzs lent) (new.map (Reg.shift n)) none
      | _ => False
    | .builtin .append => operands Γ.ty gd t c.args.toList c.argTypes.toList fun ss => match ss, c.argTypes.toList with
      | [.v (.c a), .v (.c b)], [T, T2] => match (Γ.ty T).kd, (Γ.ty T2).kd with
        | .sl _ esz eb _, .sl _ _ _ _ => baseK hp a fun h sz L => rowK hp b fun sz' M => tt (Nat.beq esz sz && Nat.beq esz sz' && Nat.ble 1 esz && Nat.ble 1 eb) <|
          ob gd ((L.length + M.length) * eb ≤ 140737488355328) <| match h with
            | none => lenK hp 0 fun n => k (.one (.own n)) [] [.row sz (L ++ M)] none
            | some h => k (.one (.own h)) [(h, .row sz (L ++ M))] [] (some h)
        | _, _ => False
      | _, _ => False
    | _ => False
  | _ => False

def mkCnd (b w : Bool) : S → S
  | .v (.c .junk) => .junk
  | .v x => .v (.cnd b w x)
  | .tup _ => .junk

/-- what a guard comes to: one's own value, or that of one that stood under a guard itself -/
def gdK (s : S) (w : Bool) (k : Bool → Bool → Prop) : Prop := match s with
  | .v (.c (.d (.bool b))) => k b w
  | .v (.cnd b' w' (.c (.d (.bool b)))) => k ((b' == w') && (b == w)) true
  | _ => False
/-- One operation that looks, under its guard. -/
def lookStep (Γ : Cx) (all : Array Oper) (o : Oper) (t : List S) (hp : List Reg) (k : S → Prop) : Prop :=
  match o.guard with
  | none => evP Γ none o t hp k
  | some (j, w) => match all[j]? with
    | some ⟨some g, _, _, _, _, _⟩ => nthK t g fun s => gdK s w fun b w => evP Γ (some (b, w)) o t hp fun s => k (mkCnd b w s)
    | _ => False
/-- One other operation, under its guard. -/
def actStep (Γ : Cx) (all : Array Oper) (o : Oper) (t : List S) (hp : List Reg) (k : EffK) : Prop :=
  match o.guard with
  | none => evM Γ none o t hp k
  | some (j, w) => match all[j]? with
    | some ⟨some g, _, _, _, _, _⟩ => nthK t g fun s => gdK s w fun b w => (b = w → evM Γ (some (b, w)) o t hp k) ∧ (b = !w → k .junk [] [] none)
    | _ => False
/-- Operations in the order of the text. -/
def vcOps (Γ : Cx) (all : Array Oper) : List Oper → St → (St → Prop) → Prop
  | [], σ, K => K σ
  | o :: os, σ, K =>
    match isLook o.op with
    | true => lookStep Γ all o σ.t σ.hp fun s => σ.apply o.dst s [] [] none (vcOps Γ all os · K)
    | false => actStep Γ all o σ.t σ.hp fun s upd new inv => σ.apply o.dst s upd new inv (vcOps Γ all os · K)

def inL : List Nat → Nat → Bool
  | [], _ => false
  | x :: l, n => match Nat.beq x n with
    | true => true
    | false => inL l n
/-- the handles at which the memory is looked, through a value -/
def C.hs : C → List Nat
  | .own h | .win h _ _ _ | .ptr h _ | .prow h _ _ _ => [h]
  | _ => []
def V1.hs : V1 → List Nat
  | .c x => x.hs
  | .cnd _ _ x => x.hs
  | .ag _ => []
def S.hs : S → List Nat
  | .v x => x.hs
  | .tup _ => []
/-- nothing is lost of it when a row is moved -/
def C.steady (h : Nat) : C → Bool
  | .own h' | .win h' _ _ _ | .prow h' _ _ _ => match Nat.beq h h' with
    | true => false
    | false => true
  | _ => true
def allC (h : Nat) : List C → Bool
  | [] => true
  | c :: l => match c.steady h with
    | true => allC h l
    | false => false
def S.steady (h : Nat) : S → Bool
  | .v (.c x) => x.steady h
  | .v (.ag l) => allC h l
  | _ => false
def Reg.steady (h : Nat) : Reg → Bool
  | .box cs => allC h cs
  | _ => true
def allSs (h : Nat) : List S → Bool
  | [] => true
  | s :: l => match s.steady h with
    | true => allSs h l
    | false => false
/-- what was looked at by an operation that could also have come later: handles and values -/
structure Fl where
  i : Nat
  hs : List Nat
  ss : List S
def regSteady (h : Nat) (hp : List Reg) (x : Nat) : Bool := match hp[x]? with
  | some r => r.steady h
  | none => true
def hsClear (hp : List Reg) (upd : List (Nat × Reg)) (inv : Option Nat) : List Nat → Bool
  | [] => true
  | x :: l => match inL (upd.map (·.1)) x with
    | true => false
    | false => match inv with
      | none => hsClear hp upd inv l
      | some h => match Nat.beq h x || !(regSteady h hp x) with
        | true => false
        | false => hsClear hp upd inv l
def Fl.clear (hp : List Reg) (upd : List (Nat × Reg)) (inv : Option Nat) (e : Fl) : Bool := match hsClear hp upd inv e.hs with
  | true => match inv with
    | none => true
    | some h => allSs h e.ss
  | false => false
def clearK (us : List Nat) (hp : List Reg) (upd : List (Nat × Reg)) (inv : Option Nat) : List Fl → Bool
  | [] => true
  | e :: l => match inL us e.i with
    | true => match e.clear hp upd inv with
      | true => clearK us hp upd inv l
      | false => false
    | false => clearK us hp upd inv l
/-- slots that an operation reads -/
def seenT (x : Operand) : List Tmp := match x with
  | .tmp i => [i]
  | _ => []
def Oper.sees (o : Oper) : List Tmp := o.op.operands.toList.flatMap seenT
/-- the slot of an operation's guard -/
def guardT (all : Array Oper) (o : Oper) : List Tmp := match o.guard with
  | some (j, _) => match all[j]? with
    | some ⟨some g, _, _, _, _, _⟩ => [g]
    | _ => []
  | none => []
def vals (t : List S) : List Tmp → List S
  | [] => []
  | i :: l => match t[i]? with
    | some s => s :: vals t l
    | none => vals t l
def handles : List S → List Nat
  | [] => []
  | s :: l => s.hs ++ handles l
def orStop : Plan → Prop → Prop → Prop
  | .stop, a, _ => a
  | _, a, b => a ∧ b
def runPlan (Γ : Cx) (all : Array Oper) : Plan → List Fl → St → (St → Prop) → Prop
  | .done, _, σ, K => K σ
  | .stop, _, _, _ => True
  | .look i p, lk, σ, K => match all[i]? with
    | some o => lookStep Γ all o σ.t σ.hp fun s => σ.apply o.dst s [] [] none fun σ' => runPlan Γ all p (⟨i, handles (vals σ.t (Oper.sees o)), s :: (vals σ.t (guardT all o) ++ vals σ.t (Oper.sees o))⟩ :: lk) σ' K
    | none => False
  | .act i us p q, lk, σ, K => orStop q (match all[i]? with
    | some o => actStep Γ all o σ.t σ.hp fun s upd new inv => tt (clearK us σ.hp upd inv lk) <| σ.apply o.dst s upd new inv (runPlan Γ all p lk · K)
    | none => False) (runPlan Γ all q lk σ K)

/-- what is known of these slots and handles, and of no others -/
def Cap.under (n : Nat) : Cap → Bool
  | .ptr h => Nat.blt h n
  | .pel _ => true
def C.under (n : Nat) : C → Bool
  | .own h | .win h _ _ _ | .prow h _ _ _ | .ptr h _ => Nat.blt h n
  | .fn _ cs => cs.all (Cap.under n)
  | _ => true
def V1.under (n : Nat) : V1 → Bool
  | .c x => x.under n
  | .ag l => l.all (C.under n)
  | .cnd _ _ _ => false
def S.under (n : Nat) : S → Bool
  | .v x => x.under n
  | .tup _ => false
def Reg.under (n : Nat) : Reg → Bool
  | .box cs => cs.all (C.under n)
  | _ => true
def keepT (L : List Nat) (nh : Nat) : Nat → List S → (List S → Prop) → Prop
  | _, [], k => k []
  | i, s :: l, k => match inL L i with
    | true => tt (s.under nh) <| keepT L nh (i + 1) l fun l' => k (s :: l')
    | false => keepT L nh (i + 1) l fun l' => k (.junk :: l')
def allBelow (nh : Nat) : List Reg → Prop → Prop
  | [], p => p
  | r :: l, p => tt (r.under nh) (allBelow nh l p)
/-- nothing yet, seen as a row of one's own, or as one that is only read -/
def bornK : List (Nat × Bool) → St → (St → Prop) → Prop
  | [], σ, k => k σ
  | (i, o) :: E, σ, k => nthK σ.t i fun
    | .v (.c (.emp sz)) => match o with
      | true => tt (Nat.ble 1 sz) <| lenK σ.hp 0 fun n => appK σ.hp [.row sz []] fun hp => setK σ.t i (.one (.own n)) fun t => bornK E ⟨t, hp⟩ k
      | false => setK σ.t i (.one (.d (.sl sz []))) fun t => bornK E ⟨t, σ.hp⟩ k
    | _ => False
def St.keepK (σ : St) (L : List Nat) (nh : Nat) (k : St → Prop) : Prop :=
  keepT L nh 0 σ.t fun t => takeK σ.hp nh fun hp => allBelow nh hp (k ⟨t, hp⟩)

inductive Ex where
  | normal | exit (id : Nat) | ret

/-- the first region of a piece of code; whether what is known is told anew ahead of it -/
def firstR : Code → Option Nat
  | .region id _ _ => some id
  | .seq a _ => firstR a
  | .block _ a => firstR a
  | .scope a => firstR a
  | .loop a => firstR a
  | _ => none
def cutAt (Γ : Cx) (b : Code) : Bool := match firstR b with
  | some i => Γ.cut i
  | none => false
def vcCode (Γ : Cx) : Code → St → (Ex → St → Prop) → Prop
  | .skip, σ, K => K .normal σ
  | .region _ ops false, σ, K => vcOps Γ ops ops.toList σ (K .normal)
  | .region id ops true, σ, K => runPlan Γ ops (Γ.plan id).2 [] σ (K .normal)
  | .seq a b, σ, K => match cutAt Γ b with
    | false => vcCode Γ a σ fun
      | .normal, σ => vcCode Γ b σ K
      | e, σ => K e σ
    | true => ∃ (L : List Nat) (nh : Nat) (I : St → Prop), vcCode Γ a σ (fun
      | .normal, σ => σ.keepK L nh I
      | e, σ => K e σ) ∧ ∀ σ, I σ → vcCode Γ b σ K
  | .cond c a b, σ, K => operand Γ.ty 0 none σ.t c fun
    | .v (.c (.d (.bool t))) => (t = true → vcCode Γ a σ K) ∧ (t = false → vcCode Γ b σ K)
    | _ => False
  | .block id a, σ, K => vcCode Γ a σ fun
    | .exit j, σ => match j == id with
      | true => K .normal σ
      | false => K (.exit j) σ
    | e, σ => K e σ
  | .exit id, σ, K => K (.exit id) σ
  | .ret, σ, K => K .ret σ
  | .scope a, σ, K => vcCode Γ a σ K
  | .loop a, σ, K => ∃ (E : List (Nat × Bool)) (L : List Nat) (nh : Nat) (I : Nat → St → Prop), (∃ n, bornK E σ fun σ => σ.keepK L nh (I n)) ∧ ∀ n σ, I n σ → vcCode Γ a σ fun
    | .normal, σ => ∃ m, m < n ∧ σ.keepK L nh (I m)
    | e, σ => K e σ
  | _, _, _ => False

def resK (Γ : Cx) (t : List S) (hp : List Reg) : List ResultVar → (List V1 → Prop) → Prop
  | [], k => k []
  | .tmp i :: rs, k => nthK t i fun
    | .v x => resK Γ t hp rs fun l => k (x :: l)
    | _ => False
  | .cell a T :: rs, k => nthK t a fun p => loadK none (Γ.ty T) hp p fun
    | .v x => resK Γ t hp rs fun l => k (x :: l)
    | _ => False
def retK (Γ : Cx) (fn : Func) (σ : St) (k : S → List Reg → Prop) : Prop :=
  resK Γ σ.t σ.hp fn.results.toList fun
    | [x] => k (.v x) σ.hp
    | l => k (.tup l) σ.hp
def vcFn (Γ : Cx) (fn : Func) (ss : List S) (hp : List Reg) (k : S → List Reg → Prop) : Prop :=
  match fn.body with
  | none => False
  | some c => vcCode Γ c ⟨ss ++ List.replicate (fn.ntmps - ss.length) .junk, hp⟩ fun
    | .normal, σ | .ret, σ => retK Γ fn σ k
    | _, _ => False
end Go.Proofs.YtgpnmifejgdipaaDoorVX
