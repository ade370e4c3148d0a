/-
  VY: a reader of code that says what is left to prove: what is known of values and of memory, and what each operation makes of it. By the session's own hand.
-/
import GoSem.Core.Region
import GoSem.Core.World
import GoSem.Dispatch
import Derived.Laws.Entries
import Derived.RowKit
set_option linter.unusedSimpArgs false
set_option linter.unusedVariables false
set_option linter.all false
set_option linter.unnecessarySimpa false
set_option linter.deprecated false
namespace Go.Proofs.YtphmcgmblkbijaaVY

/-- What is read and never written here: numbers, texts, and rows of elements (of sz cells each). -/
inductive D where
  | int (k : IntKind) (n : Int)
  | bool (b : Bool)
  | str (s : ByteArray)
  | val (v : Value)
  | sl (sz : Nat) (L : List (List D))

/-- A captured variable: a box of one's own, or cells that are only read; or what was captured by value. -/
inductive Cap where
  | ptr (h : Nat)
  | pel (l : List D)
  | d (x : D)
  | emp (sz : Nat)
  | own (h : Nat)
  | fn0 (f : FuncId)
  | junk

/-- What is known of one cell's value. -/
inductive C where
  | d (x : D)
  | emp (sz : Nat)
  | own (h : Nat)
  | win (h sz lo n : Nat)
  | ptr (h off : Nat)
  | prow (h sz i j : Nat)
  | pel (l : List D)
  | fn (f : FuncId) (cs : List Cap)
  | nq (n : Nat)
  | town (h : Nat)
  | sub (h i : Nat)
  | junk

/-- A value: one cell, or several; or nothing but under a condition. -/
inductive V1 where
  | c (x : C)
  | ag (l : List C)
  | cnd (b w : Bool) (x : V1)
inductive S where
  | v (x : V1)
  | tup (l : List V1)

def Cap.toC : Cap → C
  | .ptr h => .ptr h 0
  | .pel l => .pel l
  | .d x => .d x
  | .emp sz => .emp sz
  | .own h => .own h
  | .fn0 f => .fn f []
  | .junk => .junk
/-- Memory of one's own: a box of cells; a row with room behind it; such a row whose last element is of cells that are known one by one; a row that is no longer written; a value that is remembered, and what it is known as; nothing. -/
inductive Reg where
  | box (cs : List C)
  | row (sz : Nat) (L : List (List D))
  | rowt (sz : Nat) (L : List (List D)) (cs : List C)
  | frz (sz : Nat) (L : List (List D))
  | mem (v : Value) (c : C)
  | mapd (M : List (Int × D))
  | mapr (sz : Nat) (M : List (Int × Option (List (List D))))
  | gone

structure St where
  t : List S
  hp : List Reg

abbrev S.one (x : C) : S := .v (.c x)
abbrev S.di (k : IntKind) (n : Int) : S := .v (.c (.d (.int k n)))
abbrev S.db (b : Bool) : S := .v (.c (.d (.bool b)))
abbrev S.junk : S := .v (.c .junk)

/-- Types: what is asked of them. -/
inductive TK where
  | sca (k : Option IntKind)
  | bool
  | str
  | agg (fs : List (Nat × Nat × Bool))
  | arr (len esz : Nat) (eagg : Bool)
  | sl (e : TypeId) (esz ebytes : Nat) (ezero : List D)
  | map (ez : C)
  | ptr
  | oth
structure TI where
  kd : TK
  size : Nat
  zero : List C

def C.ofV (T : TI) : Value → C
  | .slice none 0 0 => match T.kd with
    | .sl _ sz _ _ => .emp sz
    | _ => .junk
  | .int k n => .d (.int k n)
  | .bool b => .d (.bool b)
  | .string s => .d (.str s)
  | .pointer none => .d (.val (.pointer none))
  | .nilFunc => .d (.val .nilFunc)
  | .nilIface => .d (.val .nilIface)
  | _ => .junk

section lists
variable {α : Type}
def nthK : List α → Nat → (α → Prop) → Prop
  | [], _, _ => False
  | a :: _, 0, k => k a
  | _ :: l, n + 1, k => nthK l n k
def setK : List α → Nat → α → (List α → Prop) → Prop
  | [], _, _, _ => False
  | _ :: l, 0, x, k => k (x :: l)
  | a :: l, n + 1, x, k => setK l n x fun l' => k (a :: l')
def takeK : List α → Nat → (List α → Prop) → Prop
  | _, 0, k => k []
  | [], _ + 1, _ => False
  | a :: l, n + 1, k => takeK l n fun l' => k (a :: l')
def dropK : List α → Nat → (List α → Prop) → Prop
  | l, 0, k => k l
  | [], _ + 1, _ => False
  | _ :: l, n + 1, k => dropK l n k
def appK : List α → List α → (List α → Prop) → Prop
  | [], m, k => k m
  | a :: l, m, k => appK l m fun l' => k (a :: l')
/-- Several written from a place on. -/
def putsK : List α → Nat → List α → (List α → Prop) → Prop
  | l, _, [], k => k l
  | [], _, _ :: _, _ => False
  | _ :: l, 0, x :: xs, k => putsK l 0 xs fun l' => k (x :: l')
  | a :: l, n + 1, x :: xs, k => putsK l n (x :: xs) fun l' => k (a :: l')
def lenK : List α → Nat → (Nat → Prop) → Prop
  | [], n, k => k n
  | _ :: l, n, k => lenK l (n + 1) k
end lists

/-- a test that is decided by what is written in the code -/
def tt (b : Bool) (p : Prop) : Prop := match b with
  | true => p
  | false => False
/-- what must hold, where the operation is done at all -/
def ob (gd : Option (Bool × Bool)) (p q : Prop) : Prop := match gd with
  | none => p ∧ q
  | some (b, w) => (b = w → p) ∧ q
def strip (gd : Option (Bool × Bool)) (s : S) (k : S → Prop) : Prop := match s with
  | .v (.cnd b w x) => match gd with
    | some (b', w') => (b' = w' → b = w) ∧ k (.v x)
    | none => k (.v (.cnd b w x))
  | s => k s
/-- package-level tables that are only read, and what they hold -/
def globs : List (Nat × List D) := []
def findG : List (Nat × List D) → Nat → Option (List D)
  | [], _ => none
  | (n, l) :: G, g => match Nat.beq n g with
    | true => some l
    | false => findG G g
def operand (Γ : TypeId → TI) (T : TypeId) (gd : Option (Bool × Bool)) (t : List S) : Operand → (S → Prop) → Prop
  | .tmp i, k => nthK t i fun s => strip gd s k
  | .const v, k => k (.one (C.ofV (Γ T) v))
  | .func f, k => k (.one (.fn f []))
  | .global g, k => match findG globs g with
    | some l => k (.one (.pel l))
    | none => k .junk
def operands (Γ : TypeId → TI) (gd : Option (Bool × Bool)) (t : List S) : List Operand → List TypeId → (List S → Prop) → Prop
  | [], _, k => k []
  | x :: xs, [], k => operand Γ 0 gd t x fun s => operands Γ gd t xs [] fun l => k (s :: l)
  | x :: xs, T :: Ts, k => operand Γ T gd t x fun s => operands Γ gd t xs Ts fun l => k (s :: l)

/-- what is lent, or no longer written: a handle, and what it is then -/
abbrev Lt := List (Nat × Reg)
/-- What is read in one cell, as a plain datum: a row of one's own as what it holds; it is no longer written. -/
def viewK (hp : List Reg) (c : C) (k : D → Lt → Prop) : Prop := match c with
  | .d x => k x []
  | .emp sz => k (.sl sz []) []
  | .own h => nthK hp h fun
    | .row sz L => k (.sl sz L) [(h, .frz sz L)]
    | .frz sz L => k (.sl sz L) []
    | _ => False
  | .win h sz lo n => nthK hp h fun
    | .row sz' L => tt (Nat.beq sz sz') <| k (.sl sz ((L.drop lo).take n)) [(h, .frz sz L)]
    | _ => False
  | _ => False
def viewsK (hp : List Reg) : List C → (List D → Lt → Prop) → Prop
  | [], k => k [] []
  | c :: cs, k => viewK hp c fun x l => viewsK hp cs fun xs l' => appK l l' fun m => k (x :: xs) m
def inL : List Nat → Nat → Bool
  | [], _ => false
  | x :: l, n => match Nat.beq x n with
    | true => true
    | false => inL l n
/-- a handle is none of those -/
def notL (h : Nat) : Lt → Bool
  | [] => true
  | (x, _) :: l => match Nat.beq x h with
    | true => false
    | false => notL h l

/-- A row's moved away: nobody else knows it. -/
def Cap.lose (h : Nat) : Cap → Cap
  | .own h' => bif h == h' then .junk else .own h'
  | .ptr x => .ptr x
  | .pel l => .pel l
  | .d x => .d x
  | .emp s => .emp s
  | .fn0 f => .fn0 f
  | .junk => .junk
def C.lose (h : Nat) : C → C
  | .own h' => bif h == h' then .junk else .own h'
  | .win h' a b c => bif h == h' then .junk else .win h' a b c
  | .prow h' a b c => bif h == h' then .junk else .prow h' a b c
  | .d x => .d x
  | .emp s => .emp s
  | .ptr a b => .ptr a b
  | .pel l => .pel l
  | .fn f cs => .fn f (cs.map (Cap.lose h))
  | .nq n => .nq n
  | .town x => .town x
  | .sub h' i => bif h == h' then .junk else .sub h' i
  | .junk => .junk
def S.lose (h : Nat) : S → S
  | .v (.c x) => .v (.c (x.lose h))
  | .v (.ag l) => .v (.ag (l.map (C.lose h)))
  | _ => .junk
def Reg.lose (h : Nat) : Reg → Reg
  | .box cs => .box (cs.map (C.lose h))
  | .rowt s L cs => .rowt s L (cs.map (C.lose h))
  | .row s L => .row s L
  | .frz s L => .frz s L
  | .mem v c => .mem v (c.lose h)
  | .mapd M => .mapd M
  | .mapr sz M => .mapr sz M
  | .gone => .gone
def loseCaps (h : Nat) : List Cap → (List Cap → Prop) → Prop
  | [], k => k []
  | .own h' :: l, k => match h == h' with
    | true => loseCaps h l fun l' => k (.junk :: l')
    | false => loseCaps h l fun l' => k (.own h' :: l')
  | c :: l, k => loseCaps h l fun l' => k (c :: l')
def loseCs (h : Nat) : List C → (List C → Prop) → Prop
  | [], k => k []
  | .own h' :: l, k => match h == h' with
    | true => loseCs h l fun l' => k (.junk :: l')
    | false => loseCs h l fun l' => k (.own h' :: l')
  | .win h' a b c :: l, k => match h == h' with
    | true => loseCs h l fun l' => k (.junk :: l')
    | false => loseCs h l fun l' => k (.win h' a b c :: l')
  | .prow h' a b c :: l, k => match h == h' with
    | true => loseCs h l fun l' => k (.junk :: l')
    | false => loseCs h l fun l' => k (.prow h' a b c :: l')
  | .fn f cs :: l, k => loseCaps h cs fun cs' => loseCs h l fun l' => k (.fn f cs' :: l')
  | .sub h' i :: l, k => match h == h' with
    | true => loseCs h l fun l' => k (.junk :: l')
    | false => loseCs h l fun l' => k (.sub h' i :: l')
  | c :: l, k => loseCs h l fun l' => k (c :: l')
def loseSs (h : Nat) : List S → (List S → Prop) → Prop
  | [], k => k []
  | .v (.c x) :: l, k => loseCs h [x] fun
    | [y] => loseSs h l fun l' => k (.v (.c y) :: l')
    | _ => False
  | .v (.ag cs) :: l, k => loseCs h cs fun cs' => loseSs h l fun l' => k (.v (.ag cs') :: l')
  | _ :: l, k => loseSs h l fun l' => k (.junk :: l')
def loseRs (h : Nat) : List Reg → (List Reg → Prop) → Prop
  | [], k => k []
  | .box cs :: l, k => loseCs h cs fun cs' => loseRs h l fun l' => k (.box cs' :: l')
  | .rowt s L cs :: l, k => loseCs h cs fun cs' => loseRs h l fun l' => k (.rowt s L cs' :: l')
  | .mem v c :: l, k => loseCs h [c] fun
    | [c'] => loseRs h l fun l' => k (.mem v c' :: l')
    | _ => False
  | r :: l, k => loseRs h l fun l' => k (r :: l')

/-- handles told otherwise: those from n on are counted from m on, those below stand in a list -/
def bkH (hs : List Nat) (n m : Nat) (j : Nat) : Option Nat := match hs[j]? with
  | some h => some h
  | none => match Nat.ble n j with
    | true => some (m + (j - n))
    | false => none
def Cap.back (f : Nat → Option Nat) : Cap → Cap
  | .ptr h => match f h with
    | some h => .ptr h
    | none => .junk
  | .own h => match f h with
    | some h => .own h
    | none => .junk
  | .pel l => .pel l
  | .d x => .d x
  | .emp s => .emp s
  | .fn0 f => .fn0 f
  | .junk => .junk
def C.back (f : Nat → Option Nat) : C → C
  | .own h => match f h with
    | some h => .own h
    | none => .junk
  | .win h a b c => match f h with
    | some h => .win h a b c
    | none => .junk
  | .prow h a b c => match f h with
    | some h => .prow h a b c
    | none => .junk
  | .ptr h o => match f h with
    | some h => .ptr h o
    | none => .junk
  | .fn g cs => .fn g (cs.map (Cap.back f))
  | .town h => match f h with
    | some h => .town h
    | none => .junk
  | .sub h i => match f h with
    | some h => .sub h i
    | none => .junk
  | .d x => .d x
  | .emp s => .emp s
  | .pel l => .pel l
  | .nq n => .nq n
  | .junk => .junk
def V1.back (f : Nat → Option Nat) : V1 → V1
  | .c x => .c (x.back f)
  | .ag l => .ag (l.map (C.back f))
  | .cnd b w x => .cnd b w (x.back f)
def S.back (f : Nat → Option Nat) : S → S
  | .v x => .v (x.back f)
  | .tup l => .tup (l.map (V1.back f))
def Reg.back (f : Nat → Option Nat) : Reg → Reg
  | .box cs => .box (cs.map (C.back f))
  | .rowt s L cs => .rowt s L (cs.map (C.back f))
  | .row s L => .row s L
  | .frz s L => .frz s L
  | .mem v c => .mem v (c.back f)
  | .mapd M => .mapd M
  | .mapr sz M => .mapr sz M
  | .gone => .gone

/-- What an operation leaves: a value; memory written anew; memory made; the row that was moved. -/
abbrev EffK := S → List (Nat × Reg) → List Reg → Option Nat → Prop
def updsK : List (Nat × Reg) → List Reg → (List Reg → Prop) → Prop
  | [], hp, k => k hp
  | (h, r) :: us, hp, k => setK hp h r fun hp' => updsK us hp' k
def putD (t : List S) (hp : List Reg) (dst : Option Tmp) (s : S) (k : St → Prop) : Prop := match dst with
  | none => k ⟨t, hp⟩
  | some d => setK t d s fun t => k ⟨t, hp⟩
def St.apply (σ : St) (dst : Option Tmp) (s : S) (upd : List (Nat × Reg)) (new : List Reg) (inv : Option Nat) (k : St → Prop) : Prop :=
  (match inv with
    | none => fun (k : List S → List Reg → Prop) => k σ.t σ.hp
    | some h => fun k => loseSs h σ.t fun t => loseRs h σ.hp fun hp => k t hp) fun t hp =>
  updsK upd hp fun hp => appK hp new fun hp => putD t hp dst s k

/-- An order in which operations are read that stand for all orders: those that look as soon as they may, of the others each that may be next. -/
inductive Plan where
  | done
  | stop
  | look (i : Nat) (p : Plan)
  | act (i : Nat) (us : List Nat) (p q : Plan)
structure Cx where
  ty : TypeId → TI
  nw : Bool := true
  fns : FuncId → Option (List S → List Reg → S → List Reg → Prop)
  plan : Nat → List (List Nat) × Plan := fun _ => ([], .done)
  cut : Nat → Bool := fun _ => false

def sameK : IntKind → IntKind → Bool
  | .i8, .i8 | .i16, .i16 | .i32, .i32 | .i64, .i64 | .u8, .u8 | .u16, .u16 | .u32, .u32 | .u64, .u64 => true
  | _, _ => false
/-- a sum: within its kind, or wrapped -/
def sumK (nw : Bool) (gd : Option (Bool × Bool)) (k : IntKind) (n : Int) (c : S → Prop) : Prop :=
  match nw, k with
  | true, .i64 => ob gd (-9223372036854775808 ≤ n ∧ n ≤ 9223372036854775807) (c (.di .i64 n))
  | false, .i64 => c (.di .i64 (RowKit.wrap64 n))
  | _, k => c (.di k (k.wrap n))
def binI (nw : Bool) (gd : Option (Bool × Bool)) (op : BinOp) (k : IntKind) (x y : Int) (c : S → Prop) : Prop :=
  match op with
  | .add => sumK nw gd k (x + y) c
  | .sub => sumK nw gd k (x - y) c
  | .mul => sumK nw gd k (x * y) c
  | .quo => ob gd (y ≠ 0) (sumK nw gd k (x.tdiv y) c)
  | .rem => ob gd (y ≠ 0) (c (.di k (x.tmod y)))
  | .and => c (.di k (Go.bits .and k x y))
  | .or => c (.di k (Go.bits .or k x y))
  | .xor => c (.di k (Go.bits .xor k x y))
  | .andNot => c (.di k (Go.bits .andNot k x y))
  | .eql => c (.db (x == y))
  | .neq => c (.db (x != y))
  | .lss => c (.db (x < y))
  | .leq => c (.db (x ≤ y))
  | .gtr => c (.db (x > y))
  | .geq => c (.db (x ≥ y))
  | .shl => ob gd (0 ≤ y) (c (.di k (k.wrap (x * 2 ^ min y.toNat k.bits))))
  | .shr => ob gd (0 ≤ y) (c (.di k (x / 2 ^ min y.toNat k.bits)))
def isShift : BinOp → Bool
  | .shl | .shr => true
  | _ => false
/-- what is not done at all: its guard is not met -/
def dead (gd : Option (Bool × Bool)) (p : Prop) : Prop := match gd with
  | none => False
  | some (b, w) => b = !w ∧ p
/-- a pointer against nil -/
def nilB (T : TI) (b : Bool) (op : BinOp) (c : S → Prop) : Prop := match T.kd, op with
  | .ptr, .eql => c (.db b)
  | .ptr, .neq => c (.db (!b))
  | _, _ => False
def bin (nw : Bool) (T : TI) (gd : Option (Bool × Bool)) (op : BinOp) (a b : S) (c : S → Prop) : Prop :=
  match a, b with
  | .v (.c (.d (.int k x))), .v (.c (.d (.int k' y))) =>
    match isShift op || sameK k k' with
    | false => False
    | true => binI nw gd op k x y c
  | .v (.c (.d (.bool x))), .v (.c (.d (.bool y))) =>
    match op, T.kd with
    | .eql, .bool => c (.db (x == y))
    | .neq, .bool => c (.db (!(x == y)))
    | _, _ => False
  | .v (.c (.d (.str x))), .v (.c (.d (.str y))) =>
    match op with
    | .eql => c (.db (x.toList == y.toList))
    | .neq => c (.db (!(x.toList == y.toList)))
    | _ => False
  | .v (.c (.ptr _ _)), .v (.c (.d (.val (.pointer none)))) => nilB T false op c
  | .v (.c (.pel _)), .v (.c (.d (.val (.pointer none)))) => nilB T false op c
  | .v (.c (.d (.val (.pointer none)))), .v (.c (.d (.val (.pointer none)))) => nilB T true op c
  | .v (.c .junk), _ => dead gd (c .junk)
  | _, .v (.c .junk) => dead gd (c .junk)
  | _, _ => False
def un (nw : Bool) (gd : Option (Bool × Bool)) (op : UnOp) (a : S) (c : S → Prop) : Prop :=
  match op, a with
  | _, .v (.c .junk) => dead gd (c .junk)
  | .neg, .v (.c (.d (.int k x))) => sumK nw gd k (-x) c
  | .not, .v (.c (.d (.bool x))) => c (.db (!x))
  | _, _ => False

def dsK : List D → (List C → Prop) → Prop
  | [], k => k []
  | x :: l, k => dsK l fun l' => k (.d x :: l')
def isAg : TK → Bool
  | .agg _ | .arr _ _ _ => true
  | _ => false
def isStr : TK → Bool
  | .str => true
  | _ => false
def told : TK → Bool
  | .oth => false
  | _ => true
/-- the value of a type, out of cells that begin at its place -/
def partK (ag : Bool) (size : Nat) (cs : List C) (k : S → Prop) : Prop :=
  match ag with
  | true => takeK cs size fun l => k (.v (.ag l))
  | false => match cs with
    | c :: _ => k (.one c)
    | [] => False
def loadK (gd : Option (Bool × Bool)) (T : TI) (hp : List Reg) (a : S) (k : S → Prop) : Prop :=
  tt (told T.kd) <| match a with
  | .v (.c (.ptr h off)) => nthK hp h fun
    | .box cs => dropK cs off fun cs => partK (isAg T.kd) T.size cs k
    | _ => False
  | .v (.c (.pel l)) => dsK l fun cs => partK (isAg T.kd) T.size cs k
  | .v (.c (.prow h sz i j)) => nthK hp h fun
    | .row sz' L => tt (Nat.beq sz sz') <| ∃ e, ob gd (L[i]? = some e) (dropK e j fun l => dsK l fun cs => partK (isAg T.kd) T.size cs k)
    | .rowt sz' L cs => tt (Nat.beq sz sz') <| ob gd (i = L.length) (dropK cs j fun cs => partK (isAg T.kd) T.size cs k)
    | _ => False
  | .v (.c .junk) => dead gd (k .junk)
  | _ => False

/-- parts put into their places -/
def fillK (fs : List (Nat × Nat × Bool)) : List C → List (Nat × S) → (List C → Prop) → Prop
  | l, [], k => k l
  | l, (j, x) :: ps, k => nthK fs j fun (o, n, _) => match x with
    | .v (.ag xs) => tt (Nat.beq xs.length n) <| putsK l o xs fun l => fillK fs l ps k
    | .v (.c c) => tt (Nat.beq n 1) <| match c with
      | .junk => False
      | c => putsK l o [c] fun l => fillK fs l ps k
    | _ => False
/-- the places of a row's elements, and their zeros -/
def slotsOf (esz : Nat) : Nat → Nat → List (Nat × Nat × Bool)
  | 0, _ => []
  | n + 1, o => (o, esz, false) :: slotsOf esz n (o + esz)
def zerosOf (ez : List D) : Nat → List C
  | 0 => []
  | n + 1 => ez.map .d ++ zerosOf ez n
/-- cells, cut into elements -/
def chunkK (sz : Nat) : Nat → List D → (List (List D) → Prop) → Prop
  | 0, _, k => k []
  | n + 1, l, k => takeK l sz fun e => dropK l sz fun l => chunkK sz n l fun L => k (e :: L)
def partsK (Γ : TypeId → TI) (T : Nat → TypeId) (gd : Option (Bool × Bool)) (t : List S) : List (Nat × Operand) → (List (Nat × S) → Prop) → Prop
  | [], k => k []
  | (j, x) :: ps, k => operand Γ (T j) gd t x fun s => partsK Γ T gd t ps fun l => k ((j, s) :: l)
def capK (s : S) (k : Cap → Prop) : Prop := match s with
  | .v (.c (.ptr h 0)) => k (.ptr h)
  | .v (.c (.pel l)) => k (.pel l)
  | .v (.c (.d x)) => k (.d x)
  | .v (.c (.emp sz)) => k (.emp sz)
  | .v (.c (.own h)) => k (.own h)
  | .v (.c (.fn f [])) => k (.fn0 f)
  | _ => False
def capsK (Γ : TypeId → TI) (gd : Option (Bool × Bool)) (t : List S) : List Operand → (List Cap → Prop) → Prop
  | [], k => k []
  | x :: xs, k => operand Γ 0 gd t x fun s => capK s fun c => capsK Γ gd t xs fun l => k (c :: l)

/-- how many elements a row has, and which, as it is read -/
def rowK (hp : List Reg) (c : C) (k : Nat → List (List D) → Prop) : Prop := match c with
  | .d (.sl sz L) => k sz L
  | .emp sz => k sz []
  | .own h => nthK hp h fun
    | .row sz L => k sz L
    | .frz sz L => k sz L
    | _ => False
  | .win h sz lo n => nthK hp h fun
    | .row sz' L => tt (Nat.beq sz sz') <| k sz ((L.drop lo).take n)
    | _ => False
  | _ => False

/-- how many elements a row has -/
def longK (hp : List Reg) (c : C) (k : Int → Prop) : Prop := match c with
  | .own h => nthK hp h fun
    | .row _ L => k L.length
    | .frz _ L => k L.length
    | .rowt _ L _ => k ((L.length : Int) + 1)
    | _ => False
  | .sub h i => nthK hp h fun
    | .mapr _ M => ∃ key L, M[i]? = some (key, some L) ∧ k L.length
    | _ => False
  | c => rowK hp c fun _ L => k L.length

/-- s[l:h], l and h known -/
def cutK (gd : Option (Bool × Bool)) (hp : List Reg) (c : C) (l h : Int) (k : S → Prop) : Prop := match c with
  | .d (.sl sz L) => ob gd (0 ≤ l ∧ l ≤ h ∧ h ≤ L.length) (k (.one (.d (.sl sz ((L.take h.toNat).drop l.toNat)))))
  | .own r => nthK hp r fun
    | .row sz L => ob gd (0 ≤ l ∧ l ≤ h ∧ h ≤ L.length) (k (.one (.win r sz l.toNat (h.toNat - l.toNat))))
    | .frz sz L => ob gd (0 ≤ l ∧ l ≤ h ∧ h ≤ L.length) (k (.one (.d (.sl sz ((L.take h.toNat).drop l.toNat)))))
    | _ => False
  | .win r sz lo n => ob gd (0 ≤ l ∧ l ≤ h ∧ h ≤ n) (k (.one (.win r sz (lo + l.toNat) (h.toNat - l.toNat))))
  | .emp sz => ob gd (l = 0 ∧ h = 0) (k (.one (.emp sz)))
  | _ => False

/-- a bound, or what stands for none -/
def optK (Γ : TypeId → TI) (gd : Option (Bool × Bool)) (t : List S) (x : Option Operand) (n : Int) (k : Int → Prop) : Prop := match x with
  | none => k n
  | some x => operand Γ 0 gd t x fun
    | .v (.c (.d (.int _ n))) => k n
    | _ => False

def isNil (x : Operand) : Bool := match x with
  | .const (.slice none 0 0) => true
  | _ => false
def isSl : TK → Bool
  | .sl _ _ _ _ => true
  | _ => false
def isEql : BinOp → Bool
  | .eql => true
  | _ => false
/-- a map's handle -/
def mapH (c : C) (k : Nat → Prop) : Prop := match c with
  | .own h | .town h => k h
  | _ => False
/-- Operations that only look. -/
def evP (Γ : Cx) (gd : Option (Bool × Bool)) (o : Oper) (t : List S) (hp : List Reg) (k : S → Prop) : Prop :=
  match o.op with
  | .move x | .assign x => operand Γ.ty o.type gd t x k
  | .pick c a b => operand Γ.ty o.type gd t c fun c => operand Γ.ty o.type none t a fun a => operand Γ.ty o.type none t b fun b =>
    match c, a, b with
    | .v (.c (.d (.bool c))), .v (.c (.d (.bool a))), .v (.c (.d (.bool b))) => k (.db (bif c then a else b))
    | .v (.c (.d (.bool c))), .v (.c (.d (.bool a))), .v (.cnd b' w (.c (.d (.bool b)))) => ob gd (c = false → b' = w) (k (.db (bif c then a else b)))
    | .v (.c (.d (.bool c))), .v (.cnd b' w (.c (.d (.bool a)))), .v (.c (.d (.bool b))) => ob gd (c = true → b' = w) (k (.db (bif c then a else b)))
    | .v (.c (.d (.bool c))), .v (.c .junk), .v (.c (.d (.bool b))) => ob gd (c = false) (k (.db b))
    | .v (.c (.d (.bool c))), .v (.c (.d (.bool a))), .v (.c .junk) => ob gd (c = true) (k (.db a))
    | _, _, _ => False
  | .load T a => operand Γ.ty T gd t a fun a => loadK gd (Γ.ty T) hp a k
  | .nilCheck x => operand Γ.ty o.type gd t x fun x => match x with
    | .v (.c (.ptr h o)) => k (.one (.ptr h o))
    | .v (.c (.pel l)) => k (.one (.pel l))
    | .v (.c (.d (.val (.pointer none)))) => dead gd (k .junk)
    | .v (.c .junk) => dead gd (k .junk)
    | _ => False
  | .binOp op T x y T' => match isNil y && isSl (Γ.ty T).kd && isEql op with
    | true => operand Γ.ty T gd t x fun x => match x with
      | .v (.c c) => rowK hp c fun _ L => k (.one (.nq L.length))
      | _ => False
    | false => operand Γ.ty T gd t x fun x => operand Γ.ty T' gd t y fun y => bin Γ.nw (Γ.ty T) gd op x y k
  | .unOp op T x => operand Γ.ty T gd t x fun x => un Γ.nw gd op x k
  | .convert src dst x => operand Γ.ty src gd t x fun x => match x, (Γ.ty dst).kd with
    | .v (.c (.d (.int _ n))), .sca (some jk) => tt (told (Γ.ty src).kd) <| sumK Γ.nw gd jk n k
    | .v (.c (.d (.str s))), .str => tt (told (Γ.ty src).kd) <| k (.one (.d (.str s)))
    | _, _ => False
  | .fieldAddr T x j => operand Γ.ty T gd t x fun x => match (Γ.ty T).kd with
    | .agg fs => nthK fs j fun (o, _, _) => match x with
      | .v (.c (.ptr h off)) => k (.one (.ptr h (off + o)))
      | .v (.c (.pel l)) => dropK l o fun l => k (.one (.pel l))
      | .v (.c (.prow h sz i j)) => k (.one (.prow h sz i (j + o)))
      | .v (.c .junk) => dead gd (k .junk)
      | _ => False
    | _ => False
  | .field T x j => operand Γ.ty T gd t x fun x => match (Γ.ty T).kd, x with
    | .agg fs, .v (.ag l) => nthK fs j fun (o, n, a) => dropK l o fun l => partK a n l k
    | _, _ => False
  | .indexAddr T x i => operand Γ.ty T gd t x fun x => operand Γ.ty 0 gd t i fun i => match i with
    | .v (.c (.d (.int _ i))) => match (Γ.ty T).kd, x with
      | .sl _ esz _ _, .v (.c (.d (.sl sz L))) => tt (Nat.beq esz sz) <| ∃ e, ob gd (0 ≤ i ∧ L[i.toNat]? = some e) (k (.one (.pel e)))
      | .sl _ esz _ _, .v (.c (.own h)) => nthK hp h fun
        | .row sz L => tt (Nat.beq esz sz) <| ob gd (0 ≤ i ∧ i.toNat < L.length) (k (.one (.prow h sz i.toNat 0)))
        | .rowt sz L _ => tt (Nat.beq esz sz) <| ob gd (0 ≤ i ∧ i.toNat < L.length + 1) (k (.one (.prow h sz i.toNat 0)))
        | .frz sz L => tt (Nat.beq esz sz) <| ∃ e, ob gd (0 ≤ i ∧ L[i.toNat]? = some e) (k (.one (.pel e)))
        | _ => False
      | .sl _ esz _ _, .v (.c (.win h sz lo n)) => nthK hp h fun
        | .row sz' _ => tt (Nat.beq esz sz && Nat.beq sz sz') <| ob gd (0 ≤ i ∧ i.toNat < n) (k (.one (.prow h sz (lo + i.toNat) 0)))
        | _ => False
      | .arr len esz _, .v (.c (.ptr h off)) => ob gd (0 ≤ i ∧ i < len) (k (.one (.ptr h (off + i.toNat * esz))))
      | .arr len esz _, .v (.c (.pel l)) => ob gd (0 ≤ i ∧ i < len) (dropK l (i.toNat * esz) fun l => k (.one (.pel l)))
      | .arr len esz _, .v (.c (.prow h sz i' j)) => ob gd (0 ≤ i ∧ i < len) (k (.one (.prow h sz i' (j + i.toNat * esz))))
      | _, _ => False
    | _ => False
  | .index T x i => operand Γ.ty T gd t x fun x => operand Γ.ty 0 gd t i fun i => match i, x with
    | .v (.c (.d (.int _ i))), .v (.c (.d (.str s))) => tt (isStr (Γ.ty T).kd) <| ∃ b, ob gd (0 ≤ i ∧ s[i.toNat]? = some b) (k (.di .u8 b.toNat))
    | _, _ => False
  | .slice T x lo hi mx => match mx with
    | none => operand Γ.ty T gd t x fun x => match (Γ.ty T).kd, x with
      | .sl _ esz _ _, .v (.c c) => rowK hp c fun sz L => tt (Nat.beq esz sz) <|
        optK Γ.ty gd t lo 0 fun l => optK Γ.ty gd t hi L.length fun h => cutK gd hp c l h k
      | _, _ => False
    | some mx => match lo, hi with
      | none, some hi => operand Γ.ty T gd t x fun x => match (Γ.ty T).kd, x with
        | .sl _ esz _ _, .v (.c c) => rowK hp c fun sz L => tt (Nat.beq esz sz) <|
          operand Γ.ty 0 gd t hi fun h => operand Γ.ty 0 gd t mx fun m => match h, m with
          | .v (.c (.d (.int _ h))), .v (.c (.d (.int _ m))) => ob gd (h = 0 ∧ m = 0) (k (.one (.emp sz)))
          | _, _ => False
        | _, _ => False
      | _, _ => False
  | .extract x j => operand Γ.ty o.type gd t x fun x => match x with
    | .tup vs => nthK vs j fun v => k (.v v)
    | _ => False
  | .makeFunc (.func f) first captured => match first.toList with
    | [] => capsK Γ.ty gd t captured.toList fun cs => k (.one (.fn f cs))
    | _ => False
  | .build T ps => match (Γ.ty T).kd with
    | .agg fs => partsK Γ.ty (fun _ => 0) gd t ps.toList fun ps => fillK fs (Γ.ty T).zero ps fun l => k (.v (.ag l))
    | .arr len esz _ => tt (Nat.ble 1 esz) <| partsK Γ.ty (fun _ => 0) gd t ps.toList fun ps => fillK (slotsOf esz len 0) (Γ.ty T).zero ps fun l => k (.v (.ag l))
    | _ => False
  | .call c => match c.callee with
    | .builtin .len => operands Γ.ty gd t c.args.toList c.argTypes.toList fun ss => match ss, c.argTypes.toList with
      | [.v (.c c)], [T] => match (Γ.ty T).kd, c with
        | .str, .d (.str s) => k (.di .i64 s.size)
        | .sl _ _ _ _, .junk => dead gd (k .junk)
        | .sl _ _ _ _, c => longK hp c fun n => k (.di .i64 n)
        | .map _, c => mapH c fun h => nthK hp h fun
          | .mapd M => k (.di .i64 M.length)
          | _ => False
        | _, _ => False
      | _, _ => False
    | .builtin .min => operands Γ.ty gd t c.args.toList c.argTypes.toList fun ss => match ss with
      | [.v (.c (.d (.int i x))), .v (.c (.d (.int _ y)))] => k (.di i (if y < x then y else x))
      | _ => False
    | .builtin .max => operands Γ.ty gd t c.args.toList c.argTypes.toList fun ss => match ss with
      | [.v (.c (.d (.int i x))), .v (.c (.d (.int _ y)))] => k (.di i (if y > x then y else x))
      | _ => False
    | _ => False
  | _ => False

def isLook : Op → Bool
  | .move _ | .assign _ | .pick _ _ _ | .load _ _ | .nilCheck _ | .binOp _ _ _ _ _ | .unOp _ _ _ | .convert _ _ _ | .fieldAddr _ _ _ | .field _ _ _
  | .indexAddr _ _ _ | .index _ _ _ | .slice _ _ _ _ _ | .extract _ _ | .makeFunc _ _ _ | .build _ _ => true
  | .call ⟨.builtin .len, _, _⟩ | .call ⟨.builtin .min, _, _⟩ | .call ⟨.builtin .max, _, _⟩ => true
  | _ => false

/-- the row that an append begins with -/
def baseK (hp : List Reg) (c : C) (k : Option Nat → Nat → List (List D) → Prop) : Prop := match c with
  | .emp sz => k none sz []
  | .own h => nthK hp h fun
    | .row sz L => k (some h) sz L
    | _ => False
  | .win h sz lo n => nthK hp h fun
    | .row sz' L => tt (Nat.beq sz sz') <| k (some h) sz ((L.drop lo).take n)
    | _ => False
  | _ => False

/-- where a handle stands among those that are given away -/
def posK (h : Nat) : List Nat → Nat → (Nat → Prop) → Prop → Prop
  | [], _, _, q => q
  | x :: l, n, k, q => match Nat.beq h x with
    | true => k n
    | false => posK h l (n + 1) k q
/-- what a callee sees of a cell as a datum; rows of one's own are lent -/
def seeC (hp : List Reg) (hs : List Nat) (c : C) (k : D → Lt → Prop) : Prop := match c with
  | .d x => k x []
  | .emp sz => k (.sl sz []) []
  | .own h => posK h hs 0 (fun _ => False) <| nthK hp h fun
    | .row sz L => k (.sl sz L) [(h, .frz sz L)]
    | .frz sz L => k (.sl sz L) []
    | _ => False
  | .win h sz lo n => posK h hs 0 (fun _ => False) <| nthK hp h fun
    | .row sz' L => tt (Nat.beq sz sz') <| k (.sl sz ((L.drop lo).take n)) [(h, .frz sz L)]
    | _ => False
  | _ => False
def seeCs (hp : List Reg) (hs : List Nat) : List C → (List D → Lt → Prop) → Prop
  | [], k => k [] []
  | c :: cs, k => seeC hp hs c fun x l => seeCs hp hs cs fun xs l' => appK l l' fun m => k (x :: xs) m
/-- the same, also of a row whose last element is known cell by cell -/
def seeD (hp : List Reg) (hs : List Nat) (c : C) (k : D → Lt → Prop) : Prop := match c with
  | .own h => posK h hs 0 (fun _ => False) <| nthK hp h fun
    | .row sz L => k (.sl sz L) [(h, .frz sz L)]
    | .frz sz L => k (.sl sz L) []
    | .rowt sz L cs => seeCs hp hs cs fun x l => tt (Nat.beq x.length sz) <| k (.sl sz (L ++ [x])) ((h, .rowt sz L cs) :: l)
    | _ => False
  | .d x => seeC hp hs (.d x) k
  | .emp sz => seeC hp hs (.emp sz) k
  | .win h sz lo n => seeC hp hs (.win h sz lo n) k
  | _ => False
def seeDs (hp : List Reg) (hs : List Nat) : List C → (List D → Lt → Prop) → Prop
  | [], k => k [] []
  | c :: cs, k => seeD hp hs c fun x l => seeDs hp hs cs fun xs l' => appK l l' fun m => k (x :: xs) m
def lendCap (hp : List Reg) (hs : List Nat) (em : Bool) (c : Cap) (k : Cap → Lt → Prop) : Prop := match c with
  | .ptr h => posK h hs 0 (fun i => k (.ptr i) []) <| nthK hp h fun
    | .box cs => seeDs hp hs cs fun xs l => k (.pel xs) ((h, .box cs) :: l)
    | _ => False
  | .own h => posK h hs 0 (fun i => k (.own i) []) <| seeD hp hs (.own h) fun x l => k (.d x) l
  | .emp sz => match em with
    | true => k (.emp sz) []
    | false => k (.d (.sl sz [])) []
  | .pel l => k (.pel l) []
  | .d x => k (.d x) []
  | .fn0 f => k (.fn0 f) []
  | .junk => k .junk []
def lendCaps (hp : List Reg) (hs : List Nat) (em : Bool) : List Cap → (List Cap → Lt → Prop) → Prop
  | [], k => k [] []
  | c :: cs, k => lendCap hp hs em c fun c' l => lendCaps hp hs em cs fun cs' l' => appK l l' fun m => k (c' :: cs') m
/-- what a callee is shown of a value: handles that are given with it, by their new numbers; all else to be read -/
def lendC (hp : List Reg) (hs : List Nat) (em : Bool) (c : C) (k : C → Lt → Prop) : Prop := match c with
  | .d x => k (.d x) []
  | .emp sz => match em with
    | true => k (.emp sz) []
    | false => k (.d (.sl sz [])) []
  | .pel l => k (.pel l) []
  | .fn f cs => lendCaps hp hs em cs fun cs' l => k (.fn f cs') l
  | .own h => posK h hs 0 (fun i => k (.own i) []) <| seeD hp hs (.own h) fun x l => k (.d x) l
  | .win h sz lo n => posK h hs 0 (fun i => k (.win i sz lo n) []) <| seeC hp hs (.win h sz lo n) fun x l => k (.d x) l
  | .ptr h off => posK h hs 0 (fun i => k (.ptr i off) []) <| nthK hp h fun
    | .box cs => dropK cs off fun cs' => seeDs hp hs cs' fun xs l => k (.pel xs) ((h, .box cs) :: l)
    | _ => False
  | .prow h sz a b => posK h hs 0 (fun i => k (.prow i sz a b) []) False
  | .town h => posK h hs 0 (fun i => k (.town i) []) False
  | .sub h j => posK h hs 0 (fun i => k (.sub i j) []) False
  | .junk => k .junk []
  | _ => False
def lendCs (hp : List Reg) (hs : List Nat) (em : Bool) : List C → (List C → Lt → Prop) → Prop
  | [], k => k [] []
  | c :: cs, k => lendC hp hs em c fun c' l => lendCs hp hs em cs fun cs' l' => appK l l' fun m => k (c' :: cs') m
def lendSs (hp : List Reg) (hs : List Nat) (em : Bool) : List S → (List S → Lt → Prop) → Prop
  | [], k => k [] []
  | .v (.c c) :: ss, k => lendC hp hs em c fun c' l => lendSs hp hs em ss fun ss' l' => appK l l' fun m => k (.v (.c c') :: ss') m
  | .v (.ag cs) :: ss, k => lendCs hp hs em cs fun cs' l => lendSs hp hs em ss fun ss' l' => appK l l' fun m => k (.v (.ag cs') :: ss') m
  | _, _ => False
/-- memory that is given away, and by which name it is known -/
def giveR (hp : List Reg) (hs : List Nat) (em : Bool) (i : Nat) (r : Reg) (k : Reg → C → Lt → Prop) : Prop := match r with
  | .row sz L => k (.row sz L) (.own i) []
  | .box cs => lendCs hp hs em cs fun cs' l => k (.box cs') (.ptr i 0) l
  | .rowt sz L cs => lendCs hp hs em cs fun cs' l => k (.rowt sz L cs') (.own i) l
  | .mapd M => k (.mapd M) (.own i) []
  | .mapr sz M => k (.mapr sz M) (.town i) []
  | _ => False
def giveK (hp : List Reg) (hs : List Nat) (em : Bool) : List Nat → Nat → (List Reg → List C → Lt → Prop) → Prop
  | [], _, k => k [] [] []
  | h :: l, i, k => nthK hp h fun r => giveR hp hs em i r fun r' c e => giveK hp hs em l (i + 1) fun rs cs e' => appK e e' fun m => k (r' :: rs) (c :: cs) m
/-- what is remembered of the handles that are given -/
def memK : List C → (List Reg → Prop) → Prop
  | [], k => k []
  | c :: cs, k => ∀ v : Value, memK cs fun l => k (.mem v c :: l)
/-- is what was remembered still so? -/
def lostK : List Nat → List Reg → List Reg → Option Nat → (Option Nat → Prop) → Prop
  | [], [], [], inv, k => k inv
  | h :: hs, .mem v c :: ms, .mem v' c' :: ms', inv, k => v' = v ∧ (match c, c' with
    | .own i, .own j => tt (Nat.beq i j) (lostK hs ms ms' inv k)
    | .ptr i 0, .ptr j 0 => tt (Nat.beq i j) (lostK hs ms ms' inv k)
    | .own _, .junk => match inv with
      | none => lostK hs ms ms' (some h) k
      | some _ => False
    | .town i, .town j => tt (Nat.beq i j) <| match inv with
      | none => lostK hs ms ms' (some h) k
      | some _ => False
    | _, _ => False)
  | _, _, _, _, _ => False
/-- a map that is given is still the same one -/
def mapsKept : List Reg → List Reg → Bool
  | .mapd _ :: rs, .mem _ .junk :: ms => false
  | _ :: rs, _ :: ms => mapsKept rs ms
  | _, _ => true
def distinct : List Nat → Bool
  | [] => true
  | x :: l => match inL l x with
    | true => false
    | false => distinct l
def zipU : List Nat → List Reg → List (Nat × Reg)
  | h :: hs, r :: rs => (h, r) :: zipU hs rs
  | _, _ => []
/-- no memory in it -/
def plainC : C → Bool
  | .d (.int _ _) | .d (.bool _) | .d (.str _) | .d (.val _) => true
  | _ => false
def plainV : V1 → Bool
  | .c c => plainC c
  | .ag l => l.all plainC
  | .cnd _ _ _ => false
def plainS : S → Bool
  | .v x => plainV x
  | .tup l => l.all plainV
/-- nothing in it that could lie in memory that is lent -/
def nslB : D → Bool
  | .sl _ _ => false
  | _ => true
def freeC : C → Bool
  | .d x => nslB x
  | .pel _ | .fn _ _ => false
  | _ => true
def freeV : V1 → Bool
  | .c c => freeC c
  | .ag l => l.all freeC
  | .cnd _ _ _ => false
def freeS : S → Bool
  | .v x => freeV x
  | .tup l => l.all freeV
def FreeR : Reg → Prop
  | .row _ L => ∀ e ∈ L, ∀ x ∈ e, nslB x = true
  | .box cs => cs.all freeC = true
  | .mem _ c => freeC c = true
  | .mapd M => ∀ p ∈ M, nslB p.2 = true
  | .mapr _ M => ∀ p ∈ M, ∀ L, p.2 = some L → ∀ e ∈ L, ∀ x ∈ e, nslB x = true
  | _ => False
def FreeRs : List Reg → Prop → Prop
  | [], p => p
  | r :: l, p => FreeR r ∧ FreeRs l p
def noBox : Lt → Bool
  | [] => true
  | (_, .frz _ _) :: l => noBox l
  | _ => false
/-- what is lent is no longer written, or nothing of it can be handed back -/
def lentK (lent : Lt) (fz : Bool) (r : S) (out : List Reg) (k : Lt → Prop) : Prop := match lent with
  | [] => k []
  | x :: l => match fz with
    | true => tt (noBox (x :: l)) <| k (x :: l)
    | false => tt (freeS r) <| FreeRs out <| k []

/-- an entry of a map, written -/
def putM {α : Type} : List (Int × α) → Int → α → List (Int × α)
  | [], k, x => [(k, x)]
  | (k', x') :: M, k, x => if k' = k then (k, x) :: M else (k', x') :: putM M k x
def nthO {α : Type} : List α → Nat → Option α
  | [], _ => none
  | x :: _, 0 => some x
  | _ :: l, i + 1 => nthO l i
/-- nothing is lost of it when a row is moved -/
def Cap.steady (h : Nat) : Cap → Bool
  | .own h' => match Nat.beq h h' with
    | true => false
    | false => true
  | _ => true
def C.steady (h : Nat) : C → Bool
  | .own h' | .win h' _ _ _ | .prow h' _ _ _ | .sub h' _ => match Nat.beq h h' with
    | true => false
    | false => true
  | .fn _ cs => cs.all (Cap.steady h)
  | _ => true
def allC (h : Nat) : List C → Bool
  | [] => true
  | c :: l => match c.steady h with
    | true => allC h l
    | false => false
def hasWin (h : Nat) : List S → Bool
  | [] => false
  | .v (.c (.win h' _ _ _)) :: t => match Nat.beq h' h with
    | true => true
    | false => hasWin h t
  | _ :: t => hasWin h t
/-- a row of one nil -/
def oneNil : Nat → List (Nat × Operand) → Bool
  | 1, [(0, x)] => isNil x
  | _, _ => false
/-- a row of one whose element stays known by its cells: of one nil, or (cuts [1000000]) of any one -/
def oneOr (lv : Bool) (n : Nat) (qs : List (Nat × Operand)) : Bool := match lv with
  | true => Nat.beq n 1
  | false => oneNil n qs
/-- is it a row with a last element of its own? -/
def isRowt (hp : List Reg) (c : C) : Bool := match c with
  | .own n => match nthO hp n with
    | some (.rowt _ _ _) => true
    | _ => false
  | _ => false
/-- the row that such an element is appended to -/
def baseT (hp : List Reg) (c : C) (k : Nat → Nat → List (List D) → Lt → Prop) : Prop := match c with
  | .own h => nthK hp h fun
    | .row sz L => k h sz L []
    | .rowt sz L cs => viewsK hp cs fun x fr => tt (notL h fr) <| tt (Nat.beq x.length sz) <| k h sz (L ++ [x]) fr
    | _ => False
  | _ => False
/-- Operations that write memory, make it, or call. -/
def evM (Γ : Cx) (gd : Option (Bool × Bool)) (o : Oper) (t : List S) (hp : List Reg) (k : EffK) : Prop :=
  match o.op with
  | .alloc T => tt (told (Γ.ty T).kd) <| lenK hp 0 fun n => k (.one (.ptr n 0)) [] [.box (Γ.ty T).zero] none
  | .box T x => operand Γ.ty T gd t x fun x => lenK hp 0 fun n => match x with
    | .v (.ag l) => k (.one (.ptr n 0)) [] [.box l] none
    | .v (.c .junk) => False
    | .v (.c c) => k (.one (.ptr n 0)) [] [.box [c]] none
    | _ => False
  | .store T a x => operand Γ.ty T gd t a fun a => operand Γ.ty T gd t x fun x => match a with
    | .v (.c (.ptr h off)) => nthK hp h fun
      | .box cs => match x with
        | .v (.ag l) => tt (told (Γ.ty T).kd && Nat.beq l.length (Γ.ty T).size && Nat.ble 1 (Γ.ty T).size) <| putsK cs off l fun cs => k .junk [(h, .box cs)] [] none
        | .v (.c .junk) => False
        | .v (.c c) => tt (told (Γ.ty T).kd && Nat.beq (Γ.ty T).size 1) <| putsK cs off [c] fun cs => k .junk [(h, .box cs)] [] none
        | _ => False
      | _ => False
    | .v (.c (.prow h sz' i j)) => nthK hp h fun
      | .row sz L => tt (Nat.beq sz' sz) <| ∃ e, ob gd (L[i]? = some e) (match x with
        | .v (.ag l) => viewsK hp l fun l fr => tt (notL h fr) <| tt (told (Γ.ty T).kd && Nat.beq l.length (Γ.ty T).size && Nat.ble 1 (Γ.ty T).size) <| putsK e j l fun e => appK fr [(h, .row sz (L.set i e))] fun us => k .junk us [] none
        | .v (.c c) => viewK hp c fun x fr => tt (notL h fr) <| tt (told (Γ.ty T).kd && Nat.beq (Γ.ty T).size 1) <| putsK e j [x] fun e => appK fr [(h, .row sz (L.set i e))] fun us => k .junk us [] none
        | _ => False)
      | .rowt sz L cs => tt (Nat.beq sz' sz) <| ob gd (i = L.length) (match x with
        | .v (.c .junk) => False
        | .v (.c c) => tt (told (Γ.ty T).kd && Nat.beq (Γ.ty T).size 1) <| putsK cs j [c] fun cs => k .junk [(h, .rowt sz L cs)] [] none
        | _ => False)
      | _ => False
    | _ => False
  | .makeMap T r => match r, (Γ.ty T).kd with
    | none, .map _ => lenK hp 0 fun n => k (.one (.own n)) [] [.mapd []] none
    | _, _ => False
  | .lookup T m x ok => match ok, (Γ.ty T).kd with
    | false, .map ez => operand Γ.ty T gd t m fun m => operand Γ.ty 0 gd t x fun x => match m, x with
      | .v (.c m), .v (.c (.d (.int .i64 key))) => mapH m fun h => nthK hp h fun
        | .mapd M => (∀ x, (key, x) ∈ M → k (.one (.d x)) [] [] none) ∧ ((∀ p ∈ M, p.1 ≠ key) → k (.one ez) [] [] none)
        | .mapr _ M => (∀ i r, M[i]? = some (key, r) → r ≠ none ∧ k (.one (.sub h i)) [] [] none) ∧ ((∀ p ∈ M, p.1 ≠ key) → k (.one ez) [] [] none)
        | _ => False
      | _, _ => False
    | _, _ => False
  | .mapUpdate T m x y => match (Γ.ty T).kd with
    | .map _ => operand Γ.ty T gd t m fun m => operand Γ.ty 0 gd t x fun x => operand Γ.ty 0 gd t y fun y => match m, x, y with
      | .v (.c m), .v (.c (.d (.int .i64 key))), .v (.c c) => mapH m fun h => nthK hp h fun
        | .mapd M => viewK hp c fun d fr => tt (notL h fr) <| appK fr [(h, .mapd (putM M key d))] fun us => k .junk us [] none
        | .mapr sz M => match c with
          | .own n => nthK hp n fun
            | .row sz' L => tt (Nat.beq sz sz') <| k .junk [(n, .gone), (h, .mapr sz (putM M key (some L)))] [] (some h)
            | _ => False
          | _ => False
        | _ => False
      | _, _, _ => False
    | _ => False
  | .makeSlice T l c => match (Γ.ty T).kd with
    | .sl _ esz eb ez => operand Γ.ty 0 gd t l fun l => operand Γ.ty 0 gd t c fun c => match l, c with
      | .v (.c (.d (.int _ l))), .v (.c (.d (.int _ c))) => tt (Nat.ble 1 esz && Nat.ble 1 eb) <| ob gd (0 ≤ l ∧ l ≤ c ∧ c * eb ≤ 281474976710656) <|
        lenK hp 0 fun n => k (.one (.own n)) [] [.row esz (List.replicate l.toNat ez)] none
      | _, _ => False
    | _ => False
  | .buildSlice T len qs => match (Γ.ty T).kd with
    | .sl e esz _ ez => tt (Nat.ble 1 esz && Nat.ble (len * esz) 16777216) <| partsK Γ.ty (fun _ => e) gd t qs.toList fun ps =>
      fillK (slotsOf esz len 0) (zerosOf ez len) ps fun cs => match oneOr (Γ.cut 1000000) len qs.toList with
        | true => lenK hp 0 fun n => k (.one (.own n)) [] [.rowt esz [] cs] none
        | false => viewsK hp cs fun l fr => chunkK esz len l fun L => match L with
          | [] => k (.one (.emp esz)) fr [] none
          | L => lenK hp 0 fun n => k (.one (.own n)) fr [.row esz L] none
    | _ => False
  | .call c => match c.callee with
    | .value x => operand Γ.ty 0 gd t x fun
      | .v (.c (.fn f caps)) => operands Γ.ty gd t c.args.toList c.argTypes.toList fun ss => match Γ.fns f with
        | none => False
        | some R => ∃ (hs : List Nat) (em fz : Bool), tt (distinct hs) <| lendSs hp hs em ss fun ss lent => lendCaps hp hs em caps fun caps lent2 => giveK hp hs em hs 0 fun regs cs lent3 => appK lent lent2 fun lent => appK lent lent3 fun lent =>
          memK cs fun mems => ∃ r out, R (ss ++ caps.map fun c => .one c.toC) (regs ++ mems) r out ∧ lenK hs 0 fun n => takeK out n fun outs => dropK out n fun rest => takeK rest n fun ms => dropK rest n fun new =>
          tt (mapsKept regs ms) <| lostK hs mems ms none fun inv => lentK lent fz r out fun fr => lenK hp 0 fun m =>
          k (r.back (bkH hs (n + n) m)) (fr ++ zipU hs (outs.map (Reg.back (bkH hs (n + n) m)))) (new.map (Reg.back (bkH hs (n + n) m))) inv
      | _ => False
    | .builtin .clear => operands Γ.ty gd t c.args.toList c.argTypes.toList fun ss => match ss, c.argTypes.toList with
      | [.v (.c (.win h sz lo n))], [T] => match (Γ.ty T).kd with
        | .sl _ esz _ ez => nthK hp h fun
          | .row sz' L => tt (Nat.beq sz sz' && Nat.beq esz sz) <| k .junk [(h, .row sz (L.take lo ++ List.replicate n ez ++ L.drop (lo + n)))] [] none
          | _ => False
        | _ => False
      | _, _ => False
    | .builtin .append => operands Γ.ty gd t c.args.toList c.argTypes.toList fun ss => match ss, c.argTypes.toList with
      | [.v (.c (.sub h i)), .v (.c b)], [T, T2] => match (Γ.ty T).kd, (Γ.ty T2).kd with
        | .sl _ esz eb _, .sl _ _ _ _ => nthK hp h fun
          | .mapr sz M => ∃ key L, ob gd (M[i]? = some (key, some L)) <| rowK hp b fun sz' X => tt (Nat.beq esz sz && Nat.beq esz sz' && Nat.ble 1 esz && Nat.ble 1 eb) <|
            ob gd ((L.length + X.length) * eb ≤ 140737488355328) <| lenK hp 0 fun n => k (.one (.own n)) [(h, .mapr sz (M.set i (key, none)))] [.row sz (L ++ X)] (some h)
          | _ => False
        | _, _ => False
      | [.v (.c a), .v (.c b)], [T, T2] => match (Γ.ty T).kd, (Γ.ty T2).kd with
        | .sl _ esz eb _, .sl _ _ _ _ => match isRowt hp b with
          | true => match b with
            | .own n => nthK hp n fun
              | .rowt sz' [] cs => baseT hp a fun h sz L fr => tt (Nat.beq esz sz && Nat.beq esz sz' && Nat.ble 1 esz && Nat.ble 1 eb && allC h cs && notL h [(n, .gone)]) <|
                ob gd ((L.length + 1) * eb ≤ 140737488355328) <| appK fr [(h, .rowt sz L cs)] fun us => k (.one (.own h)) us [] (some h)
              | _ => False
            | _ => False
          | false => baseK hp a fun h sz L => rowK hp b fun sz' M => tt (Nat.beq esz sz && Nat.beq esz sz' && Nat.ble 1 esz && Nat.ble 1 eb) <|
          ob gd ((L.length + M.length) * eb ≤ 140737488355328) <| match h with
            | none => lenK hp 0 fun n => k (.one (.own n)) [] [.row sz (L ++ M)] none
            | some h => k (.one (.own h)) [(h, .row sz (L ++ M))] [] (some h)
        | _, _ => False
      | _, _ => False
    | _ => False
  | _ => False

def mkCnd (b w : Bool) : S → S
  | .v (.c .junk) => .junk
  | .v x => .v (.cnd b w x)
  | .tup _ => .junk

/-- what a guard comes to: one's own value, or that of one that stood under a guard itself -/
def gdK (s : S) (w : Bool) (k : Bool → Bool → Prop) : Prop := match s with
  | .v (.c (.d (.bool b))) => k b w
  | .v (.cnd b' w' (.c (.d (.bool b)))) => k ((b' == w') && (b == w)) true
  | _ => False
/-- One operation that looks, under its guard. -/
def lookStep (Γ : Cx) (all : Array Oper) (o : Oper) (t : List S) (hp : List Reg) (k : S → Prop) : Prop :=
  match o.guard with
  | none => evP Γ none o t hp k
  | some (j, w) => match all[j]? with
    | some ⟨some g, _, _, _, _, _⟩ => nthK t g fun s => gdK s w fun b w => evP Γ (some (b, w)) o t hp fun s => k (mkCnd b w s)
    | _ => False
/-- One other operation, under its guard. -/
def actStep (Γ : Cx) (all : Array Oper) (o : Oper) (t : List S) (hp : List Reg) (k : EffK) : Prop :=
  match o.guard with
  | none => evM Γ none o t hp k
  | some (j, w) => match all[j]? with
    | some ⟨some g, _, _, _, _, _⟩ => nthK t g fun s => gdK s w fun b w => (b = w → evM Γ (some (b, w)) o t hp k) ∧ (b = !w → k .junk [] [] none)
    | _ => False
/-- windows of a row that something is appended to: they stay (b), or are data from now on: the row was moved -/
def rewinS (h sz : Nat) (L : List (List D)) (b : Bool) : S → S → S
  | .v (.c (.win h' sz' lo n)), s => match Nat.beq h' h && Nat.beq sz' sz with
    | true => match b with
      | true => .v (.c (.win h sz lo n))
      | false => .v (.c (.d (.sl sz ((L.drop lo).take n))))
    | false => s
  | _, s => s
def isDst : Option Tmp → Nat → Bool
  | some d, i => Nat.beq d i
  | none, _ => false
def rewinK (h sz : Nat) (L : List (List D)) (b : Bool) (dst : Option Tmp) : Nat → List S → List S → (List S → Prop) → Prop
  | i, s0 :: t0, s :: t, k => match isDst dst i with
    | true => rewinK h sz L b dst (i + 1) t0 t fun t' => k (s :: t')
    | false => rewinK h sz L b dst (i + 1) t0 t fun t' => k (rewinS h sz L b s0 s :: t')
  | _, _, t, k => k t
/-- an append, without a guard, to a row of one's own that is seen through windows -/
def winAt (o : Oper) (t : List S) (hp : List Reg) : Option (Nat × Nat × List (List D)) := match o.guard, o.op with
  | none, .call ⟨.builtin .append, args, _⟩ => match args.toList with
    | [.tmp i, _] => match nthO t i with
      | some (.v (.c (.own h))) => match hasWin h t with
        | true => match nthO hp h with
          | some (.row sz L) => some (h, sz, L)
          | _ => none
        | false => none
      | _ => none
    | _ => none
  | _, _ => none
/-- what is appended is no row with a last element of its own -/
def plainArg (t : List S) (hp : List Reg) (y : Operand) : Bool := match y with
  | .tmp j => match nthO t j with
    | some (.v (.c c)) => !isRowt hp c
    | _ => true
  | _ => true
def noRowt (o : Oper) (t : List S) (hp : List Reg) : Bool := match o.op with
  | .call ⟨.builtin .append, args, _⟩ => match args.toList with
    | [_, y] => plainArg t hp y
    | _ => true
  | _ => true
/-- Operations in the order of the text. -/
def vcOps (Γ : Cx) (all : Array Oper) : List Oper → St → (St → Prop) → Prop
  | [], σ, K => K σ
  | o :: os, σ, K =>
    match isLook o.op with
    | true => lookStep Γ all o σ.t σ.hp fun s => σ.apply o.dst s [] [] none (vcOps Γ all os · K)
    | false => match winAt o σ.t σ.hp with
      | none => actStep Γ all o σ.t σ.hp fun s upd new inv => σ.apply o.dst s upd new inv (vcOps Γ all os · K)
      | some (h, sz, L) => tt (noRowt o σ.t σ.hp) <| actStep Γ all o σ.t σ.hp fun s upd new inv => σ.apply o.dst s upd new inv fun σ' =>
        rewinK h sz L true o.dst 0 σ.t σ'.t (fun t => vcOps Γ all os ⟨t, σ'.hp⟩ K) ∧ rewinK h sz L false o.dst 0 σ.t σ'.t (fun t => vcOps Γ all os ⟨t, σ'.hp⟩ K)

/-- the handles at which the memory is looked, through a value -/
def Cap.hs : Cap → List Nat
  | .own h | .ptr h => [h]
  | _ => []
def C.hs : C → List Nat
  | .own h | .win h _ _ _ | .ptr h _ | .prow h _ _ _ | .town h | .sub h _ => [h]
  | _ => []
def V1.hs : V1 → List Nat
  | .c x => x.hs
  | .cnd _ _ x => x.hs
  | .ag _ => []
def S.hs : S → List Nat
  | .v x => x.hs
  | .tup _ => []
def S.steady (h : Nat) : S → Bool
  | .v (.c x) => x.steady h
  | .v (.ag l) => allC h l
  | _ => false
def Reg.steady (h : Nat) : Reg → Bool
  | .box cs => allC h cs
  | .rowt _ _ cs => allC h cs
  | .mem _ c => c.steady h
  | _ => true
def allSs (h : Nat) : List S → Bool
  | [] => true
  | s :: l => match s.steady h with
    | true => allSs h l
    | false => false
/-- what was looked at by an operation that could also have come later: handles and values -/
structure Fl where
  i : Nat
  hs : List Nat
  ss : List S
  bx : Bool
def regSteady (h : Nat) (hp : List Reg) (x : Nat) : Bool := match hp[x]? with
  | some r => r.steady h
  | none => true
def hsClear (bx : Bool) (hp : List Reg) (upd : List (Nat × Reg)) (inv : Option Nat) : List Nat → Bool
  | [] => true
  | x :: l => match inL (upd.map (·.1)) x with
    | true => false
    | false => match inv with
      | none => hsClear bx hp upd inv l
      | some h => match Nat.beq h x || !(bx || regSteady h hp x) with
        | true => false
        | false => hsClear bx hp upd inv l
def Fl.clear (hp : List Reg) (upd : List (Nat × Reg)) (inv : Option Nat) (e : Fl) : Bool := match hsClear e.bx hp upd inv e.hs with
  | true => match inv with
    | none => true
    | some h => allSs h e.ss
  | false => false
def clearK (us : List Nat) (hp : List Reg) (upd : List (Nat × Reg)) (inv : Option Nat) : List Fl → Bool
  | [] => true
  | e :: l => match inL us e.i with
    | true => match e.clear hp upd inv with
      | true => clearK us hp upd inv l
      | false => false
    | false => clearK us hp upd inv l
/-- slots that an operation reads -/
def seenT (x : Operand) : List Tmp := match x with
  | .tmp i => [i]
  | _ => []
def Oper.sees (o : Oper) : List Tmp := o.op.operands.toList.flatMap seenT
/-- the slot of an operation's guard -/
def guardT (all : Array Oper) (o : Oper) : List Tmp := match o.guard with
  | some (j, _) => match all[j]? with
    | some ⟨some g, _, _, _, _, _⟩ => [g]
    | _ => []
  | none => []
def vals (t : List S) : List Tmp → List S
  | [] => []
  | i :: l => match t[i]? with
    | some s => s :: vals t l
    | none => vals t l
def handles : List S → List Nat
  | [] => []
  | s :: l => s.hs ++ handles l
/-- operations that look at no memory -/
def noMem : Op → Bool
  | .move _ | .assign _ | .nilCheck _ | .fieldAddr _ _ _ => true
  | _ => false
def lookHs (o : Oper) (t : List S) : List Nat := match noMem o.op with
  | true => []
  | false => handles (vals t (Oper.sees o))
/-- a load out of a box, by its address in a slot, without a guard: other cells of the box may change -/
def isBoxLoad (o : Oper) (t : List S) : Bool := match o.guard, o.op with
  | none, .load _ (.tmp i) => match nthO t i with
    | some (.v (.c (.ptr _ _))) => true
    | _ => false
  | _, _ => false
def orStop : Plan → Prop → Prop → Prop
  | .stop, a, _ => a
  | _, a, b => a ∧ b
def runPlan (Γ : Cx) (all : Array Oper) : Plan → List Fl → St → (St → Prop) → Prop
  | .done, _, σ, K => K σ
  | .stop, _, _, _ => True
  | .look i p, lk, σ, K => match all[i]? with
    | some o => lookStep Γ all o σ.t σ.hp fun s => σ.apply o.dst s [] [] none fun σ' => runPlan Γ all p (⟨i, lookHs o σ.t, s :: (vals σ.t (guardT all o) ++ vals σ.t (Oper.sees o)), isBoxLoad o σ.t⟩ :: lk) σ' K
    | none => False
  | .act i us p q, lk, σ, K => orStop q (match all[i]? with
    | some o => actStep Γ all o σ.t σ.hp fun s upd new inv => tt (clearK us σ.hp upd inv lk) <| σ.apply o.dst s upd new inv (runPlan Γ all p lk · K)
    | none => False) (runPlan Γ all q lk σ K)

/-- what is known of these slots and handles, and of no others -/
def Cap.under (n : Nat) : Cap → Bool
  | .ptr h | .own h => Nat.blt h n
  | _ => true
def C.under (n : Nat) : C → Bool
  | .own h | .win h _ _ _ | .prow h _ _ _ | .ptr h _ | .town h | .sub h _ => Nat.blt h n
  | .fn _ cs => cs.all (Cap.under n)
  | _ => true
def V1.under (n : Nat) : V1 → Bool
  | .c x => x.under n
  | .ag l => l.all (C.under n)
  | .cnd _ _ _ => false
def S.under (n : Nat) : S → Bool
  | .v x => x.under n
  | .tup _ => false
def Reg.under (n : Nat) : Reg → Bool
  | .box cs => cs.all (C.under n)
  | .rowt _ _ cs => cs.all (C.under n)
  | .mem _ c => c.under n
  | _ => true
def keepT (L : List Nat) (nh : Nat) : Nat → List S → (List S → Prop) → Prop
  | _, [], k => k []
  | i, s :: l, k => match inL L i with
    | true => tt (s.under nh) <| keepT L nh (i + 1) l fun l' => k (s :: l')
    | false => keepT L nh (i + 1) l fun l' => k (.junk :: l')
def allBelow (nh : Nat) : List Reg → Prop → Prop
  | [], p => p
  | r :: l, p => tt (r.under nh) (allBelow nh l p)
/-- what may be told otherwise of a state: nothing yet in a slot, as a row of one's own or as one that is only read; nothing yet in a box, as a row of one's own; a part of a row, as the row -/
inductive Tell where
  | slot (i : Nat) (own : Bool)
  | cell (h i : Nat)
  | trim (i : Nat)
  | rows (i sz : Nat)
  | unrows (i : Nat)
  | take (i : Nat)
  | view (i : Nat)
  | forget (h : Nat)
  | freeze (h : Nat)
  | close (h : Nat)
  | ren (a b : Nat)
  | pad
/-- handle b told as a; a is forgotten -/
def renH (a b x : Nat) : Option Nat := match Nat.beq x a with
  | true => none
  | false => match Nat.beq x b with
    | true => some a
    | false => some x
def tellK : List Tell → St → (St → Prop) → Prop
  | [], σ, k => k σ
  | .pad :: E, σ, k => appK σ.hp [.row 1 []] fun hp => tellK E ⟨σ.t, hp⟩ k
  | .slot i o :: E, σ, k => nthK σ.t i fun
    | .v (.c (.emp sz)) => match o with
      | true => tt (Nat.ble 1 sz) <| lenK σ.hp 0 fun n => appK σ.hp [.row sz []] fun hp => setK σ.t i (.one (.own n)) fun t => tellK E ⟨t, hp⟩ k
      | false => setK σ.t i (.one (.d (.sl sz []))) fun t => tellK E ⟨t, σ.hp⟩ k
    | _ => False
  | .cell h i :: E, σ, k => nthK σ.hp h fun
    | .box cs => nthK cs i fun
      | .emp sz => tt (Nat.ble 1 sz) <| lenK σ.hp 0 fun n => setK cs i (.own n) fun cs => setK σ.hp h (.box cs) fun hp => appK hp [.row sz []] fun hp => tellK E ⟨σ.t, hp⟩ k
      | _ => False
    | _ => False
  | .trim i :: E, σ, k => nthK σ.t i fun
    | .v (.c (.win h sz lo n)) => nthK σ.hp h fun
      | .row sz' L => tt (Nat.beq sz sz') <| loseSs h σ.t fun t => loseRs h σ.hp fun hp => setK hp h (.row sz ((L.drop lo).take n)) fun hp => setK t i (.one (.own h)) fun t => tellK E ⟨t, hp⟩ k
      | _ => False
    | _ => False
  | .rows i sz :: E, σ, k => nthK σ.t i fun
    | .v (.c (.own h)) => nthK σ.hp h fun
      | .mapd [] => tt (Nat.ble 1 sz) <| loseSs h σ.t fun t => loseRs h σ.hp fun hp => setK hp h (.mapr sz []) fun hp => setK t i (.one (.town h)) fun t => tellK E ⟨t, hp⟩ k
      | _ => False
    | _ => False
  | .unrows i :: E, σ, k => nthK σ.t i fun
    | .v (.c (.town h)) => nthK σ.hp h fun
      | .mapr sz M => (∀ p ∈ M, p.2 ≠ none) ∧ (loseSs h σ.t fun t => loseRs h σ.hp fun hp => setK hp h (.mapd (M.map fun p => (p.1, .sl sz (p.2.getD [])))) fun hp => tellK E ⟨t, hp⟩ k)
      | _ => False
    | _ => False
  | .take i :: E, σ, k => nthK σ.t i fun
    | .v (.c (.sub h j)) => nthK σ.hp h fun
      | .mapr sz M => ∃ key L, M[j]? = some (key, some L) ∧ (loseSs h σ.t fun t => loseRs h σ.hp fun hp => setK hp h (.mapr sz (M.set j (key, none))) fun hp => lenK σ.hp 0 fun n => appK hp [.row sz L] fun hp => setK t i (.one (.own n)) fun t => tellK E ⟨t, hp⟩ k)
      | _ => False
    | _ => False
  | .view i :: E, σ, k => nthK σ.t i fun
    | .v (.c (.own h)) => nthK σ.hp h fun
      | .row sz L => setK σ.t i (.v (.c (.win h sz 0 L.length))) fun t => tellK E ⟨t, σ.hp⟩ k
      | _ => False
    | _ => False
  | .forget h :: E, σ, k => nthK σ.hp h fun
    | .mem v _ => setK σ.hp h (.mem v .junk) fun hp => tellK E ⟨σ.t, hp⟩ k
    | _ => False
  | .freeze h :: E, σ, k => nthK σ.hp h fun
    | .row sz L => setK σ.hp h (.frz sz L) fun hp => tellK E ⟨σ.t, hp⟩ k
    | _ => False
  | .close h :: E, σ, k => nthK σ.hp h fun
    | .rowt sz L cs => viewsK σ.hp cs fun x fr => tt (notL h fr) <| tt (Nat.beq x.length sz) <| updsK fr σ.hp fun hp => setK hp h (.row sz (L ++ [x])) fun hp => tellK E ⟨σ.t, hp⟩ k
    | _ => False
  | .ren a b :: E, σ, k => nthK σ.hp b fun r => tt (notL a [(b, .gone)]) <| setK (σ.hp.map (Reg.back (renH a b))) a (r.back (renH a b)) fun hp => setK hp b .gone fun hp => tellK E ⟨σ.t.map (S.back (renH a b)), hp⟩ k
def St.keepK (σ : St) (L : List Nat) (nh : Nat) (k : St → Prop) : Prop :=
  keepT L nh 0 σ.t fun t => takeK σ.hp nh fun hp => allBelow nh hp (k ⟨t, hp⟩)

inductive Ex where
  | normal | exit (id : Nat) | ret

/-- the first region of a piece of code; whether what is known is told anew ahead of it -/
def firstR : Code → Option Nat
  | .region id _ _ => some id
  | .seq a _ => firstR a
  | .block _ a => firstR a
  | .scope a => firstR a
  | .loop a => firstR a
  | _ => none
def cutAt (Γ : Cx) (b : Code) : Bool := match firstR b with
  | some i => Γ.cut i
  | none => false
def vcCode (Γ : Cx) : Code → St → (Ex → St → Prop) → Prop
  | .skip, σ, K => K .normal σ
  | .region _ ops false, σ, K => vcOps Γ ops ops.toList σ (K .normal)
  | .region id ops true, σ, K => runPlan Γ ops (Γ.plan id).2 [] σ (K .normal)
  | .seq a b, σ, K => match cutAt Γ b with
    | false => vcCode Γ a σ fun
      | .normal, σ => vcCode Γ b σ K
      | e, σ => K e σ
    | true => ∃ (E : List Tell) (L : List Nat) (nh : Nat) (I : St → Prop), vcCode Γ a σ (fun
      | .normal, σ => tellK E σ fun σ => σ.keepK L nh I
      | e, σ => K e σ) ∧ ∀ σ, I σ → vcCode Γ b σ K
  | .cond c a b, σ, K => operand Γ.ty 0 none σ.t c fun
    | .v (.c (.d (.bool t))) => (t = true → vcCode Γ a σ K) ∧ (t = false → vcCode Γ b σ K)
    | .v (.c (.nq n)) => (n = 0 → vcCode Γ a σ K) ∧ vcCode Γ b σ K
    | _ => False
  | .block id a, σ, K => vcCode Γ a σ fun
    | .exit j, σ => match j == id with
      | true => K .normal σ
      | false => K (.exit j) σ
    | e, σ => K e σ
  | .exit id, σ, K => K (.exit id) σ
  | .ret, σ, K => K .ret σ
  | .scope a, σ, K => vcCode Γ a σ K
  | .loop a, σ, K => ∃ (E : List Tell) (L : List Nat) (nh : Nat) (I : Nat → St → Prop), (∃ n, tellK E σ fun σ => σ.keepK L nh (I n)) ∧ ∀ n σ, I n σ → vcCode Γ a σ fun
    | .normal, σ => ∃ m, m < n ∧ ∃ E, tellK E σ fun σ => σ.keepK L nh (I m)
    | e, σ => K e σ
  | _, _, _ => False

def resK (Γ : Cx) (t : List S) (hp : List Reg) : List ResultVar → (List V1 → Prop) → Prop
  | [], k => k []
  | .tmp i :: rs, k => nthK t i fun
    | .v x => resK Γ t hp rs fun l => k (x :: l)
    | _ => False
  | .cell a T :: rs, k => nthK t a fun p => loadK none (Γ.ty T) hp p fun
    | .v x => resK Γ t hp rs fun l => k (x :: l)
    | _ => False
def retK (Γ : Cx) (fn : Func) (σ : St) (k : S → List Reg → Prop) : Prop :=
  resK Γ σ.t σ.hp fn.results.toList fun
    | [x] => k (.v x) σ.hp
    | l => k (.tup l) σ.hp
def vcFn (Γ : Cx) (fn : Func) (ss : List S) (hp : List Reg) (k : S → List Reg → Prop) : Prop :=
  match fn.body with
  | none => False
  | some c => vcCode Γ c ⟨ss ++ List.replicate (fn.ntmps - ss.length) .junk, hp⟩ fun
    | .normal, σ | .ret, σ => ∃ E, tellK E σ fun σ => retK Γ fn σ k
    | _, _ => False
end Go.Proofs.YtphmcgmblkbijaaVY
