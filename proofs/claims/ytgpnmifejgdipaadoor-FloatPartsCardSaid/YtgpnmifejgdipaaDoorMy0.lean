-- PRINTED by print.py (a twelfth state) out of the translation. Not trusted: Lean checks it.
import Derived.Test.YtgpnmifejgdipaaDoorProg
import Derived.Below
import Derived.Deep.Draws
import Derived.Deep.AppendLies
import Derived.Maps.AppendAt
import Derived.OwnWalk
import Derived.Laws.BytesArg
import Derived.Laws.MakeOwn
import Derived.Laws.OwnMore
import Derived.Deep.OwnRows
import Derived.Tactics
import Derived.Lib.ConvBytes
import Derived.Laws.Slices
import Derived.WalkKit
import Derived.KernelRfl
import Derived.RowKit3
import Derived.Deep.LoopGhost
import Derived.Deep.QuietTactic
import Derived.BigQuiet
import Derived.WideLaws
import Derived.Deep.DeepCutAuto
import Derived.Deep.CutBlock
import Derived.Deep.RegionHeld3
import Derived.Laws.Rows
import Derived.Lib.AppendStr
import Derived.ArgAppend
import Derived.Laws.IdiomCopy
import Derived.OrdersHeld
import Derived.Laws.BitsLemmas
import Derived.RowKit
import Derived.Laws.Externs
import Derived.Test.YtgpnmifejgdipaaDoorShelf
import Derived.Test.YtgpnmifejgdipaaDoorWoMore
namespace Go.Proofs.YtgpnmifejgdipaaDoor.My
open Go.RowKit Go.Proofs.YtgpnmifejgdipaaDoorW.PrintWords Go.Proofs.YtgpnmifejgdipaaDoorW.PrintLast Go.Proofs.YtgpnmifejgdipaaDoorW.PrintMore
attribute [local go_sem] max2_int min2_int max_two min_two max_three min_three max_four min_four   -- for this text's walks alone
set_option linter.unusedVariables false
set_option linter.unusedSimpArgs false



def errW : Option Int → Value
  | none => .nilIface
  | some c => .iface 0 (.int .i64 c)
theorem errW_none : errW none = .nilIface := rfl
theorem errW_some (c : Int) : errW (some c) = .iface 0 (.int .i64 c) := rfl

theorem info5 : (Tryd.prog.info? 5).map (fun i => (i.zero, i.size, i.bytes)) = some (some (.int .u8 0), 1, 1) := by kernel_rfl
-- the values' own types

/-- The sum of two words and a carry, and the carry out. -/
def addS (x y c : Int) : Int := ((x.toNat + y.toNat + c.toNat) % Extern.MathBitsCarry.m64 : Nat)
def addC (x y c : Int) : Int := ((x.toNat + y.toNat + c.toNat) / Extern.MathBitsCarry.m64 : Nat)
def subS (x y c : Int) : Int := ((x.toNat + Extern.MathBitsCarry.m64 - y.toNat - c.toNat) % Extern.MathBitsCarry.m64 : Nat)
def subB (x y c : Int) : Int := ((if x.toNat < y.toNat + c.toNat then 1 else 0 : Nat) : Int)
def subEntry : Array Value → Sem Value := fun args => do
  let (x, y, b) ← Extern.MathBitsCarry.three "Sub64" args
  pure (Extern.MathBitsCarry.pair ((x + Extern.MathBitsCarry.m64 - y - b) % Extern.MathBitsCarry.m64) (if x < y + b then 1 else 0))
theorem run_addS (x y c : Int) (h0 : 0 ≤ c) (hc : c ≤ 1) (w : World) :
    (callFunc 55 #[.int .u64 x, .int .u64 y, .int .u64 c]).run Tryd.prog w = .ok (.value (.tuple #[.int .u64 (addS x y c), .int .u64 (addC x y c)])) w := by
  rw [run_callFunc_extern (e := add64Entry) Tryd.func55 (by kernel_rfl) (by kernel_rfl) (by kernel_rfl) (by kernel_rfl)]
  have h : c = 0 ∨ c = 1 := by omega
  rcases h with rfl | rfl <;> rfl
theorem run_subS (x y c : Int) (h0 : 0 ≤ c) (hc : c ≤ 1) (w : World) :
    (callFunc 56 #[.int .u64 x, .int .u64 y, .int .u64 c]).run Tryd.prog w = .ok (.value (.tuple #[.int .u64 (subS x y c), .int .u64 (subB x y c)])) w := by
  rw [run_callFunc_extern (e := subEntry) Tryd.func56 (by kernel_rfl) (by kernel_rfl) (by kernel_rfl) (by kernel_rfl)]
  have h : c = 0 ∨ c = 1 := by omega
  rcases h with rfl | rfl <;> rfl

theorem fld45_0 (x0 : ByteArray) (x1 : Int) (A2 : Option Addr) (n2 c2 : Nat) (x3 : Int) (w : World) : (Instr.field 45 (.agg #[.string x0, .int .i64 x1, .slice A2 n2 c2, .int .i64 x3]) 0).run Tryd.prog w = .ok (.string x0) w := by kernel_rfl
end Go.Proofs.YtgpnmifejgdipaaDoor.My
