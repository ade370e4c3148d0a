/-
  No cell of these rows narrows 'for every input' (looked for: loops, veiled, ifaces, maps, wideKeys, modest, calm, conditions, laid).
  DERIVED. THE GIVEN ROWS OF THIS SEAT. 10 by the template 'for every input the law returns true; each argument reads behind the call as it read before'; 0 by the template 'total and deterministic' (their statements: YtgpnmifejgdipaaTotals.lean).
  GIVEN WITH THE SEED: the statements are not yours to turn. If you find one false, say at which input.
  Laid BY PROGRAM, IN A SANDBOX (cutbox-rows.mjs): the forced cells as the released guide's own fill.sh prints them over the translation 136505ec94448e52… (all of the seat's roots in one cut). By AI agents, Wed Nov 11 2026. No macro, syntax, notation, axiom, sorry.
-/
import Derived.Test.YtgpnmifejgdipaaChecked
import GoSem.Claim
import GoSem.ClaimJoined
import GoSem.ClaimMapViews
import Derived.JoinedTies
import Derived.KernelRfl
namespace Go.Proofs.Ytgpnmifejgdipaa
/- THE CELL 'sum', in the pinned program and in every row, IS THE sha256 OF THE DUMP (.gsa) THAT YtgpnmifejgdipaaProg.lean LOADS. Nothing in Lean hashes anything: it is a label: what it is worth is what the hold of that sum in a sandbox is worth. -/
noncomputable def Try.pinned : Pinned := { name := "ytgpnmifejgdipaa", sum := "136505ec94448e52a2b6b41a5f6c09605284a3ffdd9e4506be177744b25581dc", checked := Try.checked }
namespace Rows
def none {H : Type} : Left H := { results := [], args := [] }

/-- 'quadratlaw01.FloatSums': WHATEVER THE INPUT: true; the input reads as it did. -/
def floatSumsSpec : ChangeSpec := { name := "floatSums", fn := fun _ => fun
  | [d1, d2] => { results := [.lit (.bool true)], args := [d1, d2] }
  | _ => none }
def floatSumsRow : OpenClaim := { program := "ytgpnmifejgdipaa", sum := "136505ec94448e52a2b6b41a5f6c09605284a3ffdd9e4506be177744b25581dc", func := "quadrat/quadratlaw01.FloatSums", spec := "floatSums", inPlace := ["math/bits.Add64", "math/bits.Sub64"], apart := false }
def FloatSumsSaid : Prop := floatSumsRow.holds Try.pinned (OpenSpec.ofChange floatSumsSpec)

/-- ITS FALSE NEIGHBOUR: 'it returns false'. Refute it at one input. -/
def floatSumsWrong : ChangeSpec := { name := "floatSums", fn := fun _ => fun
  | [d1, d2] => { results := [.lit (.bool false)], args := [d1, d2] }
  | _ => none }
def FloatSumsWrongFalsely : Prop := floatSumsRow.holds Try.pinned (OpenSpec.ofChange floatSumsWrong)

/-- 'quadratlaw01.FloatMakes': WHATEVER THE INPUT: true; the input reads as it did. -/
def floatMakesSpec : ChangeSpec := { name := "floatMakes", fn := fun _ => fun
  | [d1, d2] => { results := [.lit (.bool true)], args := [d1, d2] }
  | _ => none }
def floatMakesRow : OpenClaim := { program := "ytgpnmifejgdipaa", sum := "136505ec94448e52a2b6b41a5f6c09605284a3ffdd9e4506be177744b25581dc", func := "quadrat/quadratlaw01.FloatMakes", spec := "floatMakes", inPlace := ["math/bits.Add64", "math/bits.Sub64"], apart := false }
def FloatMakesSaid : Prop := floatMakesRow.holds Try.pinned (OpenSpec.ofChange floatMakesSpec)

/-- ITS FALSE NEIGHBOUR: 'it returns false'. Refute it at one input. -/
def floatMakesWrong : ChangeSpec := { name := "floatMakes", fn := fun _ => fun
  | [d1, d2] => { results := [.lit (.bool false)], args := [d1, d2] }
  | _ => none }
def FloatMakesWrongFalsely : Prop := floatMakesRow.holds Try.pinned (OpenSpec.ofChange floatMakesWrong)

/-- 'quadratlaw01.FloatConverts': WHATEVER THE INPUT: true; the input reads as it did. -/
def floatConvertsSpec : ChangeSpec := { name := "floatConverts", fn := fun _ => fun
  | [d1, d2, d3] => { results := [.lit (.bool true)], args := [d1, d2, d3] }
  | _ => none }
def floatConvertsRow : OpenClaim := { program := "ytgpnmifejgdipaa", sum := "136505ec94448e52a2b6b41a5f6c09605284a3ffdd9e4506be177744b25581dc", func := "quadrat/quadratlaw01.FloatConverts", spec := "floatConverts", inPlace := ["math/bits.Add64", "math/bits.Sub64"], apart := false }
def FloatConvertsSaid : Prop := floatConvertsRow.holds Try.pinned (OpenSpec.ofChange floatConvertsSpec)

/-- ITS FALSE NEIGHBOUR: 'it returns false'. Refute it at one input. -/
def floatConvertsWrong : ChangeSpec := { name := "floatConverts", fn := fun _ => fun
  | [d1, d2, d3] => { results := [.lit (.bool false)], args := [d1, d2, d3] }
  | _ => none }
def FloatConvertsWrongFalsely : Prop := floatConvertsRow.holds Try.pinned (OpenSpec.ofChange floatConvertsWrong)

/-- 'quadratlaw01.FloatCompares': WHATEVER THE INPUT: true; the input reads as it did. -/
def floatComparesSpec : ChangeSpec := { name := "floatCompares", fn := fun _ => fun
  | [d1, d2, d3] => { results := [.lit (.bool true)], args := [d1, d2, d3] }
  | _ => none }
def floatComparesRow : OpenClaim := { program := "ytgpnmifejgdipaa", sum := "136505ec94448e52a2b6b41a5f6c09605284a3ffdd9e4506be177744b25581dc", func := "quadrat/quadratlaw01.FloatCompares", spec := "floatCompares", inPlace := ["math/bits.Add64", "math/bits.Sub64"], apart := false }
def FloatComparesSaid : Prop := floatComparesRow.holds Try.pinned (OpenSpec.ofChange floatComparesSpec)

/-- ITS FALSE NEIGHBOUR: 'it returns false'. Refute it at one input. -/
def floatComparesWrong : ChangeSpec := { name := "floatCompares", fn := fun _ => fun
  | [d1, d2, d3] => { results := [.lit (.bool false)], args := [d1, d2, d3] }
  | _ => none }
def FloatComparesWrongFalsely : Prop := floatComparesRow.holds Try.pinned (OpenSpec.ofChange floatComparesWrong)

/-- 'quadratlaw01.FloatNext': WHATEVER THE INPUT: true; the input reads as it did. -/
def floatNextSpec : ChangeSpec := { name := "floatNext", fn := fun _ => fun
  | [d1, d2] => { results := [.lit (.bool true)], args := [d1, d2] }
  | _ => none }
def floatNextRow : OpenClaim := { program := "ytgpnmifejgdipaa", sum := "136505ec94448e52a2b6b41a5f6c09605284a3ffdd9e4506be177744b25581dc", func := "quadrat/quadratlaw01.FloatNext", spec := "floatNext", inPlace := ["math/bits.Add64", "math/bits.Sub64"], apart := false }
def FloatNextSaid : Prop := floatNextRow.holds Try.pinned (OpenSpec.ofChange floatNextSpec)

/-- ITS FALSE NEIGHBOUR: 'it returns false'. Refute it at one input. -/
def floatNextWrong : ChangeSpec := { name := "floatNext", fn := fun _ => fun
  | [d1, d2] => { results := [.lit (.bool false)], args := [d1, d2] }
  | _ => none }
def FloatNextWrongFalsely : Prop := floatNextRow.holds Try.pinned (OpenSpec.ofChange floatNextWrong)

/-- 'quadratlaw01.FloatInts': WHATEVER THE INPUT: true; the input reads as it did. -/
def floatIntsSpec : ChangeSpec := { name := "floatInts", fn := fun _ => fun
  | [d1, d2, d3] => { results := [.lit (.bool true)], args := [d1, d2, d3] }
  | _ => none }
def floatIntsRow : OpenClaim := { program := "ytgpnmifejgdipaa", sum := "136505ec94448e52a2b6b41a5f6c09605284a3ffdd9e4506be177744b25581dc", func := "quadrat/quadratlaw01.FloatInts", spec := "floatInts", inPlace := ["math/bits.Add64", "math/bits.Sub64"], apart := false }
def FloatIntsSaid : Prop := floatIntsRow.holds Try.pinned (OpenSpec.ofChange floatIntsSpec)

/-- ITS FALSE NEIGHBOUR: 'it returns false'. Refute it at one input. -/
def floatIntsWrong : ChangeSpec := { name := "floatInts", fn := fun _ => fun
  | [d1, d2, d3] => { results := [.lit (.bool false)], args := [d1, d2, d3] }
  | _ => none }
def FloatIntsWrongFalsely : Prop := floatIntsRow.holds Try.pinned (OpenSpec.ofChange floatIntsWrong)

/-- 'quadratlaw01.FloatSteps': WHATEVER THE INPUT: true; the input reads as it did. -/
def floatStepsSpec : ChangeSpec := { name := "floatSteps", fn := fun _ => fun
  | [d1, d2] => { results := [.lit (.bool true)], args := [d1, d2] }
  | _ => none }
def floatStepsRow : OpenClaim := { program := "ytgpnmifejgdipaa", sum := "136505ec94448e52a2b6b41a5f6c09605284a3ffdd9e4506be177744b25581dc", func := "quadrat/quadratlaw01.FloatSteps", spec := "floatSteps", inPlace := ["math/bits.Add64", "math/bits.Sub64"], apart := false }
def FloatStepsSaid : Prop := floatStepsRow.holds Try.pinned (OpenSpec.ofChange floatStepsSpec)

/-- ITS FALSE NEIGHBOUR: 'it returns false'. Refute it at one input. -/
def floatStepsWrong : ChangeSpec := { name := "floatSteps", fn := fun _ => fun
  | [d1, d2] => { results := [.lit (.bool false)], args := [d1, d2] }
  | _ => none }
def FloatStepsWrongFalsely : Prop := floatStepsRow.holds Try.pinned (OpenSpec.ofChange floatStepsWrong)

/-- 'quadratlaw01.FloatRoots': WHATEVER THE INPUT: true; the input reads as it did. -/
def floatRootsSpec : ChangeSpec := { name := "floatRoots", fn := fun _ => fun
  | [d1, d2, d3] => { results := [.lit (.bool true)], args := [d1, d2, d3] }
  | _ => none }
def floatRootsRow : OpenClaim := { program := "ytgpnmifejgdipaa", sum := "136505ec94448e52a2b6b41a5f6c09605284a3ffdd9e4506be177744b25581dc", func := "quadrat/quadratlaw01.FloatRoots", spec := "floatRoots", inPlace := ["math/bits.Add64", "math/bits.Sub64"], apart := false }
def FloatRootsSaid : Prop := floatRootsRow.holds Try.pinned (OpenSpec.ofChange floatRootsSpec)

/-- ITS FALSE NEIGHBOUR: 'it returns false'. Refute it at one input. -/
def floatRootsWrong : ChangeSpec := { name := "floatRoots", fn := fun _ => fun
  | [d1, d2, d3] => { results := [.lit (.bool false)], args := [d1, d2, d3] }
  | _ => none }
def FloatRootsWrongFalsely : Prop := floatRootsRow.holds Try.pinned (OpenSpec.ofChange floatRootsWrong)

/-- 'quadratlaw01.FloatProducts': WHATEVER THE INPUT: true; the input reads as it did. -/
def floatProductsSpec : ChangeSpec := { name := "floatProducts", fn := fun _ => fun
  | [d1, d2] => { results := [.lit (.bool true)], args := [d1, d2] }
  | _ => none }
def floatProductsRow : OpenClaim := { program := "ytgpnmifejgdipaa", sum := "136505ec94448e52a2b6b41a5f6c09605284a3ffdd9e4506be177744b25581dc", func := "quadrat/quadratlaw01.FloatProducts", spec := "floatProducts", inPlace := ["math/bits.Add64", "math/bits.Sub64"], named := ["math/bits.divideError", "math/bits.overflowError"], apart := false }
def FloatProductsSaid : Prop := floatProductsRow.holds Try.pinned (OpenSpec.ofChange floatProductsSpec)

/-- ITS FALSE NEIGHBOUR: 'it returns false'. Refute it at one input. -/
def floatProductsWrong : ChangeSpec := { name := "floatProducts", fn := fun _ => fun
  | [d1, d2] => { results := [.lit (.bool false)], args := [d1, d2] }
  | _ => none }
def FloatProductsWrongFalsely : Prop := floatProductsRow.holds Try.pinned (OpenSpec.ofChange floatProductsWrong)

/-- 'quadratlaw01.FloatModes': WHATEVER THE INPUT: true; the input reads as it did. -/
def floatModesSpec : ChangeSpec := { name := "floatModes", fn := fun _ => fun
  | [d1, d2, d3] => { results := [.lit (.bool true)], args := [d1, d2, d3] }
  | _ => none }
def floatModesRow : OpenClaim := { program := "ytgpnmifejgdipaa", sum := "136505ec94448e52a2b6b41a5f6c09605284a3ffdd9e4506be177744b25581dc", func := "quadrat/quadratlaw01.FloatModes", spec := "floatModes", inPlace := ["math/bits.Add64", "math/bits.Sub64"], named := ["math/bits.divideError", "math/bits.overflowError"], apart := false }
def FloatModesSaid : Prop := floatModesRow.holds Try.pinned (OpenSpec.ofChange floatModesSpec)

/-- ITS FALSE NEIGHBOUR: 'it returns false'. Refute it at one input. -/
def floatModesWrong : ChangeSpec := { name := "floatModes", fn := fun _ => fun
  | [d1, d2, d3] => { results := [.lit (.bool false)], args := [d1, d2, d3] }
  | _ => none }
def FloatModesWrongFalsely : Prop := floatModesRow.holds Try.pinned (OpenSpec.ofChange floatModesWrong)

/- THE SECOND FORM. 'bulk': how many values and letters a reading holds, each counted each time it is reached (what is shared counts as often as it is met; a slice's spare places count too). A statement '..UptoSaid' is the law's where the arguments, and the package variables that the reading takes, are together of bulk at most 1048576: NARROWER than '..Said'. Prove '..Said' where nothing that the law and all that it calls make is longer than what came in: it says more and counts as full. Else prove '..UptoSaid'. A law counts once. -/
mutual
def uptoBulk {H : Type} : DataW H → Nat
  | .lit (.string bytes) => bytes.length + 1
  | .lit _ => 1
  | .nil => 1
  | .ptr d => uptoBulk d + 1
  | .slice elems spare => uptoBulkAll elems + uptoBulkAll spare + 1
  | .agg parts => uptoBulkAll parts + 1
  | .iface _ d => uptoBulk d + 1
  | .map entries => uptoBulkEntries entries + 1
  | .held _ => 1
def uptoBulkAll {H : Type} : List (DataW H) → Nat
  | [] => 0
  | d :: r => uptoBulk d + uptoBulkAll r
def uptoBulkEntries {H : Type} : List (Lit × DataW H) → Nat
  | [] => 0
  | x :: r => uptoBulkEntry x + uptoBulkEntries r
def uptoBulkEntry {H : Type} : Lit × DataW H → Nat
  | (.string bytes, d) => bytes.length + uptoBulk d + 1
  | (_, d) => uptoBulk d + 1
 end
def uptoSmall : (H : Type) → List (DataW H) → Bool := fun _ ds => decide (uptoBulkAll ds ≤ 1048576)
def OpenSpec.upto (s : _root_.Go.ChangeSpec) : _root_.Go.OpenSpec := { _root_.Go.OpenSpec.ofChange s with cond := some uptoSmall }

/-- 'quadratlaw01.FloatSums', WHERE WHAT IT READS IS OF BULK AT MOST 1048576: true; the input reads as it did. -/
def floatSumsUptoRow : OpenClaim := { program := "ytgpnmifejgdipaa", sum := "136505ec94448e52a2b6b41a5f6c09605284a3ffdd9e4506be177744b25581dc", func := "quadrat/quadratlaw01.FloatSums", spec := "floatSums", inPlace := ["math/bits.Add64", "math/bits.Sub64"], apart := false, narrowed := true }
def FloatSumsUptoSaid : Prop := floatSumsUptoRow.holds Try.pinned (OpenSpec.upto floatSumsSpec)

/-- 'quadratlaw01.FloatMakes', WHERE WHAT IT READS IS OF BULK AT MOST 1048576: true; the input reads as it did. -/
def floatMakesUptoRow : OpenClaim := { program := "ytgpnmifejgdipaa", sum := "136505ec94448e52a2b6b41a5f6c09605284a3ffdd9e4506be177744b25581dc", func := "quadrat/quadratlaw01.FloatMakes", spec := "floatMakes", inPlace := ["math/bits.Add64", "math/bits.Sub64"], apart := false, narrowed := true }
def FloatMakesUptoSaid : Prop := floatMakesUptoRow.holds Try.pinned (OpenSpec.upto floatMakesSpec)

/-- 'quadratlaw01.FloatConverts', WHERE WHAT IT READS IS OF BULK AT MOST 1048576: true; the input reads as it did. -/
def floatConvertsUptoRow : OpenClaim := { program := "ytgpnmifejgdipaa", sum := "136505ec94448e52a2b6b41a5f6c09605284a3ffdd9e4506be177744b25581dc", func := "quadrat/quadratlaw01.FloatConverts", spec := "floatConverts", inPlace := ["math/bits.Add64", "math/bits.Sub64"], apart := false, narrowed := true }
def FloatConvertsUptoSaid : Prop := floatConvertsUptoRow.holds Try.pinned (OpenSpec.upto floatConvertsSpec)

/-- 'quadratlaw01.FloatCompares', WHERE WHAT IT READS IS OF BULK AT MOST 1048576: true; the input reads as it did. -/
def floatComparesUptoRow : OpenClaim := { program := "ytgpnmifejgdipaa", sum := "136505ec94448e52a2b6b41a5f6c09605284a3ffdd9e4506be177744b25581dc", func := "quadrat/quadratlaw01.FloatCompares", spec := "floatCompares", inPlace := ["math/bits.Add64", "math/bits.Sub64"], apart := false, narrowed := true }
def FloatComparesUptoSaid : Prop := floatComparesUptoRow.holds Try.pinned (OpenSpec.upto floatComparesSpec)

/-- 'quadratlaw01.FloatNext', WHERE WHAT IT READS IS OF BULK AT MOST 1048576: true; the input reads as it did. -/
def floatNextUptoRow : OpenClaim := { program := "ytgpnmifejgdipaa", sum := "136505ec94448e52a2b6b41a5f6c09605284a3ffdd9e4506be177744b25581dc", func := "quadrat/quadratlaw01.FloatNext", spec := "floatNext", inPlace := ["math/bits.Add64", "math/bits.Sub64"], apart := false, narrowed := true }
def FloatNextUptoSaid : Prop := floatNextUptoRow.holds Try.pinned (OpenSpec.upto floatNextSpec)

/-- 'quadratlaw01.FloatInts', WHERE WHAT IT READS IS OF BULK AT MOST 1048576: true; the input reads as it did. -/
def floatIntsUptoRow : OpenClaim := { program := "ytgpnmifejgdipaa", sum := "136505ec94448e52a2b6b41a5f6c09605284a3ffdd9e4506be177744b25581dc", func := "quadrat/quadratlaw01.FloatInts", spec := "floatInts", inPlace := ["math/bits.Add64", "math/bits.Sub64"], apart := false, narrowed := true }
def FloatIntsUptoSaid : Prop := floatIntsUptoRow.holds Try.pinned (OpenSpec.upto floatIntsSpec)

/-- 'quadratlaw01.FloatSteps', WHERE WHAT IT READS IS OF BULK AT MOST 1048576: true; the input reads as it did. -/
def floatStepsUptoRow : OpenClaim := { program := "ytgpnmifejgdipaa", sum := "136505ec94448e52a2b6b41a5f6c09605284a3ffdd9e4506be177744b25581dc", func := "quadrat/quadratlaw01.FloatSteps", spec := "floatSteps", inPlace := ["math/bits.Add64", "math/bits.Sub64"], apart := false, narrowed := true }
def FloatStepsUptoSaid : Prop := floatStepsUptoRow.holds Try.pinned (OpenSpec.upto floatStepsSpec)

/-- 'quadratlaw01.FloatRoots', WHERE WHAT IT READS IS OF BULK AT MOST 1048576: true; the input reads as it did. -/
def floatRootsUptoRow : OpenClaim := { program := "ytgpnmifejgdipaa", sum := "136505ec94448e52a2b6b41a5f6c09605284a3ffdd9e4506be177744b25581dc", func := "quadrat/quadratlaw01.FloatRoots", spec := "floatRoots", inPlace := ["math/bits.Add64", "math/bits.Sub64"], apart := false, narrowed := true }
def FloatRootsUptoSaid : Prop := floatRootsUptoRow.holds Try.pinned (OpenSpec.upto floatRootsSpec)

/-- 'quadratlaw01.FloatProducts', WHERE WHAT IT READS IS OF BULK AT MOST 1048576: true; the input reads as it did. -/
def floatProductsUptoRow : OpenClaim := { program := "ytgpnmifejgdipaa", sum := "136505ec94448e52a2b6b41a5f6c09605284a3ffdd9e4506be177744b25581dc", func := "quadrat/quadratlaw01.FloatProducts", spec := "floatProducts", inPlace := ["math/bits.Add64", "math/bits.Sub64"], named := ["math/bits.divideError", "math/bits.overflowError"], apart := false, narrowed := true }
def FloatProductsUptoSaid : Prop := floatProductsUptoRow.holds Try.pinned (OpenSpec.upto floatProductsSpec)

/-- 'quadratlaw01.FloatModes', WHERE WHAT IT READS IS OF BULK AT MOST 1048576: true; the input reads as it did. -/
def floatModesUptoRow : OpenClaim := { program := "ytgpnmifejgdipaa", sum := "136505ec94448e52a2b6b41a5f6c09605284a3ffdd9e4506be177744b25581dc", func := "quadrat/quadratlaw01.FloatModes", spec := "floatModes", inPlace := ["math/bits.Add64", "math/bits.Sub64"], named := ["math/bits.divideError", "math/bits.overflowError"], apart := false, narrowed := true }
def FloatModesUptoSaid : Prop := floatModesUptoRow.holds Try.pinned (OpenSpec.upto floatModesSpec)

end Rows
end Go.Proofs.Ytgpnmifejgdipaa
