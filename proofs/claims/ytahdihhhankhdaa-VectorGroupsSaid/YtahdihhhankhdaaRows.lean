/-
  NARROWER THAN 'FOR EVERY INPUT', by the rows' own cells (each row's printed sentence says how): VectorDivides: loops · VectorRights: loops · VectorCodes: loops · FuseMays: loops · FuseAlls: loops · FuseSplits: loops.
  DERIVED. THE GIVEN ROWS OF THIS SEAT. 11 by the template 'for every input the law returns true; each argument reads behind the call as it read before'; 0 by the template 'total and deterministic' (their statements: YtahdihhhankhdaaTotals.lean).
  GIVEN WITH THE SEED: the statements are not yours to turn. If you find one false, say at which input.
  Laid BY PROGRAM, IN A SANDBOX (cutbox-rows.mjs): the forced cells as the released guide's own fill.sh prints them over the translation c338510aa401cf4c… (all of the seat's roots in one cut). By AI agents, Wed Nov 11 2026. No macro, syntax, notation, axiom, sorry.
-/
import Derived.Test.YtahdihhhankhdaaChecked
import GoSem.Claim
import GoSem.ClaimJoined
import GoSem.ClaimMapViews
import Derived.JoinedTies
import Derived.KernelRfl
namespace Go.Proofs.Ytahdihhhankhdaa
/- THE CELL 'sum', in the pinned program and in every row, IS THE sha256 OF THE DUMP (.gsa) THAT YtahdihhhankhdaaProg.lean LOADS. Nothing in Lean hashes anything: it is a label: what it is worth is what the hold of that sum in a sandbox is worth. -/
noncomputable def Try.pinned : Pinned := { name := "ytahdihhhankhdaa", sum := "c338510aa401cf4cac9f741a962e71325bd393a87c48261245593bccce3c4898", checked := Try.checked }
namespace Rows
def none {H : Type} : Left H := { results := [], args := [] }

/-- 'quadratlaw21.VectorDivides': WHATEVER THE INPUT: true; the input reads as it did. -/
def vectorDividesSpec : ChangeSpec := { name := "vectorDivides", fn := fun _ => fun
  | [d1, d2] => { results := [.lit (.bool true)], args := [d1, d2] }
  | _ => none }
def vectorDividesRow : OpenClaim := { program := "ytahdihhhankhdaa", sum := "c338510aa401cf4cac9f741a962e71325bd393a87c48261245593bccce3c4898", func := "quadrat/quadratlaw21.VectorDivides", spec := "vectorDivides", unfollowed := true, recurses := true, loops := true, apart := false }
def VectorDividesSaid : Prop := vectorDividesRow.holds Try.pinned (OpenSpec.ofChange vectorDividesSpec)

/-- ITS FALSE NEIGHBOUR: 'it returns false'. Refute it at one input. -/
def vectorDividesWrong : ChangeSpec := { name := "vectorDivides", fn := fun _ => fun
  | [d1, d2] => { results := [.lit (.bool false)], args := [d1, d2] }
  | _ => none }
def VectorDividesWrongFalsely : Prop := vectorDividesRow.holds Try.pinned (OpenSpec.ofChange vectorDividesWrong)

/-- 'quadratlaw21.VectorRights': WHATEVER THE INPUT: true; the input reads as it did. -/
def vectorRightsSpec : ChangeSpec := { name := "vectorRights", fn := fun _ => fun
  | [d1, d2] => { results := [.lit (.bool true)], args := [d1, d2] }
  | _ => none }
def vectorRightsRow : OpenClaim := { program := "ytahdihhhankhdaa", sum := "c338510aa401cf4cac9f741a962e71325bd393a87c48261245593bccce3c4898", func := "quadrat/quadratlaw21.VectorRights", spec := "vectorRights", unfollowed := true, recurses := true, loops := true, apart := false }
def VectorRightsSaid : Prop := vectorRightsRow.holds Try.pinned (OpenSpec.ofChange vectorRightsSpec)

/-- ITS FALSE NEIGHBOUR: 'it returns false'. Refute it at one input. -/
def vectorRightsWrong : ChangeSpec := { name := "vectorRights", fn := fun _ => fun
  | [d1, d2] => { results := [.lit (.bool false)], args := [d1, d2] }
  | _ => none }
def VectorRightsWrongFalsely : Prop := vectorRightsRow.holds Try.pinned (OpenSpec.ofChange vectorRightsWrong)

/-- 'quadratlaw21.VectorBlends': WHATEVER THE INPUT: true; the input reads as it did. -/
def vectorBlendsSpec : ChangeSpec := { name := "vectorBlends", fn := fun _ => fun
  | [d1, d2, d3] => { results := [.lit (.bool true)], args := [d1, d2, d3] }
  | _ => none }
def vectorBlendsRow : OpenClaim := { program := "ytahdihhhankhdaa", sum := "c338510aa401cf4cac9f741a962e71325bd393a87c48261245593bccce3c4898", func := "quadrat/quadratlaw21.VectorBlends", spec := "vectorBlends", unfollowed := true, recurses := true, apart := false }
def VectorBlendsSaid : Prop := vectorBlendsRow.holds Try.pinned (OpenSpec.ofChange vectorBlendsSpec)

/-- ITS FALSE NEIGHBOUR: 'it returns false'. Refute it at one input. -/
def vectorBlendsWrong : ChangeSpec := { name := "vectorBlends", fn := fun _ => fun
  | [d1, d2, d3] => { results := [.lit (.bool false)], args := [d1, d2, d3] }
  | _ => none }
def VectorBlendsWrongFalsely : Prop := vectorBlendsRow.holds Try.pinned (OpenSpec.ofChange vectorBlendsWrong)

/-- 'quadratlaw21.VectorGroups': WHATEVER THE INPUT: true; the input reads as it did. -/
def vectorGroupsSpec : ChangeSpec := { name := "vectorGroups", fn := fun _ => fun
  | [d1, d2] => { results := [.lit (.bool true)], args := [d1, d2] }
  | _ => none }
def vectorGroupsRow : OpenClaim := { program := "ytahdihhhankhdaa", sum := "c338510aa401cf4cac9f741a962e71325bd393a87c48261245593bccce3c4898", func := "quadrat/quadratlaw21.VectorGroups", spec := "vectorGroups", unfollowed := true, recurses := true, apart := false }
def VectorGroupsSaid : Prop := vectorGroupsRow.holds Try.pinned (OpenSpec.ofChange vectorGroupsSpec)

/-- ITS FALSE NEIGHBOUR: 'it returns false'. Refute it at one input. -/
def vectorGroupsWrong : ChangeSpec := { name := "vectorGroups", fn := fun _ => fun
  | [d1, d2] => { results := [.lit (.bool false)], args := [d1, d2] }
  | _ => none }
def VectorGroupsWrongFalsely : Prop := vectorGroupsRow.holds Try.pinned (OpenSpec.ofChange vectorGroupsWrong)

/-- 'quadratlaw21.VectorCodes': WHATEVER THE INPUT: true; the input reads as it did. -/
def vectorCodesSpec : ChangeSpec := { name := "vectorCodes", fn := fun _ => fun
  | [d1, d2] => { results := [.lit (.bool true)], args := [d1, d2] }
  | _ => none }
def vectorCodesRow : OpenClaim := { program := "ytahdihhhankhdaa", sum := "c338510aa401cf4cac9f741a962e71325bd393a87c48261245593bccce3c4898", func := "quadrat/quadratlaw21.VectorCodes", spec := "vectorCodes", unfollowed := true, recurses := true, loops := true, apart := false }
def VectorCodesSaid : Prop := vectorCodesRow.holds Try.pinned (OpenSpec.ofChange vectorCodesSpec)

/-- ITS FALSE NEIGHBOUR: 'it returns false'. Refute it at one input. -/
def vectorCodesWrong : ChangeSpec := { name := "vectorCodes", fn := fun _ => fun
  | [d1, d2] => { results := [.lit (.bool false)], args := [d1, d2] }
  | _ => none }
def VectorCodesWrongFalsely : Prop := vectorCodesRow.holds Try.pinned (OpenSpec.ofChange vectorCodesWrong)

/-- 'quadratlaw20.TileInverses': WHATEVER THE INPUT: true; the input reads as it did. -/
def tileInversesSpec : ChangeSpec := { name := "tileInverses", fn := fun _ => fun
  | [d] => { results := [.lit (.bool true)], args := [d] }
  | _ => none }
def tileInversesRow : OpenClaim := { program := "ytahdihhhankhdaa", sum := "c338510aa401cf4cac9f741a962e71325bd393a87c48261245593bccce3c4898", func := "quadrat/quadratlaw20.TileInverses", spec := "tileInverses", unfollowed := true, recurses := true, apart := false }
def TileInversesSaid : Prop := tileInversesRow.holds Try.pinned (OpenSpec.ofChange tileInversesSpec)

/-- ITS FALSE NEIGHBOUR: 'it returns false'. Refute it at one input. -/
def tileInversesWrong : ChangeSpec := { name := "tileInverses", fn := fun _ => fun
  | [d] => { results := [.lit (.bool false)], args := [d] }
  | _ => none }
def TileInversesWrongFalsely : Prop := tileInversesRow.holds Try.pinned (OpenSpec.ofChange tileInversesWrong)

/-- 'quadratlaw20.TileOrders': WHATEVER THE INPUT: true; the input reads as it did. -/
def tileOrdersSpec : ChangeSpec := { name := "tileOrders", fn := fun _ => fun
  | [d1, d2] => { results := [.lit (.bool true)], args := [d1, d2] }
  | _ => none }
def tileOrdersRow : OpenClaim := { program := "ytahdihhhankhdaa", sum := "c338510aa401cf4cac9f741a962e71325bd393a87c48261245593bccce3c4898", func := "quadrat/quadratlaw20.TileOrders", spec := "tileOrders", unfollowed := true, recurses := true, apart := false }
def TileOrdersSaid : Prop := tileOrdersRow.holds Try.pinned (OpenSpec.ofChange tileOrdersSpec)

/-- ITS FALSE NEIGHBOUR: 'it returns false'. Refute it at one input. -/
def tileOrdersWrong : ChangeSpec := { name := "tileOrders", fn := fun _ => fun
  | [d1, d2] => { results := [.lit (.bool false)], args := [d1, d2] }
  | _ => none }
def TileOrdersWrongFalsely : Prop := tileOrdersRow.holds Try.pinned (OpenSpec.ofChange tileOrdersWrong)

/-- 'quadratlaw20.TilePlain': WHATEVER THE INPUT: true; the input reads as it did. -/
def tilePlainSpec : ChangeSpec := { name := "tilePlain", fn := fun _ => fun
  | [d] => { results := [.lit (.bool true)], args := [d] }
  | _ => none }
def tilePlainRow : OpenClaim := { program := "ytahdihhhankhdaa", sum := "c338510aa401cf4cac9f741a962e71325bd393a87c48261245593bccce3c4898", func := "quadrat/quadratlaw20.TilePlain", spec := "tilePlain", unfollowed := true, recurses := true, apart := false }
def TilePlainSaid : Prop := tilePlainRow.holds Try.pinned (OpenSpec.ofChange tilePlainSpec)

/-- ITS FALSE NEIGHBOUR: 'it returns false'. Refute it at one input. -/
def tilePlainWrong : ChangeSpec := { name := "tilePlain", fn := fun _ => fun
  | [d] => { results := [.lit (.bool false)], args := [d] }
  | _ => none }
def TilePlainWrongFalsely : Prop := tilePlainRow.holds Try.pinned (OpenSpec.ofChange tilePlainWrong)

/-- 'quadratlaw19.FuseMays': WHATEVER THE INPUT: true; the input reads as it did. -/
def fuseMaysSpec : ChangeSpec := { name := "fuseMays", fn := fun _ => fun
  | [d1, d2] => { results := [.lit (.bool true)], args := [d1, d2] }
  | _ => none }
def fuseMaysRow : OpenClaim := { program := "ytahdihhhankhdaa", sum := "c338510aa401cf4cac9f741a962e71325bd393a87c48261245593bccce3c4898", func := "quadrat/quadratlaw19.FuseMays", spec := "fuseMays", unfollowed := true, recurses := true, loops := true, apart := false }
def FuseMaysSaid : Prop := fuseMaysRow.holds Try.pinned (OpenSpec.ofChange fuseMaysSpec)

/-- ITS FALSE NEIGHBOUR: 'it returns false'. Refute it at one input. -/
def fuseMaysWrong : ChangeSpec := { name := "fuseMays", fn := fun _ => fun
  | [d1, d2] => { results := [.lit (.bool false)], args := [d1, d2] }
  | _ => none }
def FuseMaysWrongFalsely : Prop := fuseMaysRow.holds Try.pinned (OpenSpec.ofChange fuseMaysWrong)

/-- 'quadratlaw19.FuseAlls': WHATEVER THE INPUT: true; the input reads as it did. -/
def fuseAllsSpec : ChangeSpec := { name := "fuseAlls", fn := fun _ => fun
  | [d] => { results := [.lit (.bool true)], args := [d] }
  | _ => none }
def fuseAllsRow : OpenClaim := { program := "ytahdihhhankhdaa", sum := "c338510aa401cf4cac9f741a962e71325bd393a87c48261245593bccce3c4898", func := "quadrat/quadratlaw19.FuseAlls", spec := "fuseAlls", unfollowed := true, recurses := true, loops := true, apart := false }
def FuseAllsSaid : Prop := fuseAllsRow.holds Try.pinned (OpenSpec.ofChange fuseAllsSpec)

/-- ITS FALSE NEIGHBOUR: 'it returns false'. Refute it at one input. -/
def fuseAllsWrong : ChangeSpec := { name := "fuseAlls", fn := fun _ => fun
  | [d] => { results := [.lit (.bool false)], args := [d] }
  | _ => none }
def FuseAllsWrongFalsely : Prop := fuseAllsRow.holds Try.pinned (OpenSpec.ofChange fuseAllsWrong)

/-- 'quadratlaw19.FuseSplits': WHATEVER THE INPUT: true; the input reads as it did. -/
def fuseSplitsSpec : ChangeSpec := { name := "fuseSplits", fn := fun _ => fun
  | [d1, d2] => { results := [.lit (.bool true)], args := [d1, d2] }
  | _ => none }
def fuseSplitsRow : OpenClaim := { program := "ytahdihhhankhdaa", sum := "c338510aa401cf4cac9f741a962e71325bd393a87c48261245593bccce3c4898", func := "quadrat/quadratlaw19.FuseSplits", spec := "fuseSplits", unfollowed := true, recurses := true, loops := true, apart := false }
def FuseSplitsSaid : Prop := fuseSplitsRow.holds Try.pinned (OpenSpec.ofChange fuseSplitsSpec)

/-- ITS FALSE NEIGHBOUR: 'it returns false'. Refute it at one input. -/
def fuseSplitsWrong : ChangeSpec := { name := "fuseSplits", fn := fun _ => fun
  | [d1, d2] => { results := [.lit (.bool false)], args := [d1, d2] }
  | _ => none }
def FuseSplitsWrongFalsely : Prop := fuseSplitsRow.holds Try.pinned (OpenSpec.ofChange fuseSplitsWrong)

/- THE SECOND FORM. 'bulk': how many values and letters a reading holds, each counted each time it is reached (what is shared counts as often as it is met; a slice's spare places count too). A statement '..UptoSaid' is the law's where the arguments, and the package variables that the reading takes, are together of bulk at most 1048576: NARROWER than '..Said'. Prove '..Said' where nothing that the law and all that it calls make is longer than what came in: it says more and counts as full. Else prove '..UptoSaid'. A law counts once. -/
mutual
def uptoBulk {H : Type} : DataW H → Nat
  | .lit (.string bytes) => bytes.length + 1
  | .lit _ => 1
  | .nil => 1
  | .ptr d => uptoBulk d + 1
  | .slice elems spare => uptoBulkAll elems + uptoBulkAll spare + 1
  | .agg parts => uptoBulkAll parts + 1
  | .iface _ d => uptoBulk d + 1
  | .map entries => uptoBulkEntries entries + 1
  | .held _ => 1
def uptoBulkAll {H : Type} : List (DataW H) → Nat
  | [] => 0
  | d :: r => uptoBulk d + uptoBulkAll r
def uptoBulkEntries {H : Type} : List (Lit × DataW H) → Nat
  | [] => 0
  | x :: r => uptoBulkEntry x + uptoBulkEntries r
def uptoBulkEntry {H : Type} : Lit × DataW H → Nat
  | (.string bytes, d) => bytes.length + uptoBulk d + 1
  | (_, d) => uptoBulk d + 1
 end
def uptoSmall : (H : Type) → List (DataW H) → Bool := fun _ ds => decide (uptoBulkAll ds ≤ 1048576)
def OpenSpec.upto (s : _root_.Go.ChangeSpec) : _root_.Go.OpenSpec := { _root_.Go.OpenSpec.ofChange s with cond := some uptoSmall }

/-- 'quadratlaw21.VectorDivides', WHERE WHAT IT READS IS OF BULK AT MOST 1048576: true; the input reads as it did. -/
def vectorDividesUptoRow : OpenClaim := { program := "ytahdihhhankhdaa", sum := "c338510aa401cf4cac9f741a962e71325bd393a87c48261245593bccce3c4898", func := "quadrat/quadratlaw21.VectorDivides", spec := "vectorDivides", unfollowed := true, recurses := true, loops := true, apart := false, narrowed := true }
def VectorDividesUptoSaid : Prop := vectorDividesUptoRow.holds Try.pinned (OpenSpec.upto vectorDividesSpec)

/-- 'quadratlaw21.VectorRights', WHERE WHAT IT READS IS OF BULK AT MOST 1048576: true; the input reads as it did. -/
def vectorRightsUptoRow : OpenClaim := { program := "ytahdihhhankhdaa", sum := "c338510aa401cf4cac9f741a962e71325bd393a87c48261245593bccce3c4898", func := "quadrat/quadratlaw21.VectorRights", spec := "vectorRights", unfollowed := true, recurses := true, loops := true, apart := false, narrowed := true }
def VectorRightsUptoSaid : Prop := vectorRightsUptoRow.holds Try.pinned (OpenSpec.upto vectorRightsSpec)

/-- 'quadratlaw21.VectorBlends', WHERE WHAT IT READS IS OF BULK AT MOST 1048576: true; the input reads as it did. -/
def vectorBlendsUptoRow : OpenClaim := { program := "ytahdihhhankhdaa", sum := "c338510aa401cf4cac9f741a962e71325bd393a87c48261245593bccce3c4898", func := "quadrat/quadratlaw21.VectorBlends", spec := "vectorBlends", unfollowed := true, recurses := true, apart := false, narrowed := true }
def VectorBlendsUptoSaid : Prop := vectorBlendsUptoRow.holds Try.pinned (OpenSpec.upto vectorBlendsSpec)

/-- 'quadratlaw21.VectorGroups', WHERE WHAT IT READS IS OF BULK AT MOST 1048576: true; the input reads as it did. -/
def vectorGroupsUptoRow : OpenClaim := { program := "ytahdihhhankhdaa", sum := "c338510aa401cf4cac9f741a962e71325bd393a87c48261245593bccce3c4898", func := "quadrat/quadratlaw21.VectorGroups", spec := "vectorGroups", unfollowed := true, recurses := true, apart := false, narrowed := true }
def VectorGroupsUptoSaid : Prop := vectorGroupsUptoRow.holds Try.pinned (OpenSpec.upto vectorGroupsSpec)

/-- 'quadratlaw21.VectorCodes', WHERE WHAT IT READS IS OF BULK AT MOST 1048576: true; the input reads as it did. -/
def vectorCodesUptoRow : OpenClaim := { program := "ytahdihhhankhdaa", sum := "c338510aa401cf4cac9f741a962e71325bd393a87c48261245593bccce3c4898", func := "quadrat/quadratlaw21.VectorCodes", spec := "vectorCodes", unfollowed := true, recurses := true, loops := true, apart := false, narrowed := true }
def VectorCodesUptoSaid : Prop := vectorCodesUptoRow.holds Try.pinned (OpenSpec.upto vectorCodesSpec)

/-- 'quadratlaw20.TileInverses', WHERE WHAT IT READS IS OF BULK AT MOST 1048576: true; the input reads as it did. -/
def tileInversesUptoRow : OpenClaim := { program := "ytahdihhhankhdaa", sum := "c338510aa401cf4cac9f741a962e71325bd393a87c48261245593bccce3c4898", func := "quadrat/quadratlaw20.TileInverses", spec := "tileInverses", unfollowed := true, recurses := true, apart := false, narrowed := true }
def TileInversesUptoSaid : Prop := tileInversesUptoRow.holds Try.pinned (OpenSpec.upto tileInversesSpec)

/-- 'quadratlaw20.TileOrders', WHERE WHAT IT READS IS OF BULK AT MOST 1048576: true; the input reads as it did. -/
def tileOrdersUptoRow : OpenClaim := { program := "ytahdihhhankhdaa", sum := "c338510aa401cf4cac9f741a962e71325bd393a87c48261245593bccce3c4898", func := "quadrat/quadratlaw20.TileOrders", spec := "tileOrders", unfollowed := true, recurses := true, apart := false, narrowed := true }
def TileOrdersUptoSaid : Prop := tileOrdersUptoRow.holds Try.pinned (OpenSpec.upto tileOrdersSpec)

/-- 'quadratlaw20.TilePlain', WHERE WHAT IT READS IS OF BULK AT MOST 1048576: true; the input reads as it did. -/
def tilePlainUptoRow : OpenClaim := { program := "ytahdihhhankhdaa", sum := "c338510aa401cf4cac9f741a962e71325bd393a87c48261245593bccce3c4898", func := "quadrat/quadratlaw20.TilePlain", spec := "tilePlain", unfollowed := true, recurses := true, apart := false, narrowed := true }
def TilePlainUptoSaid : Prop := tilePlainUptoRow.holds Try.pinned (OpenSpec.upto tilePlainSpec)

/-- 'quadratlaw19.FuseMays', WHERE WHAT IT READS IS OF BULK AT MOST 1048576: true; the input reads as it did. -/
def fuseMaysUptoRow : OpenClaim := { program := "ytahdihhhankhdaa", sum := "c338510aa401cf4cac9f741a962e71325bd393a87c48261245593bccce3c4898", func := "quadrat/quadratlaw19.FuseMays", spec := "fuseMays", unfollowed := true, recurses := true, loops := true, apart := false, narrowed := true }
def FuseMaysUptoSaid : Prop := fuseMaysUptoRow.holds Try.pinned (OpenSpec.upto fuseMaysSpec)

/-- 'quadratlaw19.FuseAlls', WHERE WHAT IT READS IS OF BULK AT MOST 1048576: true; the input reads as it did. -/
def fuseAllsUptoRow : OpenClaim := { program := "ytahdihhhankhdaa", sum := "c338510aa401cf4cac9f741a962e71325bd393a87c48261245593bccce3c4898", func := "quadrat/quadratlaw19.FuseAlls", spec := "fuseAlls", unfollowed := true, recurses := true, loops := true, apart := false, narrowed := true }
def FuseAllsUptoSaid : Prop := fuseAllsUptoRow.holds Try.pinned (OpenSpec.upto fuseAllsSpec)

/-- 'quadratlaw19.FuseSplits', WHERE WHAT IT READS IS OF BULK AT MOST 1048576: true; the input reads as it did. -/
def fuseSplitsUptoRow : OpenClaim := { program := "ytahdihhhankhdaa", sum := "c338510aa401cf4cac9f741a962e71325bd393a87c48261245593bccce3c4898", func := "quadrat/quadratlaw19.FuseSplits", spec := "fuseSplits", unfollowed := true, recurses := true, loops := true, apart := false, narrowed := true }
def FuseSplitsUptoSaid : Prop := fuseSplitsUptoRow.holds Try.pinned (OpenSpec.upto fuseSplitsSpec)

end Rows
end Go.Proofs.Ytahdihhhankhdaa
