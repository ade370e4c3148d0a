/-
  NARROWER THAN 'FOR EVERY INPUT', by the rows' own cells (each row's printed sentence says how): TileRights: loops · TileFree: loops.
  DERIVED. THE GIVEN ROWS OF THIS SEAT. 5 by the template 'for every input the law returns true; each argument reads behind the call as it read before'; 0 by the template 'total and deterministic' (their statements: YtphmcgmblkbijaaTotals.lean).
  GIVEN WITH THE SEED: the statements are not yours to turn. If you find one false, say at which input.
  Laid BY PROGRAM, IN A SANDBOX (cutbox-rows.mjs): the forced cells as the released guide's own fill.sh prints them over the translation 5a76637263482cc8… (all of the seat's roots in one cut). By AI agents, Wed Nov 11 2026. No macro, syntax, notation, axiom, sorry.
-/
import Derived.Test.YtphmcgmblkbijaaChecked
import GoSem.Claim
import GoSem.ClaimJoined
import GoSem.ClaimMapViews
import Derived.JoinedTies
import Derived.KernelRfl
namespace Go.Proofs.Ytphmcgmblkbijaa
/- THE CELL 'sum', in the pinned program and in every row, IS THE sha256 OF THE DUMP (.gsa) THAT YtphmcgmblkbijaaProg.lean LOADS. Nothing in Lean hashes anything: it is a label: what it is worth is what the hold of that sum in a sandbox is worth. -/
noncomputable def Try.pinned : Pinned := { name := "ytphmcgmblkbijaa", sum := "5a76637263482cc89626a9f6cf35d6bd8ad3e42c5df739743463c5ffb42700ed", checked := Try.checked }
namespace Rows
def none {H : Type} : Left H := { results := [], args := [] }

/-- 'quadratlaw20.TileRights': WHATEVER THE INPUT: true; the input reads as it did. -/
def tileRightsSpec : ChangeSpec := { name := "tileRights", fn := fun _ => fun
  | [d1, d2] => { results := [.lit (.bool true)], args := [d1, d2] }
  | _ => none }
def tileRightsRow : OpenClaim := { program := "ytphmcgmblkbijaa", sum := "5a76637263482cc89626a9f6cf35d6bd8ad3e42c5df739743463c5ffb42700ed", func := "quadrat/quadratlaw20.TileRights", spec := "tileRights", unfollowed := true, recurses := true, loops := true, plainKeys := false, apart := false }
def TileRightsSaid : Prop := tileRightsRow.holds Try.pinned (OpenSpec.ofChange tileRightsSpec)

/-- ITS FALSE NEIGHBOUR: 'it returns false'. Refute it at one input. -/
def tileRightsWrong : ChangeSpec := { name := "tileRights", fn := fun _ => fun
  | [d1, d2] => { results := [.lit (.bool false)], args := [d1, d2] }
  | _ => none }
def TileRightsWrongFalsely : Prop := tileRightsRow.holds Try.pinned (OpenSpec.ofChange tileRightsWrong)

/-- 'quadratlaw20.TileFree': WHATEVER THE INPUT: true; the input reads as it did. -/
def tileFreeSpec : ChangeSpec := { name := "tileFree", fn := fun _ => fun
  | [d1, d2] => { results := [.lit (.bool true)], args := [d1, d2] }
  | _ => none }
def tileFreeRow : OpenClaim := { program := "ytphmcgmblkbijaa", sum := "5a76637263482cc89626a9f6cf35d6bd8ad3e42c5df739743463c5ffb42700ed", func := "quadrat/quadratlaw20.TileFree", spec := "tileFree", unfollowed := true, recurses := true, loops := true, plainKeys := false, apart := false }
def TileFreeSaid : Prop := tileFreeRow.holds Try.pinned (OpenSpec.ofChange tileFreeSpec)

/-- ITS FALSE NEIGHBOUR: 'it returns false'. Refute it at one input. -/
def tileFreeWrong : ChangeSpec := { name := "tileFree", fn := fun _ => fun
  | [d1, d2] => { results := [.lit (.bool false)], args := [d1, d2] }
  | _ => none }
def TileFreeWrongFalsely : Prop := tileFreeRow.holds Try.pinned (OpenSpec.ofChange tileFreeWrong)

/-- 'quadratlaw26.TeamSplits': WHATEVER THE INPUT: true; the input reads as it did. -/
def teamSplitsSpec : ChangeSpec := { name := "teamSplits", fn := fun _ => fun
  | [d1, d2] => { results := [.lit (.bool true)], args := [d1, d2] }
  | _ => none }
def teamSplitsRow : OpenClaim := { program := "ytphmcgmblkbijaa", sum := "5a76637263482cc89626a9f6cf35d6bd8ad3e42c5df739743463c5ffb42700ed", func := "quadrat/quadratlaw26.TeamSplits", spec := "teamSplits", unfollowed := true, recurses := true, plainKeys := false, apart := false }
def TeamSplitsSaid : Prop := teamSplitsRow.holds Try.pinned (OpenSpec.ofChange teamSplitsSpec)

/-- ITS FALSE NEIGHBOUR: 'it returns false'. Refute it at one input. -/
def teamSplitsWrong : ChangeSpec := { name := "teamSplits", fn := fun _ => fun
  | [d1, d2] => { results := [.lit (.bool false)], args := [d1, d2] }
  | _ => none }
def TeamSplitsWrongFalsely : Prop := teamSplitsRow.holds Try.pinned (OpenSpec.ofChange teamSplitsWrong)

/-- 'quadratlaw26.TeamForms': WHATEVER THE INPUT: true; the input reads as it did. -/
def teamFormsSpec : ChangeSpec := { name := "teamForms", fn := fun _ => fun
  | [d1, d2] => { results := [.lit (.bool true)], args := [d1, d2] }
  | _ => none }
def teamFormsRow : OpenClaim := { program := "ytphmcgmblkbijaa", sum := "5a76637263482cc89626a9f6cf35d6bd8ad3e42c5df739743463c5ffb42700ed", func := "quadrat/quadratlaw26.TeamForms", spec := "teamForms", unfollowed := true, recurses := true, plainKeys := false, apart := false }
def TeamFormsSaid : Prop := teamFormsRow.holds Try.pinned (OpenSpec.ofChange teamFormsSpec)

/-- ITS FALSE NEIGHBOUR: 'it returns false'. Refute it at one input. -/
def teamFormsWrong : ChangeSpec := { name := "teamForms", fn := fun _ => fun
  | [d1, d2] => { results := [.lit (.bool false)], args := [d1, d2] }
  | _ => none }
def TeamFormsWrongFalsely : Prop := teamFormsRow.holds Try.pinned (OpenSpec.ofChange teamFormsWrong)

/-- 'quadratlaw26.TeamCopies': WHATEVER THE INPUT: true; the input reads as it did. -/
def teamCopiesSpec : ChangeSpec := { name := "teamCopies", fn := fun _ => fun
  | [d1, d2, d3] => { results := [.lit (.bool true)], args := [d1, d2, d3] }
  | _ => none }
def teamCopiesRow : OpenClaim := { program := "ytphmcgmblkbijaa", sum := "5a76637263482cc89626a9f6cf35d6bd8ad3e42c5df739743463c5ffb42700ed", func := "quadrat/quadratlaw26.TeamCopies", spec := "teamCopies", unfollowed := true, recurses := true, plainKeys := false, apart := false }
def TeamCopiesSaid : Prop := teamCopiesRow.holds Try.pinned (OpenSpec.ofChange teamCopiesSpec)

/-- ITS FALSE NEIGHBOUR: 'it returns false'. Refute it at one input. -/
def teamCopiesWrong : ChangeSpec := { name := "teamCopies", fn := fun _ => fun
  | [d1, d2, d3] => { results := [.lit (.bool false)], args := [d1, d2, d3] }
  | _ => none }
def TeamCopiesWrongFalsely : Prop := teamCopiesRow.holds Try.pinned (OpenSpec.ofChange teamCopiesWrong)

/- THE SECOND FORM. 'bulk': how many values and letters a reading holds, each counted each time it is reached (what is shared counts as often as it is met; a slice's spare places count too). A statement '..UptoSaid' is the law's where the arguments, and the package variables that the reading takes, are together of bulk at most 1048576: NARROWER than '..Said'. Prove '..Said' where nothing that the law and all that it calls make is longer than what came in: it says more and counts as full. Else prove '..UptoSaid'. A law counts once. -/
mutual
def uptoBulk {H : Type} : DataW H → Nat
  | .lit (.string bytes) => bytes.length + 1
  | .lit _ => 1
  | .nil => 1
  | .ptr d => uptoBulk d + 1
  | .slice elems spare => uptoBulkAll elems + uptoBulkAll spare + 1
  | .agg parts => uptoBulkAll parts + 1
  | .iface _ d => uptoBulk d + 1
  | .map entries => uptoBulkEntries entries + 1
  | .held _ => 1
def uptoBulkAll {H : Type} : List (DataW H) → Nat
  | [] => 0
  | d :: r => uptoBulk d + uptoBulkAll r
def uptoBulkEntries {H : Type} : List (Lit × DataW H) → Nat
  | [] => 0
  | x :: r => uptoBulkEntry x + uptoBulkEntries r
def uptoBulkEntry {H : Type} : Lit × DataW H → Nat
  | (.string bytes, d) => bytes.length + uptoBulk d + 1
  | (_, d) => uptoBulk d + 1
 end
def uptoSmall : (H : Type) → List (DataW H) → Bool := fun _ ds => decide (uptoBulkAll ds ≤ 1048576)
def OpenSpec.upto (s : _root_.Go.ChangeSpec) : _root_.Go.OpenSpec := { _root_.Go.OpenSpec.ofChange s with cond := some uptoSmall }

/-- 'quadratlaw20.TileRights', WHERE WHAT IT READS IS OF BULK AT MOST 1048576: true; the input reads as it did. -/
def tileRightsUptoRow : OpenClaim := { program := "ytphmcgmblkbijaa", sum := "5a76637263482cc89626a9f6cf35d6bd8ad3e42c5df739743463c5ffb42700ed", func := "quadrat/quadratlaw20.TileRights", spec := "tileRights", unfollowed := true, recurses := true, loops := true, plainKeys := false, apart := false, narrowed := true }
def TileRightsUptoSaid : Prop := tileRightsUptoRow.holds Try.pinned (OpenSpec.upto tileRightsSpec)

/-- 'quadratlaw20.TileFree', WHERE WHAT IT READS IS OF BULK AT MOST 1048576: true; the input reads as it did. -/
def tileFreeUptoRow : OpenClaim := { program := "ytphmcgmblkbijaa", sum := "5a76637263482cc89626a9f6cf35d6bd8ad3e42c5df739743463c5ffb42700ed", func := "quadrat/quadratlaw20.TileFree", spec := "tileFree", unfollowed := true, recurses := true, loops := true, plainKeys := false, apart := false, narrowed := true }
def TileFreeUptoSaid : Prop := tileFreeUptoRow.holds Try.pinned (OpenSpec.upto tileFreeSpec)

/-- 'quadratlaw26.TeamSplits', WHERE WHAT IT READS IS OF BULK AT MOST 1048576: true; the input reads as it did. -/
def teamSplitsUptoRow : OpenClaim := { program := "ytphmcgmblkbijaa", sum := "5a76637263482cc89626a9f6cf35d6bd8ad3e42c5df739743463c5ffb42700ed", func := "quadrat/quadratlaw26.TeamSplits", spec := "teamSplits", unfollowed := true, recurses := true, plainKeys := false, apart := false, narrowed := true }
def TeamSplitsUptoSaid : Prop := teamSplitsUptoRow.holds Try.pinned (OpenSpec.upto teamSplitsSpec)

/-- 'quadratlaw26.TeamForms', WHERE WHAT IT READS IS OF BULK AT MOST 1048576: true; the input reads as it did. -/
def teamFormsUptoRow : OpenClaim := { program := "ytphmcgmblkbijaa", sum := "5a76637263482cc89626a9f6cf35d6bd8ad3e42c5df739743463c5ffb42700ed", func := "quadrat/quadratlaw26.TeamForms", spec := "teamForms", unfollowed := true, recurses := true, plainKeys := false, apart := false, narrowed := true }
def TeamFormsUptoSaid : Prop := teamFormsUptoRow.holds Try.pinned (OpenSpec.upto teamFormsSpec)

/-- 'quadratlaw26.TeamCopies', WHERE WHAT IT READS IS OF BULK AT MOST 1048576: true; the input reads as it did. -/
def teamCopiesUptoRow : OpenClaim := { program := "ytphmcgmblkbijaa", sum := "5a76637263482cc89626a9f6cf35d6bd8ad3e42c5df739743463c5ffb42700ed", func := "quadrat/quadratlaw26.TeamCopies", spec := "teamCopies", unfollowed := true, recurses := true, plainKeys := false, apart := false, narrowed := true }
def TeamCopiesUptoSaid : Prop := teamCopiesUptoRow.holds Try.pinned (OpenSpec.upto teamCopiesSpec)

end Rows
end Go.Proofs.Ytphmcgmblkbijaa
