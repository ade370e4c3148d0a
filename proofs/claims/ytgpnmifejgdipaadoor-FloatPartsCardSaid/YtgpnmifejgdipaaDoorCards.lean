/-
  DERIVED. GIVEN WITH THE SEED: THE CARDS: each row of YtgpnmifejgdipaaDoorRows.lean that lists a variable, with what it lists TIED to the program's text (the seventh form; the later family's looks); each row that meets fmt, with fmt's text TOLD by the authors' own Lean function (tested against real Go, not proved from fmt's source: count such statements apart). THE CARD IS WHAT COUNTS. Prove the row's statement (the work); the ties are given (YtgpnmifejgdipaaDoorTie.lean); close each card by the builder's one call (the guide's Derived/Test/ToyasCard.lean, 'card_holds'). Laid BY PROGRAM, IN A SANDBOX (cutbox-door.mjs). By AI agents, Wed Nov 11 2026. No macro, syntax, notation, axiom, sorry.
-/
import Derived.Test.YtgpnmifejgdipaaDoorRows
import GoSem.ClaimSeven
namespace Go.Proofs.YtgpnmifejgdipaaDoor
namespace Rows

/-- THE TIED CARD OF 'quadratlaw01.FloatParts'. -/
def floatPartsCard : Claim7 := { stood := { row := floatPartsRow, standIns := [], harness := (true, "5b4bdb4a629f0d14f38f662528fe52dbb91113e7e6a4076c25c1f6cf7c84f662"), looks := false }, kinds := [], alts := [], laidByText := true, laidKinds := [.data], laidTests := true, laidLooks := .later }
def FloatPartsCardSaid : Prop := Claim7.holds Tryd.pinned (.plain (OpenSpec.ofChange floatPartsSpec)) floatPartsCard

/-- THE TIED CARD OF 'quadratlaw01.FloatBack'. -/
def floatBackCard : Claim7 := { stood := { row := floatBackRow, standIns := [], harness := (true, "5b4bdb4a629f0d14f38f662528fe52dbb91113e7e6a4076c25c1f6cf7c84f662"), looks := false }, kinds := [], alts := [], laidByText := true, laidKinds := [.data], laidTests := true, laidLooks := .later }
def FloatBackCardSaid : Prop := Claim7.holds Tryd.pinned (.plain (OpenSpec.ofChange floatBackSpec)) floatBackCard

/-- THE SECOND FORM's CARD OF 'quadratlaw01.FloatParts'. -/
def floatPartsUptoCard : Claim7 := { stood := { row := floatPartsUptoRow, standIns := [], harness := (true, "5b4bdb4a629f0d14f38f662528fe52dbb91113e7e6a4076c25c1f6cf7c84f662"), looks := false }, kinds := [], alts := [], laidByText := true, laidKinds := [.data], laidTests := true, laidLooks := .later }
def FloatPartsUptoCardSaid : Prop := Claim7.holds Tryd.pinned (.plain (OpenSpec.upto floatPartsSpec)) floatPartsUptoCard

/-- THE SECOND FORM's CARD OF 'quadratlaw01.FloatBack'. -/
def floatBackUptoCard : Claim7 := { stood := { row := floatBackUptoRow, standIns := [], harness := (true, "5b4bdb4a629f0d14f38f662528fe52dbb91113e7e6a4076c25c1f6cf7c84f662"), looks := false }, kinds := [], alts := [], laidByText := true, laidKinds := [.data], laidTests := true, laidLooks := .later }
def FloatBackUptoCardSaid : Prop := Claim7.holds Tryd.pinned (.plain (OpenSpec.upto floatBackSpec)) floatBackUptoCard
end Rows
end Go.Proofs.YtgpnmifejgdipaaDoor
