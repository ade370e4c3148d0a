/-
  The sanity check answers true: it is reckoned. By the session's own hand.
-/
import Derived.Test.YtgpnmifejgdipaaDoorSPa
import Derived.Test.YtgpnmifejgdipaaDoorDf
namespace Go.Proofs.YtgpnmifejgdipaaDoor.Pf
open Go.RowKit Go.Proofs.YtgpnmifejgdipaaDoor.My Go.Proofs.YtgpnmifejgdipaaDoorW.PrintWords Go.Proofs.YtgpnmifejgdipaaDoorW.PrintLast Go.Proofs.YtgpnmifejgdipaaDoorW.PrintMore
theorem awake100 : quadratlaw01_Awake.f 100 = some true := by kernel_rfl
theorem awake (k : Nat) : quadratlaw01_Awake.f (k + 100) = some true :=
  atle (g := fun k => quadratlaw01_Awake.f k) (fun k r h => quadratlaw01_Awake.mono k r h) awake100 (k + 100) (by omega)
end Go.Proofs.YtgpnmifejgdipaaDoor.Pf
