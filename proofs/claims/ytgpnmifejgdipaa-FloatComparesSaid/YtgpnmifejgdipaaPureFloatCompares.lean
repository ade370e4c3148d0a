/-
  FloatCompares: the program's comparisons are the reference's, and so are the bits that are floats, for every kind and every two words; no condition.
-/
import Derived.Test.YtgpnmifejgdipaaPcmp
import Derived.Test.YtgpnmifejgdipaaMy26
namespace Go.Proofs.Ytgpnmifejgdipaa.Pure
open Go.RowKit Go.Proofs.Ytgpnmifejgdipaa.My
theorem FloatCompares : quadratlaw01_FloatCompares.Pure := Pf.FloatCompares
end Go.Proofs.Ytgpnmifejgdipaa.Pure
