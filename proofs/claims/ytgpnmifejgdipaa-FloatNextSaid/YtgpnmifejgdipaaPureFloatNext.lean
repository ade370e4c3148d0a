/-
  FloatNext: the program's next floats are the reference's, for every kind and every word; no condition.
-/
import Derived.Test.YtgpnmifejgdipaaPnext
import Derived.Test.YtgpnmifejgdipaaMy27
namespace Go.Proofs.Ytgpnmifejgdipaa.Pure
open Go.RowKit Go.Proofs.Ytgpnmifejgdipaa.My
theorem FloatNext : quadratlaw01_FloatNext.Pure := Pf.FloatNext
end Go.Proofs.Ytgpnmifejgdipaa.Pure
