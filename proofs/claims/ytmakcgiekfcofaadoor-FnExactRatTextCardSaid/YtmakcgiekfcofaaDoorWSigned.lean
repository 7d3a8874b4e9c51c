/- The walks of signed, fitInt, intNeg (program) and l04Make (reference). For every slice within the reach. -/
import Derived.Test.YtmakcgiekfcofaaDoorWIntOk
namespace Go.Proofs.YtmakcgiekfcofaaDoor
open Go.RowKit
theorem capL_le (xs : List Int) : (capL xs).length ≤ 50 := by
  unfold capL; split
  · exact Nat.zero_le _
  · omega
end Go.Proofs.YtmakcgiekfcofaaDoor
