/- The walk of NatText (reference): a natural number's decimal text. For every slice within the reach. -/
import Derived.Test.YtogkonenejfgmaaDoorWIntTextS
import Derived.Test.YtogkonenejfgmaaDoorWPadS
import Derived.Test.YtogkonenejfgmaaDoorWNatOk
namespace Go.Proofs.YtogkonenejfgmaaDoor
open Go.RowKit
open Go.Lib (decDigits itoa)
def fNatText (xs : List Int) : List UInt8 := if natB xs then natTxt xs else []
theorem fPad_tx (l : List UInt8) : fPad (tx l) 9 = tx (padL 9 l) := by
  unfold fPad
  rw [if_pos (by omega)]
  apply ByteArray.ext
  unfold padB padL
  rw [tx_size]
  simp [tx]
theorem natB_ok {xs : List Int} (h : natB xs = true) : okL xs := by rw [(natB_limbs h).1]; exact limbs_ok _
theorem natB_le {xs : List Int} (h : natB xs = true) : xs.length ≤ 50 := (natB_limbs h).2
end Go.Proofs.YtogkonenejfgmaaDoor
