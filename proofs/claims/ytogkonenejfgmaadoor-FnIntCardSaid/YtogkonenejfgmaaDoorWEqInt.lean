/- The walks of the laws' helpers eqIntS (two slices of ints are compared) and toIntS (a slice of ints is copied). For every slice within the reach. -/
import Derived.Test.YtogkonenejfgmaaDoorMem
import Derived.Test.YtogkonenejfgmaaDoorNat
import Derived.Test.YtogkonenejfgmaaDoorStr
import Derived.Deep.QuietTactic
import Derived.BigQuiet
namespace Go.Proofs.YtogkonenejfgmaaDoor
open Go.RowKit
theorem eq_step {xs ys : List Int} {k : Nat} (h : xs.take k = ys.take k) (hx : k < xs.length) (hy : k < ys.length) (e : xs.getD k 0 = ys.getD k 0) : xs.take (k + 1) = ys.take (k + 1) := by
  rw [take_succ_getD xs k hx, take_succ_getD ys k hy, h, e]
theorem ne_at {xs ys : List Int} {k : Nat} (e : xs.getD k 0 ≠ ys.getD k 0) : decide (xs = ys) = false := by
  rw [decide_eq_false_iff_not]; intro h; rw [h] at e; exact e rfl

end Go.Proofs.YtogkonenejfgmaaDoor
