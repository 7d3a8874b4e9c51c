/- The walk of spec.l01In: whether a number lies between two others. No condition. -/
import Derived.Test.YtogkonenejfgmaaDoorProg
import Derived.Test.YtogkonenejfgmaaDoorStr
namespace Go.Proofs.YtogkonenejfgmaaDoor
open Go.RowKit
def inB (n lo hi : Int) : Bool := decide (lo ≤ n) && decide (n ≤ hi)
theorem inB_true {n lo hi : Int} (h : lo ≤ n ∧ n ≤ hi) : inB n lo hi = true := by simp [inB, h]
theorem inB_false {n lo hi : Int} (h : ¬ (lo ≤ n ∧ n ≤ hi)) : inB n lo hi = false := by simp [inB]; omega
theorem inB_of {n lo hi : Int} (h : inB n lo hi = true) : lo ≤ n ∧ n ≤ hi := by simpa [inB] using h
theorem inB_not {n lo hi : Int} (h : inB n lo hi = false) : ¬ (lo ≤ n ∧ n ≤ hi) := by
  intro hh; rw [inB_true hh] at h; cases h
end Go.Proofs.YtogkonenejfgmaaDoor
