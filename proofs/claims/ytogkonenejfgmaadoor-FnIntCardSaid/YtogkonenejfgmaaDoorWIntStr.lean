/- The walk of IntStr (reference): an integer's decimal text. For every integer within the reach. -/
import Derived.Test.YtogkonenejfgmaaDoorWNatTextS
import Derived.Test.YtogkonenejfgmaaDoorWIntOk
namespace Go.Proofs.YtogkonenejfgmaaDoor
open Go.RowKit
def fIntStr (neg : Bool) (xs : List Int) : List UInt8 := if intB neg xs then (if neg then 45 :: natTxt xs else natTxt xs) else []
theorem intB_nat {neg : Bool} {xs : List Int} (h : intB neg xs = true) : natB xs = true := by
  unfold intB at h
  simp only [Bool.and_eq_true] at h
  exact h.1
theorem fIntStr_nat {neg : Bool} {xs : List Int} (h : intB neg xs = true) : fNatText xs = natTxt xs := by unfold fNatText; rw [intB_nat h]; rfl
theorem fIntStr_len {neg : Bool} {xs : List Int} : (fIntStr neg xs).length ≤ 500 := by
  unfold fIntStr
  split
  · rename_i h
    have h1 := natTxt_len (natB_ok (intB_nat h))
    have h2 := natB_le (intB_nat h)
    split
    · rw [List.length_cons]; omega
    · omega
  · simp
end Go.Proofs.YtogkonenejfgmaaDoor
