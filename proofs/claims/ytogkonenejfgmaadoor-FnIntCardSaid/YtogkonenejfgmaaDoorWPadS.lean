/- The walk of Pad (reference). For every text within the reach. -/
import Derived.Test.YtogkonenejfgmaaDoorMem
import Derived.Test.YtogkonenejfgmaaDoorStr
import Derived.Lib.Agree
namespace Go.Proofs.YtogkonenejfgmaaDoor
open Go.RowKit
def padB (k : Nat) (s : ByteArray) : ByteArray := ⟨(List.replicate k (48 : UInt8)).toArray ++ s.data⟩
theorem padB_zero (s : ByteArray) : padB 0 s = s := by apply ByteArray.ext; simp [padB]
theorem padB_succ (k : Nat) (s : ByteArray) : ByteArray.mk #[48] ++ padB k s = padB (k + 1) s := by
  apply ByteArray.ext
  rw [ByteArray.data_append]
  simp only [padB]
  rw [← Array.append_assoc]
  congr 1
  simp [List.replicate_succ]
theorem padB_size (k : Nat) (s : ByteArray) : (padB k s).size = k + s.size := by
  show (padB k s).data.size = _
  simp only [padB, Array.size_append]
  simp
def fPad (s : ByteArray) (z : Int) : ByteArray := if z ≤ 2000 then padB (z.toNat - s.size) s else s
end Go.Proofs.YtogkonenejfgmaaDoor
