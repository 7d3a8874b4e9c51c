/- Plain lemmas on strings of bytes: what it means that all bytes lie in a range. No condition. No program. -/
import Derived.WalkKit
import Derived.WalkSpells
import Derived.WalkLawsBesides
import Derived.Lib.Hide
namespace Go.Proofs.Ytcibccaimjifmaa
open Go.RowKit

def bad (lo hi low high : Int) (c : UInt8) : Bool := (decide ((c.toNat : Int) < lo) || decide (hi < (c.toNat : Int))) && (decide ((c.toNat : Int) < low) || decide (high < (c.toNat : Int)))
def allB (lo hi low high : Int) (l : List UInt8) : Bool := l.all (fun c => !bad lo hi low high c) && !l.isEmpty

theorem take_snoc (s : ByteArray) (k : Nat) (h : k < s.size) : s.data.toList.take (k + 1) = s.data.toList.take k ++ [s[k]] := by
  rw [List.take_succ_eq_append_getElem (by simpa using h)]; rfl
theorem bad_true {lo hi low high : Int} {c : UInt8} (h : ((c.toNat : Int) < lo ∨ hi < (c.toNat : Int)) ∧ ((c.toNat : Int) < low ∨ high < (c.toNat : Int))) : bad lo hi low high c = true := by
  simp [bad]; omega
theorem bad_false {lo hi low high : Int} {c : UInt8} (h : ¬ (((c.toNat : Int) < lo ∨ hi < (c.toNat : Int)) ∧ ((c.toNat : Int) < low ∨ high < (c.toNat : Int)))) : bad lo hi low high c = false := by
  unfold bad; rw [Bool.and_eq_false_iff]; simp; omega
theorem allB_stop {lo hi low high : Int} (s : ByteArray) (k : Nat) (h : k < s.size) (hb : bad lo hi low high s[k] = true) : allB lo hi low high s.data.toList = false := by
  unfold allB
  have : s.data.toList.all (fun c => !bad lo hi low high c) = false := by
    rw [List.all_eq_false]; exact ⟨s[k], by simp [ByteArray.getElem_eq_getElem_data], by simp [hb]⟩
  rw [this]; rfl
theorem all_step {lo hi low high : Int} (s : ByteArray) (k : Nat) (h : k < s.size) (ha : (s.data.toList.take k).all (fun c => !bad lo hi low high c) = true) (hb : bad lo hi low high s[k] = false) : (s.data.toList.take (k + 1)).all (fun c => !bad lo hi low high c) = true := by
  rw [take_snoc s k h, List.all_append, ha]; simp [hb]
theorem allB_end {lo hi low high : Int} (s : ByteArray) (k : Nat) (h : ¬ k < s.size) (ha : (s.data.toList.take k).all (fun c => !bad lo hi low high c) = true) : allB lo hi low high s.data.toList = decide (0 < s.size) := by
  rw [List.take_of_length_le (by simp; omega)] at ha
  unfold allB; rw [ha, Bool.true_and, Bool.eq_iff_iff]
  cases hd : s.data.toList <;> simp
  · have := congrArg List.length hd; simpa using this
  · have := congrArg List.length hd; simp at this; omega
theorem ne_empty (s : ByteArray) : (!s.toList.isEmpty) = decide (0 < s.size) := by
  rw [ByteArray.toList_eq, Bool.eq_iff_iff]
  cases hd : s.data.toList <;> simp
  · have := congrArg List.length hd; simpa using this
  · have := congrArg List.length hd; simp at this; omega
theorem ret_eq {a b : Value} (h : a = b) : Ending.returned a = .returned b := by rw [h]
theorem ret_bool {a b : Bool} (h : a = b) : Ending.returned (.bool a) = .returned (.bool b) := by rw [h]

end Go.Proofs.Ytcibccaimjifmaa
