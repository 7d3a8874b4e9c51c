/- The walks of the laws' helpers for slices of strings: markText, eqStringS, markStringS, heldStringS. -/
import Derived.Test.YtogkonenejfgmaaDoorMemS
import Derived.Test.YtogkonenejfgmaaDoorStr
import Derived.Test.YtogkonenejfgmaaDoorWEqInt
import Derived.Deep.QuietTactic
import Derived.BigQuiet
import Derived.Laws.IdiomStrings
import Derived.Deep.RegionHeld3
namespace Go.Proofs.YtogkonenejfgmaaDoor
open Go.RowKit
def mtF : Nat → Nat → List UInt8
  | 0, _ => []
  | f + 1, k => if k = 0 then [] else mtF f (k / 10) ++ [UInt8.ofNat (48 + k % 10)]
theorem mtF_fuel : ∀ (f g k : Nat), k ≤ f → k ≤ g → mtF f k = mtF g k
  | 0, 0, _, _, _ => rfl
  | 0, g + 1, k, h, _ => by obtain rfl : k = 0 := by omega
                            simp [mtF]
  | f + 1, 0, k, _, h => by obtain rfl : k = 0 := by omega
                            simp [mtF]
  | f + 1, g + 1, k, h1, h2 => by
    unfold mtF
    split
    · rfl
    · rw [mtF_fuel f g (k / 10) (by omega) (by omega)]
def mtd (k : Nat) : List UInt8 := mtF k k
theorem mtd_zero : mtd 0 = [] := rfl
theorem mtd_pos {k : Nat} (h : k ≠ 0) : mtd k = mtd (k / 10) ++ [UInt8.ofNat (48 + k % 10)] := by
  obtain ⟨n, rfl⟩ : ∃ n, k = n + 1 := ⟨k - 1, by omega⟩
  show mtF (n + 1) (n + 1) = mtF ((n + 1) / 10) ((n + 1) / 10) ++ _
  rw [mtF, if_neg (by omega), mtF_fuel n ((n + 1) / 10) ((n + 1) / 10) (by omega) (Nat.le_refl _)]
def mt (k : Int) : ByteArray := if k ≤ 0 then ⟨#[109, 48]⟩ else ⟨#[109]⟩ ++ ⟨(mtd k.toNat).toArray⟩
def marksS (k : Int) : Nat → List ByteArray
  | 0 => []
  | n + 1 => marksS k n ++ [mt (k + n)]
theorem marksS_length (k : Int) : ∀ n, (marksS k n).length = n
  | 0 => rfl
  | n + 1 => by simp [marksS, marksS_length k n]
theorem marksS_getD (k : Int) : ∀ (n i : Nat), i < n → (marksS k n).getD i ByteArray.empty = mt (k + i)
  | 0, i, h => by omega
  | n + 1, i, h => by
    unfold marksS
    by_cases e : i < n
    · rw [List.getD_eq_getElem?_getD, List.getElem?_append_left (by rw [marksS_length]; exact e), ← List.getD_eq_getElem?_getD, marksS_getD k n i e]
    · have : i = n := by omega
      subst this
      rw [List.getD_eq_getElem?_getD, List.getElem?_append_right (by rw [marksS_length]; exact Nat.le_refl _), marksS_length]
      simp
theorem dropS_cons (xs : List ByteArray) (k : Nat) (h : k < xs.length) : xs.drop k = xs.getD k ByteArray.empty :: xs.drop (k + 1) := by
  rw [List.drop_eq_getElem_cons h]; simp [List.getD, h]
theorem marksS_step {xs : List ByteArray} {k : Int} {i : Nat} (h : i < xs.length) : (marksS k i ++ xs.drop i).set i (mt (k + i)) = marksS k (i + 1) ++ xs.drop (i + 1) := by
  rw [List.set_append_right _ _ (by rw [marksS_length]; exact Nat.le_refl _), marksS_length, Nat.sub_self, dropS_cons xs i h]
  simp [marksS]
end Go.Proofs.YtogkonenejfgmaaDoor
