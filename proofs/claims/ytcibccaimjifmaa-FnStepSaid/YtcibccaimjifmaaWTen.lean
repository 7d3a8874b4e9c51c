/- The walks of NatTen (reference), natTen and NatTen (program): a power of ten. For every number. -/
import Derived.Test.YtcibccaimjifmaaMem
import Derived.Test.YtcibccaimjifmaaNat
import Derived.Test.YtcibccaimjifmaaStr
import Derived.Test.YtcibccaimjifmaaWIn
namespace Go.Proofs.Ytcibccaimjifmaa
open Go.RowKit
theorem ten_limbs (k : Nat) : List.replicate (k / 9) 0 ++ [((10 ^ (k % 9) : Nat) : Int)] = limbs (10 ^ k) := by
  have h9 : (10 : Nat) ^ 9 = 1000000000 := rfl
  have e : (10 : Nat) ^ k = 1000000000 ^ (k / 9) * 10 ^ (k % 9) := by
    rw [← h9, ← Nat.pow_mul, ← Nat.pow_add, Nat.div_add_mod]
  have h1 : (10 : Nat) ^ (k % 9) ≤ 10 ^ 8 := Nat.pow_le_pow_right (by omega) (by omega)
  have h2 : 0 < (10 : Nat) ^ (k % 9) := Nat.pow_pos (by omega)
  have h3 : (10 : Nat) ^ 8 = 100000000 := rfl
  refine limbs_of_len ?_ ?_ ?_
  · refine okL_snoc (okL_replicate _) ⟨by omega, by omega⟩
  · rw [val_snoc, val_replicate, List.length_replicate, e, ← pow_cast]; simp
  · right
    rw [List.length_append, List.length_replicate, e]
    show 1000000000 ^ (k / 9 + 1 - 1) ≤ _
    rw [Nat.add_sub_cancel]
    exact Nat.le_mul_of_pos_right _ h2
theorem ten_small {i : Nat} (h : i ≤ 8) : 1 ≤ (10 : Nat) ^ i ∧ (10 : Nat) ^ i ≤ 100000000 := by
  have h1 : (10 : Nat) ^ i ≤ 10 ^ 8 := Nat.pow_le_pow_right (by omega) h
  have h2 : 0 < (10 : Nat) ^ i := Nat.pow_pos (by omega)
  have h3 : (10 : Nat) ^ 8 = 100000000 := rfl
  omega
theorem ten_len {k : Nat} (h : k ≤ 449) : (limbs (10 ^ k)).length ≤ 50 := by
  rw [← ten_limbs]; simp; omega
theorem ten_next (i : Nat) : (((10 ^ i : Nat) : Int) * 10) = ((10 ^ (i + 1) : Nat) : Int) := by rw [Nat.pow_succ]; simp

def fTen (z : Int) : List Int := if 0 ≤ z ∧ z ≤ 449 then limbs (10 ^ z.toNat) else []
theorem fTen_yes {k : Nat} (h : k ≤ 449) : fTen k = limbs (10 ^ k) := by unfold fTen; rw [if_pos (by omega)]; rfl
theorem fTen_no {z : Int} (h : ¬ (0 ≤ z ∧ z ≤ 449)) : fTen z = [] := if_neg h
end Go.Proofs.Ytcibccaimjifmaa
