/- The walks of NatInt (reference and program): the value of a nat as an int. For every slice within the reach. -/
import Derived.Test.YtcibccaimjifmaaWCmp
import Derived.Test.YtcibccaimjifmaaWNatOf
namespace Go.Proofs.Ytcibccaimjifmaa
open Go.RowKit
def maxN : Nat := 9223372036854775807
theorem maxN_limbs : limbs maxN = [854775807, 223372036, 9] := by
  unfold maxN
  rw [limbs_pos (by omega), limbs_pos (by omega), limbs_pos (by omega)]
  rw [show (9223372036854775807 : Nat) / 1000000000 / 1000000000 / 1000000000 = 0 from by omega, limbs_zero]
  rw [show (9223372036854775807 : Nat) % 1000000000 = 854775807 from by omega, show (9223372036854775807 : Nat) / 1000000000 % 1000000000 = 223372036 from by omega, show (9223372036854775807 : Nat) / 1000000000 / 1000000000 % 1000000000 = 9 from by omega]
  rfl
def fInt (xs : List Int) : Int × Bool := if natB xs = true ∧ nv xs ≤ maxN then ((nv xs : Int), true) else (0, false)
theorem fInt_yes {n : Nat} (h : natB (limbs n) = true) (h2 : n ≤ maxN) : fInt (limbs n) = ((n : Int), true) := by
  unfold fInt; rw [nv_limbs, if_pos ⟨h, h2⟩]
theorem fInt_no1 {xs : List Int} (h : natB xs = false) : fInt xs = (0, false) := by unfold fInt; rw [h]; simp
theorem fInt_no2 {n : Nat} (h2 : maxN < n) : fInt (limbs n) = (0, false) := by
  unfold fInt; rw [nv_limbs, if_neg (by omega)]
theorem val_drop_le (n k : Nat) : 0 ≤ val ((limbs n).drop k) ∧ val ((limbs n).drop k) ≤ n := by
  have h0 := val_nonneg (okL_drop (limbs_ok n) k)
  refine ⟨h0, ?_⟩
  by_cases h : k ≤ (limbs n).length
  · have h1 := val_split (limbs n) k h
    rw [val_limbs] at h1
    have h2 := val_nonneg (okL_take (limbs_ok n) k)
    have h3 : 1 * val ((limbs n).drop k) ≤ 1000000000 ^ k * val ((limbs n).drop k) := Int.mul_le_mul_of_nonneg_right (by have := pow_pos' k; omega) h0
    omega
  · rw [List.drop_of_length_le (by omega)]; simp [val]
theorem val_drop_step {xs : List Int} {k : Nat} (hk : k < xs.length) : val (xs.drop k) = val (xs.drop (k + 1)) * 1000000000 + xs.getD k 0 := by
  rw [drop_cons_getD xs k hk]
  show xs.getD k 0 + 1000000000 * _ = _
  omega
theorem cmp_pos {m n : Nat} (h : n < m) : 0 < cmpN m n := by rw [cmpN_gt h]; omega
theorem cmp_npos {m n : Nat} (h : ¬ n < m) : ¬ 0 < cmpN m n := by
  unfold cmpN; split
  · omega
  · split <;> omega
theorem Own.lit (w : World) (B : Nat) (x y z : Int) (hB : B ≤ w.heap.size) : Own (w.alloc (.cells #[.int .i64 x, .int .i64 y, .int .i64 z] 3)) B (some ⟨w.heap.size, 0, none⟩) 3 [x, y, z] :=
  World.ownsRow_lit w #[.int .i64 x, .int .i64 y, .int .i64 z] 3 hB (by unfold maxLen; omega) rfl
def IntInv (n : Nat) (i t : Value) : Prop :=
  (i = .int .i64 (-1) ∧ t = .int .i64 (val ((limbs n).drop 0))) ∨ ∃ k : Nat, k < (limbs n).length ∧ i = .int .i64 k ∧ t = .int .i64 (val ((limbs n).drop (k + 1)))
theorem IntInv.start (n : Nat) : IntInv n (.int .i64 ((limbs n).length - 1)) (.int .i64 0) := by
  by_cases h0 : (limbs n).length = 0
  · left
    rw [List.eq_nil_of_length_eq_zero h0]
    exact ⟨rfl, rfl⟩
  · right
    refine ⟨(limbs n).length - 1, by omega, by go_num, ?_⟩
    rw [List.drop_of_length_le (by omega)]; rfl

end Go.Proofs.Ytcibccaimjifmaa
