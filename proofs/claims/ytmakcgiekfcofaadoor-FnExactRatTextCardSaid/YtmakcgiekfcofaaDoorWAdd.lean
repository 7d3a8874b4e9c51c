/- The walks of l02Add, NatAdd (reference) and natAdd, NatAdd (program): the sum of two natural numbers. For every two slices within the reach. -/
import Derived.Test.YtmakcgiekfcofaaDoorWCmp
namespace Go.Proofs.YtmakcgiekfcofaaDoor
open Go.RowKit

theorem l02_lenAdd {m n : Nat} (hm : (limbs m).length ≤ 50) (hn : (limbs n).length ≤ 50) : (limbs (m + n)).length ≤ 51 := by
  rw [limbs_len_le] at *
  have : (1000000000 : Nat) ^ 51 = 1000000000 ^ 50 * 1000000000 := by rw [show (51 : Nat) = 50 + 1 from rfl, Nat.pow_succ]
  generalize (1000000000 : Nat) ^ 50 = p at *
  generalize (1000000000 : Nat) ^ 51 = q at *
  omega

theorem fAdd_no {xs ys : List Int} (h : (natB xs && natB ys) = false) : fAdd xs ys = [] := by unfold fAdd; rw [h]; rfl
theorem fAdd_yes {m n : Nat} (h1 : natB (limbs m) = true) (h2 : natB (limbs n) = true) : fAdd (limbs m) (limbs n) = limbs (capV (m + n)) := by
  unfold fAdd; rw [h1, h2, nv_limbs, nv_limbs]; rfl
end Go.Proofs.YtmakcgiekfcofaaDoor
