/- The walks of intSign, intCmp, IntSign, IntCmp (program and reference). For every two integers within the reach. -/
import Derived.Test.YtcibccaimjifmaaWIntFn
namespace Go.Proofs.Ytcibccaimjifmaa
open Go.RowKit
theorem sgnZ_pos {z : Int} (h : 0 < z) : sgnZ z = 1 := by unfold sgnZ; rw [if_neg (by omega), if_neg (by omega)]
theorem sgnZ_neg {z : Int} (h : z < 0) : sgnZ z = -1 := by unfold sgnZ; rw [if_pos h]
theorem cmpN_sgn (m n : Nat) : cmpN m n = sgnZ ((m : Int) - n) := by
  unfold cmpN
  by_cases h : m < n
  · rw [if_pos h, sgnZ_neg (by omega)]
  · by_cases e : m = n
    · subst e; rw [if_neg h, if_pos rfl, Int.sub_self]; rfl
    · rw [if_neg h, if_neg e, sgnZ_pos (by omega)]
theorem intSign_any (neg : Bool) (a : Option Addr) (c k : Nat) (w : World) (hl : (limbs k).length ≤ 100000) :
    Calls Try.prog 68 #[.agg #[.bool neg, .slice a (limbs k).length c]] w fun e w' => e = .returned (.int .i64 (sgnZ (zOf neg k))) ∧ Below w.heap.size w w' := by
  have hA := bel_alloc w (.cells #[.bool neg, .slice a (limbs k).length c] 26)
  by_cases h0 : k = 0
  · subst h0
    have e1 : (limbs 0).length = 0 := by rw [limbs_zero]; rfl
    have e2 : sgnZ (zOf neg 0) = 0 := by cases neg <;> rfl
    rw [e1] at hA ⊢
    rw [e2]
    go_enter Try.func68, Try.ntmps68
    go_wp2
    go_ret
    exact ⟨rfl, hA⟩
  · have hp := limbs_len_pos.2 h0
    have hz1 : ((limbs k).length : Int) ≠ 0 := by omega
    have hz2 : (((limbs k).length : Int) == 0) = false := by rw [beq_eq_false_iff_ne]; omega
    cases neg
    · have e2 : sgnZ (zOf false k) = 1 := sgnZ_pos (by unfold zOf; simp; omega)
      rw [e2]
      go_enter Try.func68, Try.ntmps68
      go_wp2
      go_ret
      exact ⟨rfl, hA⟩
    · have e2 : sgnZ (zOf true k) = -1 := sgnZ_neg (by unfold zOf; simp; omega)
      rw [e2]
      go_enter Try.func68, Try.ntmps68
      go_wp2
      go_ret
      exact ⟨rfl, hA⟩
end Go.Proofs.Ytcibccaimjifmaa
