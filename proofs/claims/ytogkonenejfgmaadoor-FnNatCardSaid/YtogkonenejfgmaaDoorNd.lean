/- Plain facts on the decimal digits of a number. No program. -/
import Derived.Test.YtogkonenejfgmaaDoorWTextNat
import Derived.Test.YtogkonenejfgmaaDoorTx
namespace Go.Proofs.YtogkonenejfgmaaDoor
open Go.Lib (decDigits itoa)
theorem numB_dec (m : Nat) (ls : (decDigits m).length ≤ 450) : numB (decDigits m) = true := by
  obtain ⟨h1, h2, h3⟩ := canon_dec m
  unfold numB
  rw [Bool.and_eq_true, Bool.and_eq_true, decide_eq_true_eq]
  refine ⟨⟨?_, ls⟩, ?_⟩
  · unfold allB
    rw [Bool.and_eq_true, List.all_eq_true]
    refine ⟨fun c hc => ?_, ?_⟩
    · have := h1 c hc; simp [bad]; omega
    · cases hd : decDigits m with
      | nil => exact absurd hd h2
      | cons c r => rfl
  · rw [Bool.not_eq_true', Bool.and_eq_false_iff]
    rcases h3 with h | h
    · right; rw [beq_eq_false_iff_ne]; exact h
    · left; rw [decide_eq_false_iff_not]; omega
theorem dec_len_limbs {m k : Nat} (h0 : 0 < k) (h : (limbs m).length ≤ k) : (decDigits m).length ≤ 9 * k := by
  refine dec_len _ _ (by omega) ?_
  have h2 := limbs_len_le.1 h
  rwa [Nat.pow_mul]
end Go.Proofs.YtogkonenejfgmaaDoor
