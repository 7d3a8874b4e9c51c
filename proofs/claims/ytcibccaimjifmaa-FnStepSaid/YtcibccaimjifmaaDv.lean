/- Plain arithmetic of the long division: the scale, the first rows, the end. No program. -/
import Derived.Test.YtcibccaimjifmaaLd
namespace Go.Proofs.Ytcibccaimjifmaa
def btop (n : Nat) : Int := (limbs n).getD ((limbs n).length - 1) 0
def scl (n : Nat) : Nat := 1000000000 / ((btop n).toNat + 1)
theorem btop_pos {n : Nat} (h : 0 < (limbs n).length) : 1 ≤ btop n ∧ btop n < 1000000000 := by
  have h1 := okL_get (limbs_ok n) ((limbs n).length - 1)
  have h2 := limbs_last n
  refine ⟨?_, h1.2⟩
  unfold btop
  by_cases e : (limbs n).getD ((limbs n).length - 1) 0 = 0
  · exfalso
    apply h2
    rw [List.getLast?_eq_getElem?, List.getElem?_eq_getElem (by omega)]
    rw [List.getD_eq_getElem?_getD, List.getElem?_eq_getElem (by omega)] at e
    simpa using e
  · omega
theorem scl_pos {n : Nat} (h : 0 < (limbs n).length) : 1 ≤ scl n ∧ scl n < 1000000000 := by
  have h1 := btop_pos h
  unfold scl
  refine ⟨?_, ?_⟩
  · rw [Nat.le_div_iff_mul_le (by omega)]; omega
  · rw [Nat.div_lt_iff_lt_mul (by omega)]; omega
theorem scl_mul {n : Nat} : ((btop n).toNat + 1) * scl n ≤ 1000000000 := by unfold scl; exact Nat.mul_div_le _ _
theorem n_lt_top {n : Nat} (h : 0 < (limbs n).length) : n < ((btop n).toNat + 1) * 1000000000 ^ ((limbs n).length - 1) := by
  have h1 := val_take_succ' (limbs n) ((limbs n).length - 1)
  rw [List.take_of_length_le (by omega), val_limbs] at h1
  have h2 := val_lt (okL_take (limbs_ok n) ((limbs n).length - 1))
  rw [List.length_take, Nat.min_eq_left (by omega), ← pow_cast] at h2
  rw [← pow_cast] at h1
  have h3 := btop_pos h
  have h4 : (limbs n).getD ((limbs n).length - 1) 0 = (((btop n).toNat : Nat) : Int) := by show btop n = _; omega
  rw [h4, ← Int.natCast_mul] at h1
  rw [Nat.add_mul, Nat.one_mul, Nat.mul_comm]
  omega
/-- the divisor times the scale keeps its length -/
theorem scl_len {n : Nat} (h : 0 < (limbs n).length) : (limbs (n * scl n)).length = (limbs n).length := by
  have h1 := n_lt_top h
  have h2 := scl_pos h
  have h3 : (limbs (n * scl n)).length ≤ (limbs n).length := by
    rw [limbs_len_le]
    have e : 1000000000 ^ (limbs n).length = 1000000000 * 1000000000 ^ ((limbs n).length - 1) := by
      rw [← Nat.pow_succ']; congr 1; omega
    rw [e]
    have h5 : n * scl n < ((btop n).toNat + 1) * 1000000000 ^ ((limbs n).length - 1) * scl n := Nat.mul_lt_mul_of_pos_right h1 (by omega)
    have h6 : ((btop n).toNat + 1) * 1000000000 ^ ((limbs n).length - 1) * scl n ≤ 1000000000 * 1000000000 ^ ((limbs n).length - 1) := by
      rw [Nat.mul_right_comm]; exact Nat.mul_le_mul_right _ scl_mul
    omega
  have h4 : (limbs n).length ≤ (limbs (n * scl n)).length := limbs_len_mono (Nat.le_mul_of_pos_right n (by omega))
  omega
theorem scl_len2 {m n : Nat} (h : 0 < (limbs n).length) : (limbs m).length ≤ (limbs (m * scl n)).length ∧ (limbs (m * scl n)).length ≤ (limbs m).length + 1 := by
  have h2 := scl_pos h
  refine ⟨limbs_len_mono (Nat.le_mul_of_pos_right m (by omega)), ?_⟩
  rw [limbs_len_le, Nat.pow_succ]
  exact Nat.mul_lt_mul'' (limbs_lt_val m) h2.2
theorem limbs_one {s : Nat} (h : 1 ≤ s ∧ s < 1000000000) : limbs s = [(s : Int)] := by
  rw [limbs_pos (by omega), Nat.div_eq_of_lt h.2, limbs_zero, Nat.mod_eq_of_lt h.2]
/-- the row of the dividend: the limbs and noughts behind them -/
def padRow (x k : Nat) : List Int := limbs x ++ List.replicate k 0
theorem padRow_ok (x k : Nat) : okL (padRow x k) := okL_append.2 ⟨limbs_ok x, okL_replicate k⟩
theorem padRow_val (x k : Nat) : val (padRow x k) = x := by unfold padRow; rw [val_append, val_replicate, val_limbs]; omega
theorem padRow_snoc (x k : Nat) : padRow x k ++ [0] = padRow x (k + 1) := by unfold padRow; rw [List.append_assoc, ← List.replicate_succ']
theorem padRow_len (x k : Nat) : (padRow x k).length = (limbs x).length + k := by simp [padRow]
theorem DvInv.start {m n k : Nat} (hN : 0 < (limbs n).length) (hmn : (limbs n).length ≤ (limbs m).length) (hk : (padRow (m * scl n) k).length = (limbs m).length + 1) :
    DvInv ((n * scl n : Nat) : Int) (limbs n).length (padRow (m * scl n) k) ((limbs m).length + 1 - (limbs n).length) (padRow (m * scl n) k) (List.replicate ((limbs m).length + 1 - (limbs n).length) 0) := by
  refine ⟨rfl, by rw [List.length_replicate, hk]; omega, padRow_ok _ _, okL_replicate _, rfl, ?_, ?_⟩
  · rw [show (List.replicate ((limbs m).length + 1 - (limbs n).length) (0 : Int)).drop ((limbs m).length + 1 - (limbs n).length) = [] from List.drop_of_length_le (by simp)]
    show _ = 0 * _ + _
    omega
  · have h1 := val_split (padRow (m * scl n) k) ((limbs m).length + 1 - (limbs n).length) (by omega)
    rw [padRow_val] at h1
    have h2 := val_nonneg (okL_take (padRow_ok (m * scl n) k) ((limbs m).length + 1 - (limbs n).length))
    have hp := pow_pos' ((limbs m).length + 1 - (limbs n).length)
    have h3 : m * scl n < 1000000000 ^ ((limbs m).length + 1 - (limbs n).length) * (n * scl n) := by
      have g1 := limbs_lt_val m
      have g2 : 1000000000 ^ ((limbs n).length - 1) ≤ n := limbs_le_val (by omega)
      have g3 : 1000000000 ^ (limbs m).length ≤ 1000000000 ^ ((limbs m).length + 1 - (limbs n).length) * n := by
        have e : (limbs m).length = ((limbs m).length + 1 - (limbs n).length) + ((limbs n).length - 1) := by omega
        calc 1000000000 ^ (limbs m).length = 1000000000 ^ ((limbs m).length + 1 - (limbs n).length) * 1000000000 ^ ((limbs n).length - 1) := by rw [← Nat.pow_add, ← e]
          _ ≤ _ := Nat.mul_le_mul_left _ g2
      rw [← Nat.mul_assoc]
      exact Nat.mul_lt_mul_of_pos_right (by omega) (scl_pos hN).1
    have h4 : ((m * scl n : Nat) : Int) < 1000000000 ^ ((limbs m).length + 1 - (limbs n).length) * ((n * scl n : Nat) : Int) := by
      rw [← pow_cast, ← Int.natCast_mul]; omega
    generalize (1000000000 : Int) ^ ((limbs m).length + 1 - (limbs n).length) = p at *
    generalize ((n * scl n : Nat) : Int) = V at *
    generalize val ((padRow (m * scl n) k).drop ((limbs m).length + 1 - (limbs n).length)) = d at *
    by_cases hd : V ≤ d
    · have := Int.mul_le_mul_of_nonneg_left hd (Int.le_of_lt hp)
      omega
    · omega
theorem DvInv.done {m n k : Nat} {us qs : List Int} (hN : 0 < (limbs n).length) (h : DvInv ((n * scl n : Nat) : Int) (limbs n).length (padRow (m * scl n) k) 0 us qs) :
    trimL qs = limbs (m / n) ∧ trimL us = limbs (m % n * scl n) ∧ m % n * scl n / scl n = m % n := by
  obtain ⟨g1, g2, g3, g4, g5, g6, g7⟩ := h
  rw [List.drop_zero, List.drop_zero, List.drop_zero, padRow_val] at g6
  rw [List.drop_zero] at g7
  have hs := scl_pos hN
  have u0 := val_nonneg g3
  have q0 := val_nonneg g4
  obtain ⟨U, hU⟩ := Int.eq_ofNat_of_zero_le u0
  obtain ⟨Q, hQ⟩ := Int.eq_ofNat_of_zero_le q0
  rw [hU, hQ] at g6
  rw [hU] at g7
  have e : m * scl n = Q * (n * scl n) + U := by exact_mod_cast g6
  have lt : U < n * scl n := by exact_mod_cast g7
  have d1 : m * scl n / (n * scl n) = Q := by
    rw [e, Nat.mul_comm, Nat.mul_add_div (by omega), Nat.div_eq_of_lt lt]; omega
  have d2 : m * scl n % (n * scl n) = U := by rw [e, Nat.mul_comm, Nat.mul_add_mod, Nat.mod_eq_of_lt lt]
  rw [Nat.mul_div_mul_right _ _ (by omega)] at d1
  rw [Nat.mul_mod_mul_right] at d2
  refine ⟨?_, ?_, Nat.mul_div_cancel _ (by omega)⟩
  · rw [trimL_limbs g4, hQ, d1]; rfl
  · rw [trimL_limbs g3, hU, d2]; rfl
theorem top_len_pos {n : Nat} {N : Nat} (h : (limbs n).length = N) (h0 : 0 < N) : 0 < (limbs n).getD (N - 1) 0 := by
  subst h
  exact (btop_pos h0).1
end Go.Proofs.Ytcibccaimjifmaa
