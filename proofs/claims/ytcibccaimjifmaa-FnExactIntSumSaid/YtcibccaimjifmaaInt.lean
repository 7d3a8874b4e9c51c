/- Plain facts on signed integers. No program. -/
import Derived.Test.YtcibccaimjifmaaWSigned
namespace Go.Proofs.Ytcibccaimjifmaa
def zOf (neg : Bool) (n : Nat) : Int := if neg then -(n : Int) else (n : Int)
def sg (z : Int) : Bool × List Int := (decide (z < 0), limbs z.natAbs)
def sv (neg : Bool) (xs : List Int) : Int := zOf neg (nv xs)
def capZ (z : Int) : Int := if 50 < (limbs z.natAbs).length then 0 else z
theorem limbs_len0 (n : Nat) : decide (0 < (limbs n).length) = decide (n ≠ 0) := by
  by_cases h : n = 0
  · subst h; rfl
  · rw [limbs_pos h]; simp [h]
theorem limbs_len_pos {n : Nat} : 0 < (limbs n).length ↔ n ≠ 0 := by
  have := limbs_len0 n; exact decide_eq_decide.1 this
theorem sg_zOf (neg : Bool) (n : Nat) : sg (zOf neg n) = (neg && decide (0 < (limbs n).length), limbs n) := by
  rw [limbs_len0]
  unfold sg zOf
  cases neg
  · simp
  · by_cases h : n = 0
    · simp [h]
    · simp [h]; omega
theorem zOf_abs (neg : Bool) (n : Nat) : (zOf neg n).natAbs = n := by unfold zOf; cases neg <;> simp
theorem zOf_add (neg : Bool) (m n : Nat) : zOf neg m + zOf neg n = zOf neg (m + n) := by unfold zOf; cases neg <;> simp; omega
theorem zOf_sub {b1 b2 : Bool} (hb : b1 ≠ b2) {m n : Nat} (h : n ≤ m) : zOf b1 m + zOf b2 n = zOf b1 (m - n) := by
  unfold zOf; cases b1 <;> cases b2 <;> simp at * <;> omega
theorem zOf_mul (b1 b2 : Bool) (m n : Nat) : zOf b1 m * zOf b2 n = zOf (b1 != b2) (m * n) := by
  unfold zOf; cases b1 <;> cases b2 <;> simp [Int.neg_mul, Int.mul_neg]
theorem zOf_neg (b : Bool) (n : Nat) : -(zOf b n) = zOf (!b) n := by unfold zOf; cases b <;> simp
theorem capZ_zOf (b : Bool) (n : Nat) : capZ (zOf b n) = zOf b (capV n) := by
  unfold capZ capV; rw [zOf_abs]; split
  · cases b <;> rfl
  · rfl
theorem capZ_len (z : Int) : (limbs (capZ z).natAbs).length ≤ 50 := by
  unfold capZ; split
  · simp [limbs_zero]
  · omega
theorem sg_of (z : Int) : ∃ b n, z = zOf b n ∧ sg z = (b, limbs n) ∧ (b = true → n ≠ 0) := by
  refine ⟨decide (z < 0), z.natAbs, ?_, rfl, ?_⟩
  · unfold zOf; by_cases h : z < 0 <;> simp [h] <;> omega
  · intro h; simp at h; omega
theorem intB_elim {neg : Bool} {xs : List Int} (h : intB neg xs = true) : ∃ n, xs = limbs n ∧ (limbs n).length ≤ 50 ∧ (neg = true → n ≠ 0) ∧ sv neg xs = zOf neg n ∧ neg = (neg && decide (0 < (limbs n).length)) := by
  unfold intB at h
  simp only [Bool.and_eq_true] at h
  obtain ⟨n, rfl, hn⟩ := natB_elim h.1
  have h2 := h.2
  refine ⟨n, rfl, hn, ?_, ?_, ?_⟩
  · intro hg; subst hg
    rw [limbs_len0] at h2
    simpa using h2
  · unfold sv; rw [nv_limbs]
  · cases neg
    · rfl
    · simpa using h2.symm
theorem intB_sg {z : Int} (h : (limbs z.natAbs).length ≤ 50) : intB (sg z).1 (sg z).2 = true := by
  unfold intB sg
  simp only [natB_of h, Bool.true_and]
  rw [limbs_len0]
  by_cases h0 : z < 0
  · have : z.natAbs ≠ 0 := by omega
    simp [h0, this]
  · simp [h0]
theorem sv_sg (z : Int) : sv (sg z).1 (sg z).2 = z := by
  unfold sv sg zOf; rw [nv_limbs]
  by_cases h : z < 0 <;> simp [h] <;> omega
theorem len_mul (m n : Nat) : (limbs (m * n)).length ≤ (limbs m).length + (limbs n).length := by
  rw [limbs_len_le, Nat.pow_add]
  exact Nat.mul_lt_mul'' (limbs_lt_val m) (limbs_lt_val n)
theorem len_add (m n : Nat) : (limbs (m + n)).length ≤ (limbs m).length + (limbs n).length + 1 := by
  rw [limbs_len_le]
  have h1 := limbs_lt_val m
  have h2 := limbs_lt_val n
  have h3 : 1000000000 ^ (limbs m).length ≤ 1000000000 ^ ((limbs m).length + (limbs n).length) := Nat.pow_le_pow_right (by omega) (by omega)
  have h4 : 1000000000 ^ (limbs n).length ≤ 1000000000 ^ ((limbs m).length + (limbs n).length) := Nat.pow_le_pow_right (by omega) (by omega)
  rw [Nat.pow_succ]; omega
theorem len_sub (m n : Nat) : (limbs (m - n)).length ≤ (limbs m).length := limbs_len_mono (by omega)
def fNeg (neg : Bool) (xs : List Int) : Bool × List Int := if intB neg xs then sg (-(sv neg xs)) else (false, [])
def fAbs (neg : Bool) (xs : List Int) : Bool × List Int := if intB neg xs then sg (sv neg xs).natAbs else (false, [])
def fIAdd (b1 : Bool) (xs : List Int) (b2 : Bool) (ys : List Int) : Bool × List Int := if intB b1 xs && intB b2 ys then sg (capZ (sv b1 xs + sv b2 ys)) else (false, [])
def fISub (b1 : Bool) (xs : List Int) (b2 : Bool) (ys : List Int) : Bool × List Int := if intB b1 xs && intB b2 ys then sg (capZ (sv b1 xs - sv b2 ys)) else (false, [])
def fIMul (b1 : Bool) (xs : List Int) (b2 : Bool) (ys : List Int) : Bool × List Int := if intB b1 xs && intB b2 ys then sg (capZ (sv b1 xs * sv b2 ys)) else (false, [])
def sgnZ (z : Int) : Int := if z < 0 then -1 else if z = 0 then 0 else 1
def fICmp (b1 : Bool) (xs : List Int) (b2 : Bool) (ys : List Int) : Int := if intB b1 xs && intB b2 ys then sgnZ (sv b1 xs - sv b2 ys) else 0
def fISign (b1 : Bool) (xs : List Int) : Int := if intB b1 xs then sgnZ (sv b1 xs) else 0
def fINum (neg : Bool) (xs : List Int) : Int × Bool := if intB neg xs = true ∧ nv xs ≤ 9223372036854775807 then (sv neg xs, true) else (0, false)
end Go.Proofs.Ytcibccaimjifmaa
