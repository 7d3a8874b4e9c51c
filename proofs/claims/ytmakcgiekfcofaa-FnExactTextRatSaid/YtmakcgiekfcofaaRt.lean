/- Plain facts on fractions. No program's step. -/
import Derived.Test.YtmakcgiekfcofaaInt
import Derived.Test.YtmakcgiekfcofaaWDivI
namespace Go.Proofs.Ytmakcgiekfcofaa
def ratB (neg : Bool) (xs ys : List Int) : Bool :=
  intB neg xs && natB ys && decide (0 < ys.length) && decide (ys.length ≤ 18) && decide (xs.length ≤ 18) && (Nat.gcd (nv xs) (nv ys) == 1)
theorem ratB_elim {neg : Bool} {xs ys : List Int} (h : ratB neg xs ys = true) : ∃ m n, xs = limbs m ∧ ys = limbs n ∧ (limbs m).length ≤ 18 ∧ (limbs n).length ≤ 18 ∧ 0 < n ∧ Nat.gcd m n = 1 ∧ (neg = true → m ≠ 0) ∧ intB neg (limbs m) = true ∧ natB (limbs n) = true ∧ neg = (neg && decide (0 < (limbs m).length)) ∧ sv neg xs = zOf neg m := by
  unfold ratB at h
  simp only [Bool.and_eq_true, decide_eq_true_eq, beq_iff_eq] at h
  obtain ⟨⟨⟨⟨⟨h1, h2⟩, h3⟩, h4⟩, h5⟩, h6⟩ := h
  obtain ⟨m, rfl, hm, hg, hs, he⟩ := intB_elim h1
  obtain ⟨n, rfl, hn⟩ := natB_elim h2
  rw [nv_limbs, nv_limbs] at h6
  exact ⟨m, n, rfl, rfl, h5, h4, limbs_pos_iff.1 h3, h6, hg, h1, h2, he, hs⟩
theorem ratB_of {neg : Bool} {m n : Nat} (h1 : (limbs m).length ≤ 18) (h2 : (limbs n).length ≤ 18) (h3 : 0 < n) (h4 : Nat.gcd m n = 1) (h5 : neg = true → m ≠ 0) : ratB neg (limbs m) (limbs n) = true := by
  unfold ratB intB
  rw [natB_of (by omega), natB_of (by omega), nv_limbs, nv_limbs, h4, limbs_len0, limbs_len0]
  cases neg
  · simp [h1, h2]; omega
  · simp [h1, h2, h5 rfl]; omega
def low (neg : Bool) (m n : Nat) : (Bool × List Int × List Int) × Bool :=
  if 18 < (limbs (m / Nat.gcd m n)).length ∨ 18 < (limbs (n / Nat.gcd m n)).length then ((false, [], []), false)
  else ((neg && decide (0 < (limbs (m / Nat.gcd m n)).length), limbs (m / Nat.gcd m n), limbs (n / Nat.gcd m n)), true)
def ratZ : (Bool × List Int × List Int) × Bool := ((false, [], []), false)
theorem low_no {neg : Bool} {m n : Nat} (h : 18 < (limbs (m / Nat.gcd m n)).length ∨ 18 < (limbs (n / Nat.gcd m n)).length) : low neg m n = ratZ := by unfold low; rw [if_pos h]; rfl
theorem low_yes {neg : Bool} {m n : Nat} (h1 : (limbs (m / Nat.gcd m n)).length ≤ 18) (h2 : (limbs (n / Nat.gcd m n)).length ≤ 18) :
    low neg m n = ((neg && decide (0 < (limbs (m / Nat.gcd m n)).length), limbs (m / Nat.gcd m n), limbs (n / Nat.gcd m n)), true) := by unfold low; rw [if_neg (by omega)]
theorem low_and (neg : Bool) (m n : Nat) : low (neg && decide (0 < (limbs m).length)) m n = low neg m n := by
  unfold low
  split
  · rfl
  · congr 2
    by_cases h : m = 0
    · subst h; simp [limbs_zero]
    · rw [limbs_len0]; simp [h]
def fRatOk (neg : Bool) (xs ys : List Int) : Bool := ratB neg xs ys
def fRatHalf (neg : Bool) (xs ys : List Int) : Bool := ratB neg xs ys && decide (nv ys = 2)
def fRatMake (b1 : Bool) (xs : List Int) (b2 : Bool) (ys : List Int) : (Bool × List Int × List Int) × Bool := if intB b1 xs && intB b2 ys && decide (0 < ys.length) then low (b1 != b2) (nv xs) (nv ys) else ratZ
def fRatInt (b1 : Bool) (xs : List Int) : (Bool × List Int × List Int) × Bool := fRatMake b1 xs false (limbs 1)
def fRatNeg (b1 : Bool) (xs ys : List Int) : (Bool × List Int × List Int) × Bool := if ratB b1 xs ys then (((!b1) && decide (0 < xs.length), xs, ys), true) else ratZ
def fRatMul (b1 : Bool) (xs ys : List Int) (b2 : Bool) (us vs : List Int) : (Bool × List Int × List Int) × Bool := if ratB b1 xs ys && ratB b2 us vs then low (b1 != b2) (nv xs * nv us) (nv ys * nv vs) else ratZ
def fRatDiv (b1 : Bool) (xs ys : List Int) (b2 : Bool) (us vs : List Int) : (Bool × List Int × List Int) × Bool := if ratB b1 xs ys && ratB b2 us vs && decide (0 < us.length) then low (b1 != b2) (nv xs * nv vs) (nv ys * nv us) else ratZ
def addZ (b1 : Bool) (xs ys : List Int) (b2 : Bool) (us vs : List Int) : Int := zOf b1 (nv xs * nv vs) + zOf b2 (nv us * nv ys)
def fRatAdd (b1 : Bool) (xs ys : List Int) (b2 : Bool) (us vs : List Int) : (Bool × List Int × List Int) × Bool := if ratB b1 xs ys && ratB b2 us vs then low (decide (addZ b1 xs ys b2 us vs < 0)) (addZ b1 xs ys b2 us vs).natAbs (nv ys * nv vs) else ratZ
def fRatSub (b1 : Bool) (xs ys : List Int) (b2 : Bool) (us vs : List Int) : (Bool × List Int × List Int) × Bool := if ratB b1 xs ys && ratB b2 us vs then fRatAdd b1 xs ys ((!b2) && decide (0 < us.length)) us vs else ratZ
def fRatCmp (b1 : Bool) (xs ys : List Int) (b2 : Bool) (us vs : List Int) : Int := if ratB b1 xs ys && ratB b2 us vs then sgnZ (zOf b1 (nv xs * nv vs) - zOf b2 (nv us * nv ys)) else 0
def fRatSign (b1 : Bool) (xs ys : List Int) : Int := if ratB b1 xs ys then sgnZ (sv b1 xs) else 0
end Go.Proofs.Ytmakcgiekfcofaa
