/- Plain facts on the text of an int: which texts are texts of ints. No program's step. -/
import Derived.Test.YtogkonenejfgmaaDoorTx
import Derived.Lib.AtoiAll
namespace Go.Proofs.YtogkonenejfgmaaDoor
open Go.Lib (decDigits itoa atoiAll parseMag parseUint10 NumEnd)
/-- the number that a text of digits, a sign ahead or not, stands for -/
def rv (l : List UInt8) : Int := if l.head? = some 45 then -((dv l.tail : Nat) : Int) else ((dv l : Nat) : Int)
def i64B (z : Int) : Bool := decide (-9223372036854775808 ≤ z ∧ z ≤ 9223372036854775807)
def fTextInt (l : List UInt8) : Int × Bool := if i64B (rv l) && decide (itoa (rv l) = l) then (rv l, true) else (0, false)
theorem dec_head (u : Nat) : (decDigits u).head? ≠ some 45 := by
  have h := digs_dec u
  cases hd : decDigits u with
  | nil => simp
  | cons c t =>
    intro e
    have e2 : c = 45 := Option.some.inj e
    have := h c (by rw [hd]; simp)
    rw [e2] at this
    exact absurd this (by decide)
theorem rv_itoa (z : Int) : rv (itoa z) = z := by
  unfold itoa rv
  by_cases h : z < 0
  · rw [if_pos h, if_pos (show (45 :: decDigits z.natAbs).head? = some 45 from rfl)]
    show -((dv (decDigits z.natAbs) : Nat) : Int) = z
    rw [dv_dec]; omega
  · rw [if_neg h, if_neg (dec_head _), dv_dec]; omega
theorem fTextInt_yes {z : Int} (h : i64B z = true) : fTextInt (itoa z) = (z, true) := by
  unfold fTextInt; rw [rv_itoa, h, decide_eq_true rfl]; rfl
theorem fTextInt_no {l : List UInt8} (h : ∀ z, i64B z = true → itoa z ≠ l) : fTextInt l = (0, false) := by
  unfold fTextInt
  cases h1 : i64B (rv l)
  · rfl
  · rw [decide_eq_false (h _ h1)]; rfl
theorem fTextInt_cases (l : List UInt8) : (∃ z, i64B z = true ∧ itoa z = l ∧ fTextInt l = (z, true)) ∨ ((∀ z, i64B z = true → itoa z ≠ l) ∧ fTextInt l = (0, false)) := by
  by_cases h : ∃ z, i64B z = true ∧ itoa z = l
  · obtain ⟨z, h1, rfl⟩ := h
    exact .inl ⟨z, h1, rfl, fTextInt_yes h1⟩
  · have h2 : ∀ z, i64B z = true → itoa z ≠ l := fun z hz e => h ⟨z, hz, e⟩
    exact .inr ⟨h2, fTextInt_no h2⟩
theorem parse_digs : ∀ (l : List UInt8) (acc : Nat), digs l → acc * 10 ^ l.length + dv l < 18446744073709551616 → parseUint10 acc l = .ok (acc * 10 ^ l.length + dv l)
  | [], acc, _, _ => by simp [parseUint10, dv_nil]
  | c :: r, acc, hd, h => by
    have hc := hd c (by simp)
    have e : dv (c :: r) = (c.toNat - 48) * 10 ^ r.length + dv r := by
      rw [show c :: r = [c] ++ r from rfl, dv_append]
      show (0 * 10 + (c.toNat - 48)) * _ + _ = _
      rw [Nat.zero_mul, Nat.zero_add]
    have e2 : acc * 10 ^ (c :: r).length = acc * 10 * 10 ^ r.length := by
      show acc * 10 ^ (r.length + 1) = _
      rw [Nat.pow_succ, Nat.mul_assoc, Nat.mul_comm 10]
    have e3 : acc * 10 ^ (c :: r).length + dv (c :: r) = (acc * 10 + (c.toNat - 48)) * 10 ^ r.length + dv r := by rw [e, e2, Nat.add_mul]; omega
    have hp : 1 ≤ 10 ^ r.length := Nat.pow_pos (by omega)
    have h2 : acc * 10 + (c.toNat - 48) < 18446744073709551616 := by
      rw [e3] at h
      have := Nat.le_mul_of_pos_right (acc * 10 + (c.toNat - 48)) hp
      omega
    rw [e3] at h ⊢
    unfold parseUint10
    rw [if_pos hc, if_neg (by omega), if_neg (by omega)]
    exact parse_digs r _ (fun x hx => hd x (by simp [hx])) h
theorem parseMag_dec {u : Nat} (h : u < 18446744073709551616) : parseMag (decDigits u) = .ok u := by
  unfold parseMag
  rw [if_neg (by intro e; have := dec_len_pos u; rw [e] at this; simp at this), parse_digs _ _ (digs_dec u) (by rw [dv_dec]; omega), dv_dec]
  simp
theorem atoi_itoa {z : Int} (h : i64B z = true) : atoiAll (itoa z) = .ok z := by
  unfold i64B at h
  rw [decide_eq_true_eq] at h
  unfold itoa
  by_cases hz : z < 0
  · rw [if_pos hz]
    unfold atoiAll
    dsimp only
    have h45 : UInt8.toNat 45 = 45 := rfl
    rw [h45, if_pos (Or.inr (show (45 : Nat) = 45 from rfl)), parseMag_dec (by omega)]
    dsimp only
    rw [if_neg (by omega), if_neg (by omega), if_pos (show (45 : Nat) = 45 from rfl)]
    congr 1; omega
  · rw [if_neg hz]
    have hp := parseMag_dec (u := z.toNat) (by omega)
    have hd := digs_dec z.toNat
    cases hc : decDigits z.toNat with
    | nil => have := dec_len_pos z.toNat; rw [hc] at this; simp at this
    | cons c r =>
      rw [hc] at hp hd
      have hc1 := hd c (by simp)
      unfold atoiAll
      dsimp only
      rw [if_neg (by omega), hp]
      dsimp only
      rw [if_neg (by omega), if_neg (by omega), if_neg (by omega)]
      congr 1; omega
end Go.Proofs.YtogkonenejfgmaaDoor
