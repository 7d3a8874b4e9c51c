/- Plain facts on the decimal texts of numbers. No program's step. -/
import Derived.Test.YtmakcgiekfcofaaDoorDig
import Derived.Lib.ItoaNum
namespace Go.Proofs.YtmakcgiekfcofaaDoor
open Go.Lib (decDigits itoa)
def padL (k : Nat) (l : List UInt8) : List UInt8 := List.replicate (k - l.length) 48 ++ l
theorem dec_lt {u : Nat} (h : u < 10) : decDigits u = [UInt8.ofNat (48 + u)] := by rw [decDigits, dif_pos h]
theorem dec_ge {u : Nat} (h : 10 ≤ u) : decDigits u = decDigits (u / 10) ++ [UInt8.ofNat (48 + u % 10)] := by rw [decDigits, dif_neg (by omega)]
theorem dec_snoc {q r : Nat} (hq : 0 < q) (hr : r < 10) : decDigits (q * 10 + r) = decDigits q ++ [UInt8.ofNat (48 + r)] := by
  rw [dec_ge (by omega)]
  congr 2
  · omega
  · congr 2; omega
theorem dec_len_pos (u : Nat) : 0 < (decDigits u).length := by
  by_cases h : u < 10
  · rw [dec_lt h]; simp
  · rw [dec_ge (by omega)]; simp
theorem dec_len : ∀ (k n : Nat), 0 < k → n < 10 ^ k → (decDigits n).length ≤ k
  | 1, n, _, h => by rw [dec_lt (by simpa using h)]; simp
  | k + 2, n, _, h => by
    by_cases h2 : n < 10
    · rw [dec_lt h2]; simp
    · rw [dec_ge (by omega), List.length_append]
      have := dec_len (k + 1) (n / 10) (by omega) (Nat.div_lt_of_lt_mul (by rw [Nat.pow_succ] at h; rw [Nat.mul_comm]; exact h))
      simp; omega
theorem padL_snoc {k r : Nat} (hk : 0 < k) : padL (k + 1) (decDigits r) = padL k (decDigits (r / 10)) ++ [UInt8.ofNat (48 + r % 10)] := by
  unfold padL
  by_cases h : r < 10
  · rw [dec_lt h, show r / 10 = 0 by omega, dec_lt (by omega : 0 < 10), Nat.mod_eq_of_lt h]
    show List.replicate (k + 1 - 1) 48 ++ _ = List.replicate (k - 1) 48 ++ [UInt8.ofNat (48 + 0)] ++ _
    rw [show k + 1 - 1 = (k - 1) + 1 by omega, List.replicate_succ']
    rfl
  · rw [dec_ge (by omega : 10 ≤ r)]
    simp only [List.length_append, List.length_cons, List.length_nil]
    rw [show k + 1 - ((decDigits (r / 10)).length + (0 + 1)) = k - (decDigits (r / 10)).length by omega, List.append_assoc]
theorem dec_split {q : Nat} (hq : 0 < q) : ∀ (k : Nat), 0 < k → ∀ r, r < 10 ^ k → decDigits (q * 10 ^ k + r) = decDigits q ++ padL k (decDigits r)
  | 1, _, r, hr => by
    have hr' : r < 10 := by simpa using hr
    rw [Nat.pow_one, dec_snoc hq hr', dec_lt hr']; rfl
  | k + 2, _, r, hr => by
    have hp : 0 < 10 ^ (k + 1) := Nat.pow_pos (by omega)
    rw [Nat.pow_succ] at hr
    have h1 : q * 10 ^ (k + 2) + r = (q * 10 ^ (k + 1) + r / 10) * 10 + r % 10 := by
      rw [Nat.pow_succ 10 (k + 1), ← Nat.mul_assoc]; omega
    have h2 : 0 < q * 10 ^ (k + 1) + r / 10 := Nat.lt_of_lt_of_le (Nat.mul_pos hq hp) (Nat.le_add_right _ _)
    rw [h1, dec_snoc h2 (by omega), dec_split hq (k + 1) (by omega) (r / 10) (Nat.div_lt_of_lt_mul (by rw [Nat.mul_comm]; exact hr)), padL_snoc (k := k + 1) (r := r) (by omega), List.append_assoc]
/-- the text of a number's limbs, the highest first -/
def txtR : List Int → List UInt8
  | [] => [48]
  | t :: r => r.foldl (fun s x => s ++ padL 9 (itoa x)) (itoa t)
def natTxt (xs : List Int) : List UInt8 := txtR xs.reverse
theorem natTxt_nil : natTxt [] = [48] := rfl
theorem natTxt_one (x : Int) : natTxt [x] = itoa x := rfl
theorem natTxt_cons (x : Int) {r : List Int} (h : r ≠ []) : natTxt (x :: r) = natTxt r ++ padL 9 (itoa x) := by
  unfold natTxt
  rw [List.reverse_cons]
  cases hr : r.reverse with
  | nil => exact absurd (List.reverse_eq_nil_iff.1 hr) h
  | cons t l => simp [txtR, List.foldl_append]
theorem natTxt_drop (xs : List Int) (k : Nat) (h : k + 1 < xs.length) : natTxt (xs.drop k) = natTxt (xs.drop (k + 1)) ++ padL 9 (itoa (xs.getD k 0)) := by
  rw [drop_cons_getD xs k (by omega), natTxt_cons _ (by intro e; have := congrArg List.length e; simp at this; omega)]
theorem itoa_nat (n : Nat) : itoa (n : Int) = decDigits n := by unfold itoa; rw [if_neg (by omega)]; rfl
theorem natTxt_limbs (m : Nat) : natTxt (limbs m) = decDigits m := by
  induction m using Nat.strongRecOn with
  | _ m ih =>
    by_cases h0 : m = 0
    · subst h0; rw [limbs_zero, natTxt_nil, dec_lt (by omega)]; rfl
    · rw [limbs_pos h0]
      by_cases h : m < 1000000000
      · rw [Nat.div_eq_of_lt h, limbs_zero, natTxt_one, Nat.mod_eq_of_lt h, itoa_nat]
      · have hq : 0 < m / 1000000000 := Nat.div_pos (by omega) (by omega)
        rw [natTxt_cons _ (by rw [limbs_pos (by omega)]; simp), ih _ (by omega), itoa_nat]
        have e := dec_split hq 9 (by omega) (m % 1000000000) (Nat.mod_lt _ (by omega))
        rw [show m / 1000000000 * 10 ^ 9 + m % 1000000000 = m by have : (10 : Nat) ^ 9 = 1000000000 := by decide
                                                                 rw [this]; omega] at e
        exact e.symm
theorem padL_len {l : List UInt8} (h : l.length ≤ 9) : (padL 9 l).length = 9 := by unfold padL; rw [List.length_append, List.length_replicate]; omega
theorem itoa_len9 {x : Int} (h : 0 ≤ x ∧ x < 1000000000) : (itoa x).length ≤ 9 := by
  have e : itoa x = decDigits x.toNat := by unfold itoa; rw [if_neg (by omega)]
  rw [e]
  refine dec_len 9 _ (by omega) ?_
  have e : (10 : Nat) ^ 9 = 1000000000 := by decide
  rw [e]; omega
theorem natTxt_len : ∀ {xs : List Int}, okL xs → (natTxt xs).length ≤ 9 * xs.length + 1
  | [], _ => by rw [natTxt_nil]; simp
  | [x], h => by
    have := itoa_len9 (okL_cons.1 h).1
    rw [natTxt_one]; simp; omega
  | x :: y :: r, h => by
    have h1 := okL_cons.1 h
    have ih := natTxt_len h1.2
    rw [natTxt_cons x (by simp), List.length_append, padL_len (itoa_len9 h1.1)]
    simp at ih ⊢; omega
theorem u8_dig {r : Nat} (h : r < 10) : (UInt8.ofNat (48 + r)).toNat = 48 + r := by
  rw [UInt8.toNat_ofNat']; omega
theorem digs_dec (u : Nat) : digs (decDigits u) := by
  induction u using Nat.strongRecOn with
  | _ u ih =>
    by_cases h : u < 10
    · rw [dec_lt h]; intro c hc; rw [List.mem_singleton] at hc; subst hc; rw [u8_dig h]; omega
    · rw [dec_ge (by omega), digs_append]
      refine ⟨ih _ (by omega), ?_⟩
      intro c hc; rw [List.mem_singleton] at hc; subst hc; rw [u8_dig (by omega)]; omega
theorem dv_dec (u : Nat) : dv (decDigits u) = u := by
  induction u using Nat.strongRecOn with
  | _ u ih =>
    by_cases h : u < 10
    · rw [dec_lt h]; show 0 * 10 + ((UInt8.ofNat (48 + u)).toNat - 48) = u; rw [u8_dig h]; omega
    · rw [dec_ge (by omega), dv_snoc, ih _ (by omega), u8_dig (by omega)]; omega
/-- a text of digits with no nought ahead -/
def canonT (l : List UInt8) : Prop := digs l ∧ l ≠ [] ∧ (l.head? ≠ some 48 ∨ l.length = 1)
theorem dv_pos {l : List UInt8} (h : digs l) (h0 : l ≠ []) (h1 : l.head? ≠ some 48) : 0 < dv l := by
  cases l with
  | nil => exact absurd rfl h0
  | cons c r =>
    have hc := h c (by simp)
    have hne : c.toNat ≠ 48 := by
      intro e; apply h1
      have : c = 48 := UInt8.toNat_inj.1 (by simpa using e)
      rw [this]; rfl
    have e : dv (c :: r) = dv [c] * 10 ^ r.length + dv r := by rw [← dv_append]; rfl
    have e1 : dv [c] = c.toNat - 48 := by show 0 * 10 + (c.toNat - 48) = _; omega
    rw [e, e1]
    have := Nat.mul_pos (show 0 < c.toNat - 48 by omega) (Nat.pow_pos (n := r.length) (show 0 < 10 by omega))
    omega
theorem dec_dv {l : List UInt8} (h : canonT l) : decDigits (dv l) = l := by
  obtain ⟨h1, h2, h3⟩ := h
  induction l using snoc_ind8 with
  | h0 => exact absurd rfl h2
  | h1 r c ih =>
    rw [digs_append] at h1
    have hc := h1.2 c (by simp)
    have hcc : UInt8.ofNat (48 + (c.toNat - 48)) = c := by rw [show 48 + (c.toNat - 48) = c.toNat by omega]; simp
    by_cases hr : r = []
    · subst hr
      show decDigits (0 * 10 + (c.toNat - 48)) = _
      rw [dec_lt (by omega), show 0 * 10 + (c.toNat - 48) = c.toNat - 48 by omega, hcc]; rfl
    · have hh : r.head? ≠ some 48 := by
        rcases h3 with h3 | h3
        · cases r with
          | nil => exact absurd rfl hr
          | cons a t => simpa using h3
        · rw [List.length_append] at h3
          have : r.length ≠ 0 := by intro e; exact hr (List.eq_nil_of_length_eq_zero e)
          exfalso; have e1 : r.length + 1 = 1 := h3; omega
      rw [dv_snoc, dec_snoc (dv_pos h1.1 hr hh) (by omega), hcc, ih h1.1 hr (.inl hh)]
theorem canon_dec (u : Nat) : canonT (decDigits u) := by
  refine ⟨digs_dec u, by intro e; have := dec_len_pos u; rw [e] at this; simp at this, ?_⟩
  induction u using Nat.strongRecOn with
  | _ u ih =>
    by_cases h : u < 10
    · right; rw [dec_lt h]; rfl
    · left
      rw [dec_ge (by omega)]
      have hp := dec_len_pos (u / 10)
      rcases ih (u / 10) (by omega) with h1 | h1
      · cases hd : decDigits (u / 10) with
        | nil => rw [hd] at hp; simp at hp
        | cons a t => rw [hd] at h1; simpa using h1
      · by_cases h2 : u / 10 < 10
        · rw [dec_lt h2]
          intro e
          have e3 : UInt8.ofNat (48 + u / 10) = 48 := Option.some.inj (show some (UInt8.ofNat (48 + u / 10)) = some 48 from e)
          have e2 := congrArg UInt8.toNat e3
          rw [u8_dig h2] at e2
          have e4 : (48 : UInt8).toNat = 48 := rfl
          rw [e4] at e2
          omega
        · exfalso
          rw [dec_ge (by omega : 10 ≤ u / 10), List.length_append] at h1
          have := dec_len_pos (u / 10 / 10)
          have e1 : (decDigits (u / 10 / 10)).length + 1 = 1 := h1
          omega
end Go.Proofs.YtmakcgiekfcofaaDoor
