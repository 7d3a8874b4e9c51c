/- Plain facts on the decimal texts of numbers. No program's step. The walk of IntText (reference): an integer's decimal text. For every integer. The walk of Pad (reference). For every text within the reach. The walk of NatText (reference): a natural number's decimal text. For every slice within the reach. The walk of IntStr (reference): an integer's decimal text. For every integer within the reach. The walk of RatText (reference). For every fraction within the reach. (Printed by gen_rtext.py.) -/
import Derived.Lib.ItoaNum
import Derived.Test.YtogkonenejfgmaaGreatDoorM31
import Derived.Deep.RegionWith
import Derived.Test.YtogkonenejfgmaaGreatDoorM01
import Derived.Test.YtogkonenejfgmaaGreatDoorM04
import Derived.Lib.Agree
import Derived.Test.YtogkonenejfgmaaGreatDoorM03
import Derived.Test.YtogkonenejfgmaaGreatDoorM23
namespace Go.Proofs.YtogkonenejfgmaaGreatDoor
open Go.Lib (decDigits itoa)
def padL (k : Nat) (l : List UInt8) : List UInt8 := List.replicate (k - l.length) 48 ++ l
theorem dec_lt {u : Nat} (h : u < 10) : decDigits u = [UInt8.ofNat (48 + u)] := by rw [decDigits, dif_pos h]
theorem dec_ge {u : Nat} (h : 10 ≤ u) : decDigits u = decDigits (u / 10) ++ [UInt8.ofNat (48 + u % 10)] := by rw [decDigits, dif_neg (by omega)]
theorem dec_snoc {q r : Nat} (hq : 0 < q) (hr : r < 10) : decDigits (q * 10 + r) = decDigits q ++ [UInt8.ofNat (48 + r)] := by
  rw [dec_ge (by omega)]
  congr 2
  · omega
  · congr 2; omega
theorem dec_len_pos (u : Nat) : 0 < (decDigits u).length := by
  by_cases h : u < 10
  · rw [dec_lt h]; simp
  · rw [dec_ge (by omega)]; simp
theorem dec_len : ∀ (k n : Nat), 0 < k → n < 10 ^ k → (decDigits n).length ≤ k
  | 1, n, _, h => by rw [dec_lt (by simpa using h)]; simp
  | k + 2, n, _, h => by
    by_cases h2 : n < 10
    · rw [dec_lt h2]; simp
    · rw [dec_ge (by omega), List.length_append]
      have := dec_len (k + 1) (n / 10) (by omega) (Nat.div_lt_of_lt_mul (by rw [Nat.pow_succ] at h; rw [Nat.mul_comm]; exact h))
      simp; omega
theorem padL_snoc {k r : Nat} (hk : 0 < k) : padL (k + 1) (decDigits r) = padL k (decDigits (r / 10)) ++ [UInt8.ofNat (48 + r % 10)] := by
  unfold padL
  by_cases h : r < 10
  · rw [dec_lt h, show r / 10 = 0 by omega, dec_lt (by omega : 0 < 10), Nat.mod_eq_of_lt h]
    show List.replicate (k + 1 - 1) 48 ++ _ = List.replicate (k - 1) 48 ++ [UInt8.ofNat (48 + 0)] ++ _
    rw [show k + 1 - 1 = (k - 1) + 1 by omega, List.replicate_succ']
    rfl
  · rw [dec_ge (by omega : 10 ≤ r)]
    simp only [List.length_append, List.length_cons, List.length_nil]
    rw [show k + 1 - ((decDigits (r / 10)).length + (0 + 1)) = k - (decDigits (r / 10)).length by omega, List.append_assoc]
theorem dec_split {q : Nat} (hq : 0 < q) : ∀ (k : Nat), 0 < k → ∀ r, r < 10 ^ k → decDigits (q * 10 ^ k + r) = decDigits q ++ padL k (decDigits r)
  | 1, _, r, hr => by
    have hr' : r < 10 := by simpa using hr
    rw [Nat.pow_one, dec_snoc hq hr', dec_lt hr']; rfl
  | k + 2, _, r, hr => by
    have hp : 0 < 10 ^ (k + 1) := Nat.pow_pos (by omega)
    rw [Nat.pow_succ] at hr
    have h1 : q * 10 ^ (k + 2) + r = (q * 10 ^ (k + 1) + r / 10) * 10 + r % 10 := by
      rw [Nat.pow_succ 10 (k + 1), ← Nat.mul_assoc]; omega
    have h2 : 0 < q * 10 ^ (k + 1) + r / 10 := Nat.lt_of_lt_of_le (Nat.mul_pos hq hp) (Nat.le_add_right _ _)
    rw [h1, dec_snoc h2 (by omega), dec_split hq (k + 1) (by omega) (r / 10) (Nat.div_lt_of_lt_mul (by rw [Nat.mul_comm]; exact hr)), padL_snoc (k := k + 1) (r := r) (by omega), List.append_assoc]
/-- the text of a number's limbs, the highest first -/
def txtR : List Int → List UInt8
  | [] => [48]
  | t :: r => r.foldl (fun s x => s ++ padL 9 (itoa x)) (itoa t)
def natTxt (xs : List Int) : List UInt8 := txtR xs.reverse
theorem natTxt_nil : natTxt [] = [48] := rfl
theorem natTxt_one (x : Int) : natTxt [x] = itoa x := rfl
theorem natTxt_cons (x : Int) {r : List Int} (h : r ≠ []) : natTxt (x :: r) = natTxt r ++ padL 9 (itoa x) := by
  unfold natTxt
  rw [List.reverse_cons]
  cases hr : r.reverse with
  | nil => exact absurd (List.reverse_eq_nil_iff.1 hr) h
  | cons t l => simp [txtR, List.foldl_append]
theorem natTxt_drop (xs : List Int) (k : Nat) (h : k + 1 < xs.length) : natTxt (xs.drop k) = natTxt (xs.drop (k + 1)) ++ padL 9 (itoa (xs.getD k 0)) := by
  rw [drop_cons_getD xs k (by omega), natTxt_cons _ (by intro e; have := congrArg List.length e; simp at this; omega)]
theorem itoa_nat (n : Nat) : itoa (n : Int) = decDigits n := by unfold itoa; rw [if_neg (by omega)]; rfl
theorem natTxt_limbs (m : Nat) : natTxt (limbs m) = decDigits m := by
  induction m using Nat.strongRecOn with
  | _ m ih =>
    by_cases h0 : m = 0
    · subst h0; rw [limbs_zero, natTxt_nil, dec_lt (by omega)]; rfl
    · rw [limbs_pos h0]
      by_cases h : m < 1000000000
      · rw [Nat.div_eq_of_lt h, limbs_zero, natTxt_one, Nat.mod_eq_of_lt h, itoa_nat]
      · have hq : 0 < m / 1000000000 := Nat.div_pos (by omega) (by omega)
        rw [natTxt_cons _ (by rw [limbs_pos (by omega)]; simp), ih _ (by omega), itoa_nat]
        have e := dec_split hq 9 (by omega) (m % 1000000000) (Nat.mod_lt _ (by omega))
        rw [show m / 1000000000 * 10 ^ 9 + m % 1000000000 = m by have : (10 : Nat) ^ 9 = 1000000000 := by decide
                                                                 rw [this]; omega] at e
        exact e.symm
theorem padL_len {l : List UInt8} (h : l.length ≤ 9) : (padL 9 l).length = 9 := by unfold padL; rw [List.length_append, List.length_replicate]; omega
theorem itoa_len9 {x : Int} (h : 0 ≤ x ∧ x < 1000000000) : (itoa x).length ≤ 9 := by
  have e : itoa x = decDigits x.toNat := by unfold itoa; rw [if_neg (by omega)]
  rw [e]
  refine dec_len 9 _ (by omega) ?_
  have e : (10 : Nat) ^ 9 = 1000000000 := by decide
  rw [e]; omega
theorem natTxt_len : ∀ {xs : List Int}, okL xs → (natTxt xs).length ≤ 9 * xs.length + 1
  | [], _ => by rw [natTxt_nil]; simp
  | [x], h => by
    have := itoa_len9 (okL_cons.1 h).1
    rw [natTxt_one]; simp; omega
  | x :: y :: r, h => by
    have h1 := okL_cons.1 h
    have ih := natTxt_len h1.2
    rw [natTxt_cons x (by simp), List.length_append, padL_len (itoa_len9 h1.1)]
    simp at ih ⊢; omega
theorem u8_dig {r : Nat} (h : r < 10) : (UInt8.ofNat (48 + r)).toNat = 48 + r := by
  rw [UInt8.toNat_ofNat']; omega
theorem digs_dec (u : Nat) : digs (decDigits u) := by
  induction u using Nat.strongRecOn with
  | _ u ih =>
    by_cases h : u < 10
    · rw [dec_lt h]; intro c hc; rw [List.mem_singleton] at hc; subst hc; rw [u8_dig h]; omega
    · rw [dec_ge (by omega), digs_append]
      refine ⟨ih _ (by omega), ?_⟩
      intro c hc; rw [List.mem_singleton] at hc; subst hc; rw [u8_dig (by omega)]; omega
theorem dv_dec (u : Nat) : dv (decDigits u) = u := by
  induction u using Nat.strongRecOn with
  | _ u ih =>
    by_cases h : u < 10
    · rw [dec_lt h]; show 0 * 10 + ((UInt8.ofNat (48 + u)).toNat - 48) = u; rw [u8_dig h]; omega
    · rw [dec_ge (by omega), dv_snoc, ih _ (by omega), u8_dig (by omega)]; omega
/-- a text of digits with no nought ahead -/
def canonT (l : List UInt8) : Prop := digs l ∧ l ≠ [] ∧ (l.head? ≠ some 48 ∨ l.length = 1)
theorem dv_pos {l : List UInt8} (h : digs l) (h0 : l ≠ []) (h1 : l.head? ≠ some 48) : 0 < dv l := by
  cases l with
  | nil => exact absurd rfl h0
  | cons c r =>
    have hc := h c (by simp)
    have hne : c.toNat ≠ 48 := by
      intro e; apply h1
      have : c = 48 := UInt8.toNat_inj.1 (by simpa using e)
      rw [this]; rfl
    have e : dv (c :: r) = dv [c] * 10 ^ r.length + dv r := by rw [← dv_append]; rfl
    have e1 : dv [c] = c.toNat - 48 := by show 0 * 10 + (c.toNat - 48) = _; omega
    rw [e, e1]
    have := Nat.mul_pos (show 0 < c.toNat - 48 by omega) (Nat.pow_pos (n := r.length) (show 0 < 10 by omega))
    omega
theorem dec_dv {l : List UInt8} (h : canonT l) : decDigits (dv l) = l := by
  obtain ⟨h1, h2, h3⟩ := h
  induction l using snoc_ind8 with
  | h0 => exact absurd rfl h2
  | h1 r c ih =>
    rw [digs_append] at h1
    have hc := h1.2 c (by simp)
    have hcc : UInt8.ofNat (48 + (c.toNat - 48)) = c := by rw [show 48 + (c.toNat - 48) = c.toNat by omega]; simp
    by_cases hr : r = []
    · subst hr
      show decDigits (0 * 10 + (c.toNat - 48)) = _
      rw [dec_lt (by omega), show 0 * 10 + (c.toNat - 48) = c.toNat - 48 by omega, hcc]; rfl
    · have hh : r.head? ≠ some 48 := by
        rcases h3 with h3 | h3
        · cases r with
          | nil => exact absurd rfl hr
          | cons a t => simpa using h3
        · rw [List.length_append] at h3
          have : r.length ≠ 0 := by intro e; exact hr (List.eq_nil_of_length_eq_zero e)
          exfalso; have e1 : r.length + 1 = 1 := h3; omega
      rw [dv_snoc, dec_snoc (dv_pos h1.1 hr hh) (by omega), hcc, ih h1.1 hr (.inl hh)]
theorem canon_dec (u : Nat) : canonT (decDigits u) := by
  refine ⟨digs_dec u, by intro e; have := dec_len_pos u; rw [e] at this; simp at this, ?_⟩
  induction u using Nat.strongRecOn with
  | _ u ih =>
    by_cases h : u < 10
    · right; rw [dec_lt h]; rfl
    · left
      rw [dec_ge (by omega)]
      have hp := dec_len_pos (u / 10)
      rcases ih (u / 10) (by omega) with h1 | h1
      · cases hd : decDigits (u / 10) with
        | nil => rw [hd] at hp; simp at hp
        | cons a t => rw [hd] at h1; simpa using h1
      · by_cases h2 : u / 10 < 10
        · rw [dec_lt h2]
          intro e
          have e3 : UInt8.ofNat (48 + u / 10) = 48 := Option.some.inj (show some (UInt8.ofNat (48 + u / 10)) = some 48 from e)
          have e2 := congrArg UInt8.toNat e3
          rw [u8_dig h2] at e2
          have e4 : (48 : UInt8).toNat = 48 := rfl
          rw [e4] at e2
          omega
        · exfalso
          rw [dec_ge (by omega : 10 ≤ u / 10), List.length_append] at h1
          have := dec_len_pos (u / 10 / 10)
          have e1 : (decDigits (u / 10 / 10)).length + 1 = 1 := h1
          omega
end Go.Proofs.YtogkonenejfgmaaGreatDoor
namespace Go.Proofs.YtogkonenejfgmaaGreatDoor
open Go.RowKit
open Go.Lib (decDigits itoa)
def tx (l : List UInt8) : ByteArray := ⟨l.toArray⟩
theorem tx_app (a b : List UInt8) : tx a ++ tx b = tx (a ++ b) := by apply ByteArray.ext; rw [ByteArray.data_append]; simp [tx]
theorem tx_size (l : List UInt8) : (tx l).size = l.length := by show l.toArray.size = _; simp
theorem tx_list (l : List UInt8) : (tx l).data.toList = l := by simp [tx]
theorem tx_of (s : ByteArray) : tx s.data.toList = s := by apply ByteArray.ext; simp [tx]
theorem conv1 (w : World) (x : Int) (hx : 48 ≤ x ∧ x ≤ 57) :
    (convert 22 9 (.slice (some ⟨w.heap.size, 0, none⟩) 1 1)).run Tryz.prog (w.alloc (.cells #[.int .u8 x] 5)) = .ok (.string (tx [UInt8.ofNat x.toNat])) (w.alloc (.cells #[.int .u8 x] 5)) := by
  have e8 : ((UInt8.ofNat x.toNat).toNat : Int) = x := by rw [UInt8.toNat_ofNat']; omega
  exact run_convert_bytes_back (P := Tryz.prog) (w.alloc (.cells #[.int .u8 x] 5)) 22 9 5 ⟨w.heap.size, 0, none⟩ 1 [UInt8.ofNat x.toNat] Tryz.underlying22 Tryz.underlying5 Tryz.underlying9 (by
    intro j hj
    have hj' : j < 1 := hj
    obtain rfl : j = 0 := by omega
    show (w.alloc (.cells #[.int .u8 x] 5)).cell? ⟨w.heap.size, 0, none⟩ = some (.int .u8 ((UInt8.ofNat x.toNat).toNat : Int))
    rw [e8]
    exact cell_box _ _ _ _ 0 _ rfl rfl)
theorem itoa_pos {z : Int} (h : 0 ≤ z) : itoa z = decDigits z.toNat := by unfold itoa; rw [if_neg (by omega)]
theorem itoa_lt {z : Int} (h : 0 ≤ z) (h2 : z < 10) : itoa z = [UInt8.ofNat (48 + z).toNat] := by
  rw [itoa_pos h, dec_lt (by omega), show 48 + z.toNat = (48 + z).toNat by omega]
theorem itoa_ge {z : Int} (h : 10 ≤ z) : itoa z = itoa (z / 10) ++ [UInt8.ofNat (48 + z % 10).toNat] := by
  rw [itoa_pos (by omega), itoa_pos (by omega), dec_ge (by omega), show 48 + z.toNat % 10 = (48 + z % 10).toNat by omega, show z.toNat / 10 = (z / 10).toNat by omega]
theorem itoa_len {z : Int} (h0 : 0 ≤ z) (h1 : z ≤ 9223372036854775807) : (itoa z).length ≤ 20 := by
  rw [itoa_pos h0]
  refine dec_len 20 _ (by omega) ?_
  have e : (10 : Nat) ^ 20 = 100000000000000000000 := by decide
  rw [e]; omega
theorem conv_at (W : World) (b : Nat) (x : Int) (hx : 48 ≤ x ∧ x ≤ 57) (hc : W.cell? ⟨b, 0, none⟩ = some (.int .u8 x)) :
    (convert 22 9 (.slice (some ⟨b, 0, none⟩) 1 1)).run Tryz.prog W = .ok (.string (tx [UInt8.ofNat x.toNat])) W := by
  have e8 : ((UInt8.ofNat x.toNat).toNat : Int) = x := by rw [UInt8.toNat_ofNat']; omega
  exact run_convert_bytes_back (P := Tryz.prog) W 22 9 5 ⟨b, 0, none⟩ 1 [UInt8.ofNat x.toNat] Tryz.underlying22 Tryz.underlying5 Tryz.underlying9 (by
    intro j hj
    have hj' : j < 1 := hj
    obtain rfl : j = 0 := by omega
    show W.cell? ⟨b, 0, none⟩ = some (.int .u8 ((UInt8.ofNat x.toNat).toNat : Int))
    rw [e8]; exact hc)
theorem wi {n : Int} (h0 : -9223372036854775808 ≤ n) (h1 : n ≤ 9223372036854775807) : IntKind.i64.wrap n = n := by rw [IntKind.wrap_i64]; omega
theorem itoa_neg {z : Int} (h : z < 0) : itoa z = 45 :: decDigits z.natAbs := by unfold itoa; rw [if_pos h]
theorem itoa_neg_lt {z : Int} (h : z < 0) (h2 : -10 < z) : itoa z = [45, UInt8.ofNat (48 - z).toNat] := by
  rw [itoa_neg h, dec_lt (by omega), show 48 + z.natAbs = (48 - z).toNat by omega]
theorem tq {z : Int} (h : z ≤ 0) : z.tdiv 10 = -((-z) / 10) ∧ z.tmod 10 = -((-z) % 10) := by
  have e : z = -(-z) := by omega
  constructor
  · have h1 : (-(-z)).tdiv 10 = -((-z).tdiv 10) := Int.neg_tdiv _ _
    rw [← e] at h1
    rw [h1, Int.tdiv_eq_ediv_of_nonneg (by omega)]
  · have h1 : (-(-z)).tmod 10 = -((-z).tmod 10) := Int.neg_tmod _ _
    rw [← e] at h1
    rw [h1, Int.tmod_eq_emod_of_nonneg (by omega)]
theorem itoa_neg_ge {z : Int} (h : z ≤ -10) : itoa z = itoa (z.tdiv 10) ++ [UInt8.ofNat (48 - z.tmod 10).toNat] := by
  obtain ⟨t1, t2⟩ := tq (show z ≤ 0 by omega)
  have e1 : (z.tdiv 10) = -((z.natAbs / 10 : Nat) : Int) := by omega
  have e2 : (z.tmod 10) = -((z.natAbs % 10 : Nat) : Int) := by omega
  rw [itoa_neg (by omega), itoa_neg (by omega), dec_ge (by omega : 10 ≤ z.natAbs), e1, e2, show (-((z.natAbs / 10 : Nat) : Int)).natAbs = z.natAbs / 10 by omega, show (48 - -((z.natAbs % 10 : Nat) : Int)).toNat = 48 + z.natAbs % 10 by omega]
  rfl
theorem itoa_neg_len {z : Int} (h0 : z < 0) (h1 : -9223372036854775808 ≤ z) : (itoa z).length ≤ 21 := by
  rw [itoa_neg h0, List.length_cons]
  have := dec_len 20 z.natAbs (by omega) (by
    have e : (10 : Nat) ^ 20 = 100000000000000000000 := by decide
    rw [e]; omega)
  omega
end Go.Proofs.YtogkonenejfgmaaGreatDoor
namespace Go.Proofs.YtogkonenejfgmaaGreatDoor
open Go.RowKit
def padB (k : Nat) (s : ByteArray) : ByteArray := ⟨(List.replicate k (48 : UInt8)).toArray ++ s.data⟩
theorem padB_zero (s : ByteArray) : padB 0 s = s := by apply ByteArray.ext; simp [padB]
theorem padB_succ (k : Nat) (s : ByteArray) : ByteArray.mk #[48] ++ padB k s = padB (k + 1) s := by
  apply ByteArray.ext
  rw [ByteArray.data_append]
  simp only [padB]
  rw [← Array.append_assoc]
  congr 1
  simp [List.replicate_succ]
theorem padB_size (k : Nat) (s : ByteArray) : (padB k s).size = k + s.size := by
  show (padB k s).data.size = _
  simp only [padB, Array.size_append]
  simp
def fPad (s : ByteArray) (z : Int) : ByteArray := if z ≤ 2000 then padB (z.toNat - s.size) s else s
end Go.Proofs.YtogkonenejfgmaaGreatDoor
namespace Go.Proofs.YtogkonenejfgmaaGreatDoor
open Go.RowKit
open Go.Lib (decDigits itoa)
def fNatText (xs : List Int) : List UInt8 := if natB xs then natTxt xs else []
theorem fPad_tx (l : List UInt8) : fPad (tx l) 9 = tx (padL 9 l) := by
  unfold fPad
  rw [if_pos (by omega)]
  apply ByteArray.ext
  unfold padB padL
  rw [tx_size]
  simp [tx]
theorem natB_ok {xs : List Int} (h : natB xs = true) : okL xs := by rw [(natB_limbs h).1]; exact limbs_ok _
theorem natB_le {xs : List Int} (h : natB xs = true) : xs.length ≤ 50 := (natB_limbs h).2
end Go.Proofs.YtogkonenejfgmaaGreatDoor
namespace Go.Proofs.YtogkonenejfgmaaGreatDoor
open Go.RowKit
def fIntStr (neg : Bool) (xs : List Int) : List UInt8 := if intB neg xs then (if neg then 45 :: natTxt xs else natTxt xs) else []
theorem intB_nat {neg : Bool} {xs : List Int} (h : intB neg xs = true) : natB xs = true := by
  unfold intB at h
  simp only [Bool.and_eq_true] at h
  exact h.1
theorem fIntStr_nat {neg : Bool} {xs : List Int} (h : intB neg xs = true) : fNatText xs = natTxt xs := by unfold fNatText; rw [intB_nat h]; rfl
theorem fIntStr_len {neg : Bool} {xs : List Int} : (fIntStr neg xs).length ≤ 500 := by
  unfold fIntStr
  split
  · rename_i h
    have h1 := natTxt_len (natB_ok (intB_nat h))
    have h2 := natB_le (intB_nat h)
    split
    · rw [List.length_cons]; omega
    · omega
  · simp
end Go.Proofs.YtogkonenejfgmaaGreatDoor
namespace Go.Proofs.YtogkonenejfgmaaGreatDoor
open Go.RowKit
set_option linter.unusedVariables false
def fRatText (neg : Bool) (xs ys : List Int) : List UInt8 := if ratB neg xs ys then (if nv ys = 1 then fIntStr neg xs else fIntStr neg xs ++ 47 :: natTxt ys) else []
theorem ratB_int {neg : Bool} {xs ys : List Int} (h : ratB neg xs ys = true) : intB neg xs = true := by
  obtain ⟨m, n, rfl, rfl, -, -, -, -, -, h1, -⟩ := ratB_elim h
  exact h1
end Go.Proofs.YtogkonenejfgmaaGreatDoor
