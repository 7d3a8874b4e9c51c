/- The program's functions on whole numbers, said of numbers: what each answers for limbs m, limbs n within the reach. And the laws' helper same. -/
import Derived.Test.YtogkonenejfgmaaDoorWMul
import Derived.Test.YtogkonenejfgmaaDoorWSub
import Derived.Test.YtogkonenejfgmaaDoorWScale
import Derived.Test.YtogkonenejfgmaaDoorWDivI
import Derived.Test.YtogkonenejfgmaaDoorWTextNatI
import Derived.Test.YtogkonenejfgmaaDoorWNatTextI
import Derived.Test.YtogkonenejfgmaaDoorWNatDig
import Derived.Test.YtogkonenejfgmaaDoorWNatZer
import Derived.Test.YtogkonenejfgmaaDoorWEqInt
import Derived.Test.YtogkonenejfgmaaDoorNd
namespace Go.Proofs.YtogkonenejfgmaaDoor
open Go.RowKit
open Go.Lib (decDigits itoa)
set_option linter.unusedVariables false
theorem capV_n {n : Nat} (h : (limbs n).length ≤ 50) : capV n = n := by unfold capV; rw [if_neg (by omega)]
/-- a slice with the limbs of n -/
def Nm (w : World) (v : Value) (n : Nat) : Prop := ∃ a c, v = .slice a (limbs n).length c ∧ In w a c (limbs n)
theorem n_add (a b : Option Addr) (ca cb m n : Nat) (w : World) (hx : In w a ca (limbs m)) (hy : In w b cb (limbs n)) (lm : (limbs m).length ≤ 50) (ln : (limbs n).length ≤ 50) (ls : (limbs (m + n)).length ≤ 50) :
    Calls Tryd.prog 17 #[.slice a (limbs m).length ca, .slice b (limbs n).length cb] w fun e w' => (∃ a' c', e = .returned (.slice a' (limbs (m + n)).length c') ∧ In w' a' c' (limbs (m + n))) ∧ Below w.heap.size w w' := by
  have h := impl_NatAdd a b ca cb _ _ w hx hy
  rw [fAdd_yes (natB_of lm) (natB_of ln), capV_n ls] at h
  refine h.mono ?_
  rintro e w' ⟨⟨a', c', rfl, ho, hl⟩, hb⟩
  exact ⟨⟨a', c', rfl, ho.inn (by omega)⟩, hb⟩
theorem n_sub (a b : Option Addr) (ca cb m n : Nat) (w : World) (hx : In w a ca (limbs m)) (hy : In w b cb (limbs n)) (lm : (limbs m).length ≤ 50) (ln : (limbs n).length ≤ 50) :
    Calls Tryd.prog 24 #[.slice a (limbs m).length ca, .slice b (limbs n).length cb] w fun e w' => (∃ a' c', e = .returned (.slice a' (limbs (m - n)).length c') ∧ In w' a' c' (limbs (m - n))) ∧ Below w.heap.size w w' := by
  have h := impl_NatSub a b ca cb _ _ w hx hy
  rw [fSub_yes (natB_of lm) (natB_of ln)] at h
  refine h.mono ?_
  rintro e w' ⟨⟨a', c', rfl, ho, hl⟩, hb⟩
  exact ⟨⟨a', c', rfl, ho.inn (by omega)⟩, hb⟩
theorem n_mul (a b : Option Addr) (ca cb m n : Nat) (w : World) (hx : In w a ca (limbs m)) (hy : In w b cb (limbs n)) (lm : (limbs m).length ≤ 50) (ln : (limbs n).length ≤ 50) (ls : (limbs (m * n)).length ≤ 50) :
    Calls Tryd.prog 25 #[.slice a (limbs m).length ca, .slice b (limbs n).length cb] w fun e w' => (∃ a' c', e = .returned (.slice a' (limbs (m * n)).length c') ∧ In w' a' c' (limbs (m * n))) ∧ Below w.heap.size w w' := by
  have h := impl_NatMul a b ca cb _ _ w hx hy
  rw [fMul_yes (natB_of lm) (natB_of ln), capV_n ls] at h
  refine h.mono ?_
  rintro e w' ⟨⟨a', c', rfl, ho, hl⟩, hb⟩
  exact ⟨⟨a', c', rfl, ho.inn (by omega)⟩, hb⟩
theorem n_cmp (a b : Option Addr) (ca cb m n : Nat) (w : World) (hx : In w a ca (limbs m)) (hy : In w b cb (limbs n)) (lm : (limbs m).length ≤ 50) (ln : (limbs n).length ≤ 50) :
    Calls Tryd.prog 26 #[.slice a (limbs m).length ca, .slice b (limbs n).length cb] w fun e w' => e = .returned (.int .i64 (cmpN m n)) ∧ Below w.heap.size w w' := by
  have h := impl_NatCmp a b ca cb _ _ w hx hy
  rw [fCmp_yes (natB_of lm) (natB_of ln)] at h
  exact h
theorem n_scale (a : Option Addr) (ca m k : Nat) (w : World) (hx : In w a ca (limbs m)) (lm : (limbs m).length ≤ 50) (hk : k ≤ 449) (ls : (limbs (m * 10 ^ k)).length ≤ 50) :
    Calls Tryd.prog 27 #[.slice a (limbs m).length ca, .int .i64 k] w fun e w' => (∃ a' c', e = .returned (.slice a' (limbs (m * 10 ^ k)).length c') ∧ In w' a' c' (limbs (m * 10 ^ k))) ∧ Below w.heap.size w w' := by
  have h := impl_NatScale a ca _ k w hx ⟨by omega, by omega⟩
  rw [fScale_yes (natB_of lm) hk, capV_n ls] at h
  refine h.mono ?_
  rintro e w' ⟨⟨a', c', rfl, ho, hl⟩, hb⟩
  exact ⟨⟨a', c', rfl, ho.inn (by omega)⟩, hb⟩
theorem n_ten (k : Nat) (w : World) (hk : k ≤ 449) :
    Calls Tryd.prog 28 #[.int .i64 k] w fun e w' => (∃ a' c', e = .returned (.slice a' (limbs (10 ^ k)).length c') ∧ In w' a' c' (limbs (10 ^ k))) ∧ Below w.heap.size w w' := by
  have h := impl_NatTen k w ⟨by omega, by omega⟩
  rw [fTen_yes hk] at h
  refine h.mono ?_
  rintro e w' ⟨⟨a', c', rfl, ho, hl⟩, hb⟩
  exact ⟨⟨a', c', rfl, ho.inn (by omega)⟩, hb⟩
theorem n_gcd (a b : Option Addr) (ca cb m n : Nat) (w : World) (hx : In w a ca (limbs m)) (hy : In w b cb (limbs n)) (lm : (limbs m).length ≤ 50) (ln : (limbs n).length ≤ 50) :
    Calls Tryd.prog 22 #[.slice a (limbs m).length ca, .slice b (limbs n).length cb] w fun e w' => (∃ a' c', e = .returned (.slice a' (limbs (Nat.gcd m n)).length c') ∧ In w' a' c' (limbs (Nat.gcd m n))) ∧ Below w.heap.size w w' := by
  have h := impl_NatGcd a b ca cb _ _ w hx hy
  rw [fGcd_yes (natB_of lm) (natB_of ln)] at h
  refine h.mono ?_
  rintro e w' ⟨⟨a', c', rfl, ho, hl⟩, hb⟩
  exact ⟨⟨a', c', rfl, ho.inn (by omega)⟩, hb⟩
theorem Slot.inn {w : World} {lo hi : Nat} {a : Option Addr} {c : Nat} {xs : List Int} (h : Slot w lo hi a c xs) (hl : xs.length ≤ 50) : In w a c xs := by
  refine ⟨h.rd, ?_, by omega⟩
  rcases h.2 with rfl | h
  · exact Nat.zero_le _
  · exact h.1.le
theorem div_in {w : World} {qL rL : List Int} {e : Ending} {w' : World} (h : DivPost w qL rL e w') :
    (∃ a c a' c', e = .returned (.tuple #[.slice a qL.length c, .slice a' rL.length c']) ∧ In w' a c qL ∧ In w' a' c' rL) ∧ Below w.heap.size w w' := by
  obtain ⟨⟨a, c, a', c', lo, up, lo', up', he, h1, h2, h3, h4, -⟩, hb⟩ := h
  exact ⟨⟨a, c, a', c', he, h1.inn h2, h3.inn h4⟩, hb⟩
theorem n_div (a b : Option Addr) (ca cb m n : Nat) (w : World) (hx : In w a ca (limbs m)) (hy : In w b cb (limbs n)) (lm : (limbs m).length ≤ 50) (ln : (limbs n).length ≤ 50) (h0 : 0 < n) :
    Calls Tryd.prog 18 #[.slice a (limbs m).length ca, .slice b (limbs n).length cb] w fun e w' => (∃ a c a' c', e = .returned (.tuple #[.slice a (limbs (m / n)).length c, .slice a' (limbs (m % n)).length c']) ∧ In w' a c (limbs (m / n)) ∧ In w' a' c' (limbs (m % n))) ∧ Below w.heap.size w w' := by
  have h := impl_NatDiv a b ca cb _ _ w hx hy
  have hd : divB (limbs m) (limbs n) = true := by unfold divB; rw [natB_of lm, natB_of ln, decide_eq_true (limbs_pos_iff.2 h0)]; rfl
  have e1 : fDivQ (limbs m) (limbs n) = limbs (m / n) := by unfold fDivQ; rw [if_pos hd, nv_limbs, nv_limbs]
  have e2 : fDivR (limbs m) (limbs n) = limbs (m % n) := by unfold fDivR; rw [if_pos hd, nv_limbs, nv_limbs]
  rw [e1, e2] at h
  exact h.mono fun e w' h => div_in h
theorem n_div0 (a b : Option Addr) (ca cb m n : Nat) (w : World) (hx : In w a ca (limbs m)) (hy : In w b cb (limbs n)) (h0 : n = 0) :
    Calls Tryd.prog 18 #[.slice a (limbs m).length ca, .slice b (limbs n).length cb] w fun e w' => (∃ a c a' c', e = .returned (.tuple #[.slice a 0 c, .slice a' 0 c']) ∧ In w' a c [] ∧ In w' a' c' []) ∧ Below w.heap.size w w' := by
  have h := impl_NatDiv a b ca cb _ _ w hx hy
  have hd : divB (limbs m) (limbs n) = false := by rw [h0]; unfold divB; rw [limbs_zero]; simp
  rw [(divB_no hd).1, (divB_no hd).2] at h
  exact h.mono fun e w' h => div_in h
theorem n_cut (a : Option Addr) (ca m k : Nat) (w : World) (hx : In w a ca (limbs m)) (lm : (limbs m).length ≤ 50) (hk : k ≤ 440) :
    Calls Tryd.prog 19 #[.slice a (limbs m).length ca, .int .i64 k] w fun e w' => (∃ a c a' c', e = .returned (.tuple #[.slice a (limbs (m / 10 ^ k)).length c, .slice a' (limbs (m % 10 ^ k)).length c']) ∧ In w' a c (limbs (m / 10 ^ k)) ∧ In w' a' c' (limbs (m % 10 ^ k))) ∧ Below w.heap.size w w' := by
  have h := impl_NatCut a ca _ k w hx ⟨by omega, by omega⟩
  have hp : 0 < 10 ^ k := Nat.pow_pos (by omega)
  have hd : divB (limbs m) (limbs (10 ^ k)) = true := by unfold divB; rw [natB_of lm, natB_cut hk, decide_eq_true (limbs_pos_iff.2 hp)]; rfl
  have hc : cutB (k : Int) = true := by unfold cutB; rw [decide_eq_true_eq]; omega
  have e1 : fCutQ (limbs m) k = limbs (m / 10 ^ k) := by unfold fCutQ; rw [if_pos hc, Int.toNat_natCast]; unfold fDivQ; rw [if_pos hd, nv_limbs, nv_limbs]
  have e2 : fCutR (limbs m) k = limbs (m % 10 ^ k) := by unfold fCutR; rw [if_pos hc, Int.toNat_natCast]; unfold fDivR; rw [if_pos hd, nv_limbs, nv_limbs]
  rw [e1, e2] at h
  exact h.mono fun e w' h => div_in h
theorem n_text (a : Option Addr) (ca m : Nat) (w : World) (hx : In w a ca (limbs m)) (lm : (limbs m).length ≤ 50) (ht : Tab w) :
    Calls Tryd.prog 21 #[.slice a (limbs m).length ca] w fun e w' => e = .returned (.string (tx (decDigits m))) ∧ Below w.heap.size w w' := by
  have h := impl_NatText a ca _ w hx ht
  have e : fNatText (limbs m) = decDigits m := by unfold fNatText; rw [if_pos (natB_of lm), natTxt_limbs]
  rw [e] at h
  exact h
theorem n_digits (a : Option Addr) (ca m : Nat) (w : World) (hx : In w a ca (limbs m)) (lm : (limbs m).length ≤ 50) (h0 : 0 < m) (ht : Tab w) :
    Calls Tryd.prog 29 #[.slice a (limbs m).length ca] w fun e w' => e = .returned (.int .i64 (decDigits m).length) ∧ Below w.heap.size w w' := by
  have h := impl_NatDigits a ca _ w hx ht
  have e : fNatDigits (limbs m) = (decDigits m).length := by unfold fNatDigits; rw [natB_of lm, decide_eq_true (limbs_pos_iff.2 h0), natTxt_limbs]; rfl
  rw [e] at h
  exact h
theorem n_zeros (a : Option Addr) (ca m : Nat) (w : World) (hx : In w a ca (limbs m)) (lm : (limbs m).length ≤ 50) (h0 : 0 < m) (ht : Tab w) :
    Calls Tryd.prog 30 #[.slice a (limbs m).length ca] w fun e w' => e = .returned (.int .i64 (zerosT (decDigits m))) ∧ Below w.heap.size w w' := by
  have h := impl_NatZeros a ca _ w hx ht
  have e : fNatZeros (limbs m) = zerosT (decDigits m) := by unfold fNatZeros; rw [natB_of lm, decide_eq_true (limbs_pos_iff.2 h0), natTxt_limbs]; rfl
  rw [e] at h
  exact h
theorem n_read (m : Nat) (w : World) (ls : (decDigits m).length ≤ 450) :
    Calls Tryd.prog 20 #[.string (tx (decDigits m))] w fun e w' => (∃ a c, e = .returned (.tuple #[.slice a (limbs m).length c, .bool true]) ∧ In w' a c (limbs m)) ∧ Below w.heap.size w w' := by
  have h := impl_TextNat (tx (decDigits m)) w (by rw [tx_size]; omega)
  rw [tx_list, fTextNat_yes (numB_dec m ls), dv_dec] at h
  refine h.mono ?_
  rintro e w' ⟨⟨a', c', rfl, ho, hl⟩, hb⟩
  exact ⟨⟨a', c', rfl, ho.inn (by omega)⟩, hb⟩
set_option maxHeartbeats 400000 in
theorem same_yes (a b : Option Addr) (ca cb : Nat) (xs : List Int) (w : World) (hx : In w a ca xs) (hy : In w b cb xs) :
    Calls Tryd.prog 23 #[.slice a xs.length ca, .slice b xs.length cb] w fun e w' => e = .returned (.bool true) ∧ Below w.heap.size w w' := by
  have lx := hx.2.2
  go_enter Tryd.func23, Tryd.ntmps23
  go_wp2
  go_loopw [5, 13] (fun j i wr => ∃ k n : Nat, k ≤ xs.length ∧ i = .int .i64 k ∧ wr = w.drewN n) (fun _ i _ => xs.length - (intOf i).toNat)
  case atStart => exact ⟨0, 0, Nat.zero_le _, rfl, rfl⟩
  case round =>
    obtain ⟨k, n, hk, rfl, rfl⟩ := hrel
    by_cases hlt : k < xs.length
    · obtain ⟨bx, ox, x, rfl, hbx, h1, hx1⟩ := hx.1.at k hlt
      obtain ⟨by_, oy, y, rfl, hby, h2, hy1⟩ := hy.1.at k hlt
      have hxy : y = x := by rw [← hx1.out, ← hy1.out]
      subst hxy
      go_wp2
      go_quiet (fail)
      go_wp2
      refine ⟨⟨k + 1, _, by omega, by go_num, rfl⟩, by simp [intOf]; omega⟩
    · go_wp2
      go_ret
      exact ⟨rfl, bel_draw _ _⟩
theorem zeros_ten {n : Nat} (h : 0 < n) : ∀ k, zerosT (decDigits (n * 10 ^ k)) = k + zerosT (decDigits n)
  | 0 => by simp
  | k + 1 => by
    have hp : 0 < 10 ^ k := Nat.pow_pos (by omega)
    have e : n * 10 ^ (k + 1) = n * 10 ^ k * 10 + 0 := by rw [Nat.pow_succ, Nat.mul_assoc]; omega
    rw [e, dec_snoc (Nat.mul_pos h hp) (by omega)]
    have ih := zeros_ten h k
    unfold zerosT at ih ⊢
    rw [List.reverse_append]
    show tz (48 :: (decDigits (n * 10 ^ k)).reverse) = _
    rw [show tz (48 :: (decDigits (n * 10 ^ k)).reverse) = tz (decDigits (n * 10 ^ k)).reverse + 1 from by simp [tz], ih]
    omega
theorem limbs_add {m n j k : Nat} (h1 : (limbs m).length ≤ k) (h2 : (limbs n).length ≤ k) : (limbs (m + n)).length ≤ k + 1 := by
  rw [limbs_len_le] at h1 h2 ⊢
  rw [Nat.pow_succ]
  omega
theorem limbs_mul {m n j k : Nat} (h1 : (limbs m).length ≤ j) (h2 : (limbs n).length ≤ k) : (limbs (m * n)).length ≤ j + k := by
  rw [limbs_len_le] at h1 h2 ⊢
  rw [Nat.pow_add]
  exact Nat.mul_lt_mul'' h1 h2
end Go.Proofs.YtogkonenejfgmaaDoor
