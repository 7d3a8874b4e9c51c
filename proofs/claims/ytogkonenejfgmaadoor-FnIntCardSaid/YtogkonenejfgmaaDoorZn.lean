/- The program's functions on numbers with a sign, said of numbers. For every number within the reach. -/
import Derived.Test.YtogkonenejfgmaaDoorWIntCmi
import Derived.Test.YtogkonenejfgmaaDoorWIntFm
import Derived.Test.YtogkonenejfgmaaDoorWIntOf
import Derived.Test.YtogkonenejfgmaaDoorWStrInt
import Derived.Test.YtogkonenejfgmaaDoorWIntStrI
import Derived.Test.YtogkonenejfgmaaDoorNd
namespace Go.Proofs.YtogkonenejfgmaaDoor
open Go.RowKit
open Go.Lib (decDigits itoa)
set_option linter.unusedVariables false
/-- a slice holds the size of z, within the reach -/
def IV (w : World) (a : Option Addr) (c : Nat) (z : Int) : Prop := In w a c (sg z).2 ∧ (sg z).2.length ≤ 50
theorem IV.below {w w' : World} {a : Option Addr} {c : Nat} {z : Int} (h : IV w a c z) {B : Nat} (hb : Below B w w') (hB : w.heap.size ≤ B) : IV w' a c z := ⟨h.1.below hb hB, h.2⟩
theorem capZ_n {z : Int} (h : (sg z).2.length ≤ 50) : capZ z = z := by unfold capZ; rw [if_neg (by have : (limbs z.natAbs).length ≤ 50 := h; omega)]
theorem intB_z {z : Int} (h : (sg z).2.length ≤ 50) : intB (sg z).1 (sg z).2 = true := intB_sg h

theorem z_add (a b : Option Addr) (ca cb : Nat) (x y : Int) (w : World) (hx : IV w a ca x) (hy : IV w b cb y) (hl : (sg (x + y)).2.length ≤ 50) :
    Calls Tryd.prog 37 #[.agg #[.bool (sg x).1, .slice a (sg x).2.length ca], .agg #[.bool (sg y).1, .slice b (sg y).2.length cb]] w fun e w' => (∃ a' c', e = .returned (.agg #[.bool (sg (x + y)).1, .slice a' (sg (x + y)).2.length c']) ∧ IV w' a' c' (x + y)) ∧ Below w.heap.size w w' := by
  have h := impl_IntAdd (sg x).1 (sg y).1 a b ca cb _ _ w hx.1 hy.1
  have e : fIAdd (sg x).1 (sg x).2 (sg y).1 (sg y).2 = sg (x + y) := by
    unfold fIAdd
    rw [intB_z hx.2, intB_z hy.2, sv_sg, sv_sg, capZ_n hl]; rfl
  rw [e] at h
  refine h.mono ?_
  rintro e w' ⟨⟨a', c', rfl, ho, hn⟩, hb⟩
  exact ⟨⟨a', c', rfl, ho.inn (by omega), hn⟩, hb⟩

theorem z_sub (a b : Option Addr) (ca cb : Nat) (x y : Int) (w : World) (hx : IV w a ca x) (hy : IV w b cb y) (hl : (sg (x - y)).2.length ≤ 50) :
    Calls Tryd.prog 36 #[.agg #[.bool (sg x).1, .slice a (sg x).2.length ca], .agg #[.bool (sg y).1, .slice b (sg y).2.length cb]] w fun e w' => (∃ a' c', e = .returned (.agg #[.bool (sg (x - y)).1, .slice a' (sg (x - y)).2.length c']) ∧ IV w' a' c' (x - y)) ∧ Below w.heap.size w w' := by
  have h := impl_IntSub (sg x).1 (sg y).1 a b ca cb _ _ w hx.1 hy.1
  have e : fISub (sg x).1 (sg x).2 (sg y).1 (sg y).2 = sg (x - y) := by
    unfold fISub
    rw [intB_z hx.2, intB_z hy.2, sv_sg, sv_sg, capZ_n hl]; rfl
  rw [e] at h
  refine h.mono ?_
  rintro e w' ⟨⟨a', c', rfl, ho, hn⟩, hb⟩
  exact ⟨⟨a', c', rfl, ho.inn (by omega), hn⟩, hb⟩

theorem z_mul (a b : Option Addr) (ca cb : Nat) (x y : Int) (w : World) (hx : IV w a ca x) (hy : IV w b cb y) (hl : (sg (x * y)).2.length ≤ 50) :
    Calls Tryd.prog 38 #[.agg #[.bool (sg x).1, .slice a (sg x).2.length ca], .agg #[.bool (sg y).1, .slice b (sg y).2.length cb]] w fun e w' => (∃ a' c', e = .returned (.agg #[.bool (sg (x * y)).1, .slice a' (sg (x * y)).2.length c']) ∧ IV w' a' c' (x * y)) ∧ Below w.heap.size w w' := by
  have h := impl_IntMul (sg x).1 (sg y).1 a b ca cb _ _ w hx.1 hy.1
  have e : fIMul (sg x).1 (sg x).2 (sg y).1 (sg y).2 = sg (x * y) := by
    unfold fIMul
    rw [intB_z hx.2, intB_z hy.2, sv_sg, sv_sg, capZ_n hl]; rfl
  rw [e] at h
  refine h.mono ?_
  rintro e w' ⟨⟨a', c', rfl, ho, hn⟩, hb⟩
  exact ⟨⟨a', c', rfl, ho.inn (by omega), hn⟩, hb⟩

theorem z_cmp (a b : Option Addr) (ca cb : Nat) (x y : Int) (w : World) (hx : IV w a ca x) (hy : IV w b cb y) :
    Calls Tryd.prog 35 #[.agg #[.bool (sg x).1, .slice a (sg x).2.length ca], .agg #[.bool (sg y).1, .slice b (sg y).2.length cb]] w fun e w' => e = .returned (.int .i64 (sgnZ (x - y))) ∧ Below w.heap.size w w' := by
  have h := impl_IntCmp (sg x).1 (sg y).1 a b ca cb _ _ w hx.1 hy.1
  have e : fICmp (sg x).1 (sg x).2 (sg y).1 (sg y).2 = sgnZ (x - y) := by
    unfold fICmp
    rw [intB_z hx.2, intB_z hy.2, sv_sg, sv_sg]; rfl
  rw [e] at h
  exact h

theorem z_neg (a : Option Addr) (ca : Nat) (x : Int) (w : World) (hx : IV w a ca x) :
    Calls Tryd.prog 41 #[.agg #[.bool (sg x).1, .slice a (sg x).2.length ca]] w fun e w' => (∃ a' c', e = .returned (.agg #[.bool (sg (-x)).1, .slice a' (sg (-x)).2.length c']) ∧ IV w' a' c' (-x)) ∧ Below w.heap.size w w' := by
  have h := impl_IntNeg (sg x).1 a ca _ w hx.1
  have e : fNeg (sg x).1 (sg x).2 = sg (-x) := by
    unfold fNeg
    rw [intB_z hx.2, sv_sg]; rfl
  rw [e] at h
  refine h.mono ?_
  rintro e w' ⟨⟨a', c', rfl, ho, hn⟩, hb⟩
  exact ⟨⟨a', c', rfl, ho.inn (by omega), hn⟩, hb⟩

theorem z_abs (a : Option Addr) (ca : Nat) (x : Int) (w : World) (hx : IV w a ca x) :
    Calls Tryd.prog 42 #[.agg #[.bool (sg x).1, .slice a (sg x).2.length ca]] w fun e w' => (∃ a' c', e = .returned (.agg #[.bool (sg ((x.natAbs : Int))).1, .slice a' (sg ((x.natAbs : Int))).2.length c']) ∧ IV w' a' c' ((x.natAbs : Int))) ∧ Below w.heap.size w w' := by
  have h := impl_IntAbs (sg x).1 a ca _ w hx.1
  have e : fAbs (sg x).1 (sg x).2 = sg ((x.natAbs : Int)) := by
    unfold fAbs
    rw [intB_z hx.2, sv_sg]; rfl
  rw [e] at h
  refine h.mono ?_
  rintro e w' ⟨⟨a', c', rfl, ho, hn⟩, hb⟩
  exact ⟨⟨a', c', rfl, ho.inn (by omega), hn⟩, hb⟩

theorem z_sign (a : Option Addr) (ca : Nat) (x : Int) (w : World) (hx : IV w a ca x) :
    Calls Tryd.prog 40 #[.agg #[.bool (sg x).1, .slice a (sg x).2.length ca]] w fun e w' => e = .returned (.int .i64 (sgnZ x)) ∧ Below w.heap.size w w' := by
  have h := impl_IntSign (sg x).1 a ca _ w hx.1
  have e : fISign (sg x).1 (sg x).2 = sgnZ x := by
    unfold fISign
    rw [intB_z hx.2, sv_sg]; rfl
  rw [e] at h
  exact h
theorem z_num (a : Option Addr) (ca : Nat) (x : Int) (w : World) (hx : IV w a ca x) (hr : x.natAbs ≤ 9223372036854775807) :
    Calls Tryd.prog 39 #[.agg #[.bool (sg x).1, .slice a (sg x).2.length ca]] w fun e w' => e = .returned (.tuple #[.int .i64 x, .bool true]) ∧ Below w.heap.size w w' := by
  have h := impl_IntNum (sg x).1 a ca _ w hx.1
  have e : fINum (sg x).1 (sg x).2 = (x, true) := by
    unfold fINum
    rw [if_pos ⟨intB_z hx.2, by show nv (limbs x.natAbs) ≤ _; rw [nv_limbs]; exact hr⟩, sv_sg]
  rw [e] at h
  exact h
theorem z_of (x : Int) (w : World) (hr : Rng x) :
    Calls Tryd.prog 34 #[.int .i64 x] w fun e w' => (∃ a' c', e = .returned (.agg #[.bool (sg x).1, .slice a' (sg x).2.length c']) ∧ IV w' a' c' x) ∧ Below w.heap.size w w' := by
  have h := impl_IntOf x w hr
  rw [show fIOf x = sg x from rfl] at h
  refine h.mono ?_
  rintro e w' ⟨⟨a', c', rfl, ho, hn⟩, hb⟩
  exact ⟨⟨a', c', rfl, ho.inn (by omega), hn⟩, hb⟩
theorem z_str (a : Option Addr) (ca : Nat) (x : Int) (w : World) (hx : IV w a ca x) (ht : Tab w) :
    Calls Tryd.prog 33 #[.agg #[.bool (sg x).1, .slice a (sg x).2.length ca]] w fun e w' => e = .returned (.string (tx (itoa x))) ∧ Below w.heap.size w w' := by
  have h := impl_IntStr (sg x).1 a ca _ w hx.1 ht
  have e : fIntStr (sg x).1 (sg x).2 = itoa x := by
    unfold fIntStr
    rw [intB_z hx.2]
    show (if decide (x < 0) = true then 45 :: natTxt (limbs x.natAbs) else natTxt (limbs x.natAbs)) = itoa x
    rw [natTxt_limbs]
    unfold itoa
    by_cases h0 : x < 0
    · rw [if_pos (decide_eq_true h0), if_pos h0]
    · rw [if_neg (by simpa using h0), if_neg h0]
      have : x.natAbs = x.toNat := by omega
      rw [this]
  rw [e] at h
  exact h
theorem z_read (x : Int) (w : World) (hx : (decDigits x.natAbs).length ≤ 450) :
    Calls Tryd.prog 32 #[.string (tx (itoa x))] w fun e w' => (∃ a' c', e = .returned (.tuple #[.agg #[.bool (sg x).1, .slice a' (sg x).2.length c'], .bool true]) ∧ In w' a' c' (sg x).2) ∧ Below w.heap.size w w' := by
  have hsz : (tx (itoa x)).size ≤ 1099511627776 := by
    rw [tx_size]
    unfold itoa
    by_cases h0 : x < 0
    · rw [if_pos h0, List.length_cons]; omega
    · rw [if_neg h0, show x.toNat = x.natAbs by omega]; omega
  have h := impl_StrInt (tx (itoa x)) w hsz
  rw [tx_list] at h
  have e : fStrInt (itoa x) = (sg x, true) := by
    unfold itoa
    by_cases h0 : x < 0
    · rw [if_pos h0]
      have h1 : fTextNat (45 :: decDigits x.natAbs).tail = (limbs x.natAbs, true) := by
        show fTextNat (decDigits x.natAbs) = _
        rw [fTextNat_yes (numB_dec _ hx), dv_dec]
      rw [fStrInt_neg_yes rfl (by rw [h1]) (by rw [h1]; exact limbs_len_pos.2 (by omega)), h1]
      unfold sg; rw [decide_eq_true h0]
    · rw [if_neg h0, show x.toNat = x.natAbs by omega]
      have h1 : fTextNat (decDigits x.natAbs) = (limbs x.natAbs, true) := by rw [fTextNat_yes (numB_dec _ hx), dv_dec]
      rw [fStrInt_yes ?_ (by rw [h1]), h1]
      · unfold sg; rw [decide_eq_false h0]
      · have hd := digs_dec x.natAbs
        intro hh
        cases hl : decDigits x.natAbs with
        | nil => rw [hl] at hh; simp at hh
        | cons c r =>
          rw [hl] at hh hd
          have h45 : c = 45 := by simpa using hh
          have := hd c (by simp)
          rw [h45] at this
          revert this; decide
  rw [e] at h
  refine h.mono ?_
  rintro e w' ⟨⟨a', c', rfl, ho, hn⟩, hb⟩
  exact ⟨⟨a', c', rfl, ho.inn (by omega)⟩, hb⟩
end Go.Proofs.YtogkonenejfgmaaDoor
