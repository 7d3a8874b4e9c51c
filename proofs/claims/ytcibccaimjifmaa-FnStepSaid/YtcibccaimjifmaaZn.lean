/- The program's functions on numbers with a sign, said of numbers. For every number within the reach. -/
import Derived.Test.YtcibccaimjifmaaWIntCmi
import Derived.Test.YtcibccaimjifmaaWIntFm
import Derived.Test.YtcibccaimjifmaaWIntOf
namespace Go.Proofs.Ytcibccaimjifmaa
open Go.RowKit
set_option linter.unusedVariables false
/-- a slice holds the size of z, within the reach -/
def IV (w : World) (a : Option Addr) (c : Nat) (z : Int) : Prop := In w a c (sg z).2 ∧ (sg z).2.length ≤ 50
theorem IV.below {w w' : World} {a : Option Addr} {c : Nat} {z : Int} (h : IV w a c z) {B : Nat} (hb : Below B w w') (hB : w.heap.size ≤ B) : IV w' a c z := ⟨h.1.below hb hB, h.2⟩
theorem capZ_n {z : Int} (h : (sg z).2.length ≤ 50) : capZ z = z := by unfold capZ; rw [if_neg (by have : (limbs z.natAbs).length ≤ 50 := h; omega)]
theorem intB_z {z : Int} (h : (sg z).2.length ≤ 50) : intB (sg z).1 (sg z).2 = true := intB_sg h

theorem z_add (a b : Option Addr) (ca cb : Nat) (x y : Int) (w : World) (hx : IV w a ca x) (hy : IV w b cb y) (hl : (sg (x + y)).2.length ≤ 50) :
    Calls Try.prog 29 #[.agg #[.bool (sg x).1, .slice a (sg x).2.length ca], .agg #[.bool (sg y).1, .slice b (sg y).2.length cb]] w fun e w' => (∃ a' c', e = .returned (.agg #[.bool (sg (x + y)).1, .slice a' (sg (x + y)).2.length c']) ∧ IV w' a' c' (x + y)) ∧ Below w.heap.size w w' := by
  have h := impl_IntAdd (sg x).1 (sg y).1 a b ca cb _ _ w hx.1 hy.1
  have e : fIAdd (sg x).1 (sg x).2 (sg y).1 (sg y).2 = sg (x + y) := by
    unfold fIAdd
    rw [intB_z hx.2, intB_z hy.2, sv_sg, sv_sg, capZ_n hl]; rfl
  rw [e] at h
  refine h.mono ?_
  rintro e w' ⟨⟨a', c', rfl, ho, hn⟩, hb⟩
  exact ⟨⟨a', c', rfl, ho.inn (by omega), hn⟩, hb⟩

theorem z_sub (a b : Option Addr) (ca cb : Nat) (x y : Int) (w : World) (hx : IV w a ca x) (hy : IV w b cb y) (hl : (sg (x - y)).2.length ≤ 50) :
    Calls Try.prog 21 #[.agg #[.bool (sg x).1, .slice a (sg x).2.length ca], .agg #[.bool (sg y).1, .slice b (sg y).2.length cb]] w fun e w' => (∃ a' c', e = .returned (.agg #[.bool (sg (x - y)).1, .slice a' (sg (x - y)).2.length c']) ∧ IV w' a' c' (x - y)) ∧ Below w.heap.size w w' := by
  have h := impl_IntSub (sg x).1 (sg y).1 a b ca cb _ _ w hx.1 hy.1
  have e : fISub (sg x).1 (sg x).2 (sg y).1 (sg y).2 = sg (x - y) := by
    unfold fISub
    rw [intB_z hx.2, intB_z hy.2, sv_sg, sv_sg, capZ_n hl]; rfl
  rw [e] at h
  refine h.mono ?_
  rintro e w' ⟨⟨a', c', rfl, ho, hn⟩, hb⟩
  exact ⟨⟨a', c', rfl, ho.inn (by omega), hn⟩, hb⟩

theorem z_cmp (a b : Option Addr) (ca cb : Nat) (x y : Int) (w : World) (hx : IV w a ca x) (hy : IV w b cb y) :
    Calls Try.prog 22 #[.agg #[.bool (sg x).1, .slice a (sg x).2.length ca], .agg #[.bool (sg y).1, .slice b (sg y).2.length cb]] w fun e w' => e = .returned (.int .i64 (sgnZ (x - y))) ∧ Below w.heap.size w w' := by
  have h := impl_IntCmp (sg x).1 (sg y).1 a b ca cb _ _ w hx.1 hy.1
  have e : fICmp (sg x).1 (sg x).2 (sg y).1 (sg y).2 = sgnZ (x - y) := by
    unfold fICmp
    rw [intB_z hx.2, intB_z hy.2, sv_sg, sv_sg]; rfl
  rw [e] at h
  exact h

theorem z_abs (a : Option Addr) (ca : Nat) (x : Int) (w : World) (hx : IV w a ca x) :
    Calls Try.prog 20 #[.agg #[.bool (sg x).1, .slice a (sg x).2.length ca]] w fun e w' => (∃ a' c', e = .returned (.agg #[.bool (sg ((x.natAbs : Int))).1, .slice a' (sg ((x.natAbs : Int))).2.length c']) ∧ IV w' a' c' ((x.natAbs : Int))) ∧ Below w.heap.size w w' := by
  have h := impl_IntAbs (sg x).1 a ca _ w hx.1
  have e : fAbs (sg x).1 (sg x).2 = sg ((x.natAbs : Int)) := by
    unfold fAbs
    rw [intB_z hx.2, sv_sg]; rfl
  rw [e] at h
  refine h.mono ?_
  rintro e w' ⟨⟨a', c', rfl, ho, hn⟩, hb⟩
  exact ⟨⟨a', c', rfl, ho.inn (by omega), hn⟩, hb⟩

theorem z_of (x : Int) (w : World) (hr : Rng x) :
    Calls Try.prog 23 #[.int .i64 x] w fun e w' => (∃ a' c', e = .returned (.agg #[.bool (sg x).1, .slice a' (sg x).2.length c']) ∧ IV w' a' c' x) ∧ Below w.heap.size w w' := by
  have h := impl_IntOf x w hr
  rw [show fIOf x = sg x from rfl] at h
  refine h.mono ?_
  rintro e w' ⟨⟨a', c', rfl, ho, hn⟩, hb⟩
  exact ⟨⟨a', c', rfl, ho.inn (by omega), hn⟩, hb⟩
end Go.Proofs.Ytcibccaimjifmaa
