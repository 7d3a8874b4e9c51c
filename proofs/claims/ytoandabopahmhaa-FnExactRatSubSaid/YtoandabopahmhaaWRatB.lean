/- Boxes; products of numbers that are read. (Printed by gen_rat2.py.) -/
import Derived.Test.YtoandabopahmhaaWLow
import Derived.Test.YtoandabopahmhaaWIntOps
import Derived.Test.YtoandabopahmhaaReg
import Derived.Deep.RegionHeld3
import Derived.Deep.DeepCutAuto
namespace Go.Proofs.Ytoandabopahmhaa
open Go.RowKit
set_option linter.unusedVariables false
theorem far3 {W : World} {r p o : Nat} {u v x z : Value} (h : r ≠ p) (hc : W.cell? ⟨p, o, none⟩ = some z) : (((W.setCell ⟨r, 0, none⟩ u).setCell ⟨r, 1, none⟩ v).setCell ⟨r, 2, none⟩ x).cell? ⟨p, o, none⟩ = some z := by
  rw [World.cell?_setCell_other _ _ _ _ (addr_ne (by omega)), World.cell?_setCell_other _ _ _ _ (addr_ne (by omega)), World.cell?_setCell_other _ _ _ _ (addr_ne (by omega))]
  exact hc
theorem own_in {w : World} {B : Nat} {a : Option Addr} {c : Nat} {xs : List Int} (h : Own w B a c xs) (hl : xs.length ≤ 1099511627776) : In w a c xs := h.inn hl
theorem intMul_n (b1 b2 : Bool) (a b : Option Addr) (ca cb m n : Nat) (w : World) (hx : In w a ca (limbs m)) (hy : In w b cb (limbs n)) (lm : (limbs m).length ≤ 400) (ln : (limbs n).length ≤ 400) :
    Calls Try.prog 85 #[.agg #[.bool b1, .slice a (limbs m).length ca], .agg #[.bool b2, .slice b (limbs n).length cb]] w fun e w' => (∃ a' c', e = .returned (.agg #[.bool (b1 != b2 && decide (0 < (limbs (m * n)).length)), .slice a' (limbs (m * n)).length c']) ∧ In w' a' c' (limbs (m * n))) ∧ Below w.heap.size w w' := by
  have hl := len_mul m n
  refine (intMul_any b1 b2 a b ca cb m n w hx hy (by omega) (by omega)).mono ?_
  rw [zOf_mul, sg_zOf]
  rintro e w1 ⟨⟨a1, c1, h, ho⟩, hb⟩
  exact ⟨⟨a1, c1, h, ho.inn (by show (limbs (m * n)).length ≤ _; omega)⟩, hb⟩
theorem natMul_n (a b : Option Addr) (ca cb m n : Nat) (w : World) (hx : In w a ca (limbs m)) (hy : In w b cb (limbs n)) (lm : (limbs m).length ≤ 400) (ln : (limbs n).length ≤ 400) :
    Calls Try.prog 84 #[.slice a (limbs m).length ca, .slice b (limbs n).length cb] w fun e w' => (∃ a' c', e = .returned (.slice a' (limbs (m * n)).length c') ∧ In w' a' c' (limbs (m * n))) ∧ Below w.heap.size w w' := by
  have hl := len_mul m n
  refine (natMul_any a b ca cb m n w hx.1 hy.1 (by omega) (by omega)).mono ?_
  rintro e w1 ⟨⟨a1, c1, h, ho⟩, hb⟩
  exact ⟨⟨a1, c1, h, ho.inn (by omega)⟩, hb⟩
theorem l02Mul_n (a b : Option Addr) (ca cb m n : Nat) (w : World) (hx : In w a ca (limbs m)) (hy : In w b cb (limbs n)) (lm : (limbs m).length ≤ 400) (ln : (limbs n).length ≤ 400) :
    Calls Try.prog 80 #[.slice a (limbs m).length ca, .slice b (limbs n).length cb] w fun e w' => (∃ a' c', e = .returned (.slice a' (limbs (m * n)).length c') ∧ In w' a' c' (limbs (m * n))) ∧ Below w.heap.size w w' := by
  have hl := len_mul m n
  refine (l02Mul_all a b ca cb m n w hx.1 hy.1 (by omega) (by omega)).mono ?_
  rintro e w1 ⟨⟨a1, c1, h, ho⟩, hb⟩
  exact ⟨⟨a1, c1, h, ho.inn (by omega)⟩, hb⟩
theorem reduce_F (neg : Bool) (a : Option Addr) (c m : Nat) (b : Option Addr) (d n : Nat) (w : World) (FX : (Bool × List Int × List Int) × Bool) (hF : FX = low neg m n) (hx : Rd w a (limbs m)) (hy : Rd w b (limbs n)) (lx : (limbs m).length ≤ 1000) (ly : (limbs n).length ≤ 1000) (hn : 0 < n) :
    Calls Try.prog 70 #[.agg #[.bool (neg && decide (0 < (limbs m).length)), .slice a (limbs m).length c], .slice b (limbs n).length d] w fun e w' => RatPost2 w FX e w' := by
  rw [hF, ← low_and]
  exact reduce_any _ a c m b d n w hx hy lx ly hn
theorem low_F (neg : Bool) (a : Option Addr) (c m : Nat) (b : Option Addr) (d n : Nat) (w : World) (FX : (Bool × List Int × List Int) × Bool) (hF : FX = low neg m n) (hx : In w a c (limbs m)) (hy : In w b d (limbs n)) (lx : (limbs m).length ≤ 800) (ly : (limbs n).length ≤ 800) (hn : 0 < n) :
    Calls Try.prog 68 #[.bool neg, .slice a (limbs m).length c, .slice b (limbs n).length d] w fun e w' => SRatPost2 w FX e w' := by
  rw [hF]
  exact l05Low_any _ a c m b d n w hx hy lx ly hn
end Go.Proofs.Ytoandabopahmhaa
