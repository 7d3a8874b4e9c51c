/- Sums of products. (Printed by gen_rat2.py.) -/
import Derived.Test.YtoandabopahmhaaWRatC
import Derived.Test.YtoandabopahmhaaWIntAdd
namespace Go.Proofs.Ytoandabopahmhaa
open Go.RowKit
set_option linter.unusedVariables false
theorem alloc_step2 {W0 W : World} (hb : Below W0.heap.size W0 W) (u v : Value) (T : TypeId) : Below W0.heap.size W0 (W.alloc (.cells #[u, v] T)) ∧ Box2 (W.alloc (.cells #[u, v] T)) W.heap.size u v ∧ W0.heap.size ≤ W.heap.size :=
  ⟨hb.alloc hb.size _, Box2.new W u v T _ rfl, hb.size⟩
theorem alloc_step3 {W0 W : World} (hb : Below W0.heap.size W0 W) (u v z : Value) (T : TypeId) : Below W0.heap.size W0 (W.alloc (.cells #[u, v, z] T)) ∧ Box3 (W.alloc (.cells #[u, v, z] T)) W.heap.size u v z ∧ W0.heap.size ≤ W.heap.size :=
  ⟨hb.alloc hb.size _, Box3.new W u v z T _ rfl, hb.size⟩
theorem alloc_drew3 (W : World) (u v z : Value) (T : TypeId) : Below W.heap.size W (World.drew (W.alloc (.cells #[u, v, z] T))) ∧ Box3 (World.drew (W.alloc (.cells #[u, v, z] T))) W.heap.size u v z ∧ W.heap.size ≤ W.heap.size :=
  ⟨(bel_alloc W _).drew, (Box3.new W u v z T _ rfl).below (Below.refl _ _).drew (Nat.le_refl _), Nat.le_refl _⟩
theorem set3_cell0 {W : World} {r : Nat} {u v z u' : Value} (h0 : W.cell? ⟨r, 0, none⟩ = some u') : (((W.setCell ⟨r, 0, none⟩ u).setCell ⟨r, 1, none⟩ v).setCell ⟨r, 2, none⟩ z).cell? ⟨r, 0, none⟩ = some u := by
  rw [World.cell?_setCell_other _ _ _ _ (addr_ne (by omega))]; exact set2_cell0 h0
theorem set3_cell1 {W : World} {r : Nat} {u v z v' : Value} (h0 : W.cell? ⟨r, 1, none⟩ = some v') : (((W.setCell ⟨r, 0, none⟩ u).setCell ⟨r, 1, none⟩ v).setCell ⟨r, 2, none⟩ z).cell? ⟨r, 1, none⟩ = some v := by
  rw [World.cell?_setCell_other _ _ _ _ (addr_ne (by omega))]; exact set2_cell1 h0
theorem set3_cell2 {W : World} {r : Nat} {u v z z' : Value} (h0 : W.cell? ⟨r, 2, none⟩ = some z') : (((W.setCell ⟨r, 0, none⟩ u).setCell ⟨r, 1, none⟩ v).setCell ⟨r, 2, none⟩ z).cell? ⟨r, 2, none⟩ = some z :=
  World.cell?_setCell_same _ _ _ ((World.cell?_setCell_other _ _ _ _ (addr_ne (by omega))).trans ((World.cell?_setCell_other _ _ _ _ (addr_ne (by omega))).trans h0))
theorem alloc_drew2 (W : World) (u v : Value) (T : TypeId) : Below W.heap.size W (World.drew (W.alloc (.cells #[u, v] T))) ∧ Box2 (World.drew (W.alloc (.cells #[u, v] T))) W.heap.size u v ∧ W.heap.size ≤ W.heap.size :=
  ⟨(bel_alloc W _).drew, (Box2.new W u v T _ rfl).below (Below.refl _ _).drew (Nat.le_refl _), Nat.le_refl _⟩
theorem ne_blk {N r p : Nat} (h : N ≤ r) (hp : p < N) : r ≠ p := by omega
theorem len_add2 {p q k : Nat} (hp : (limbs p).length ≤ k) (hq : (limbs q).length ≤ k) : (limbs (p + q)).length ≤ k + 1 := by
  rw [limbs_len_le] at hp hq ⊢
  rw [Nat.pow_succ]
  omega
theorem zadd_abs (a b : Bool) (p q : Nat) : (zOf a p + zOf b q).natAbs ≤ p + q := by unfold zOf; cases a <;> cases b <;> simp <;> omega
theorem capZ_id {z : Int} (h : (limbs z.natAbs).length ≤ 50) : capZ z = z := by unfold capZ; rw [if_neg (by omega)]
theorem zadd_len (a b : Bool) {p q : Nat} (hp : (limbs p).length ≤ 40) (hq : (limbs q).length ≤ 40) : (limbs (zOf a p + zOf b q).natAbs).length ≤ 41 :=
  Nat.le_trans (limbs_len_mono (zadd_abs a b p q)) (len_add2 hp hq)
theorem l04Add_i (b1 b2 : Bool) (a b : Option Addr) (ca cb p q : Nat) (w : World) (hx : In w a ca (limbs p)) (hy : In w b cb (limbs q)) (hp : (limbs p).length ≤ 40) (hq : (limbs q).length ≤ 40) :
    Calls Try.prog 86 #[.agg #[.bool (b1 && decide (0 < (limbs p).length)), .slice a (limbs p).length ca], .agg #[.bool (b2 && decide (0 < (limbs q).length)), .slice b (limbs q).length cb]] w fun e w' => (∃ a' c', e = .returned (.agg #[.bool (decide (zOf b1 p + zOf b2 q < 0)), .slice a' (limbs (zOf b1 p + zOf b2 q).natAbs).length c']) ∧ In w' a' c' (limbs (zOf b1 p + zOf b2 q).natAbs)) ∧ Below w.heap.size w w' := by
  have hl := zadd_len b1 b2 hp hq
  have h := l04Add_any (b1 && decide (0 < (limbs p).length)) (b2 && decide (0 < (limbs q).length)) a b ca cb p q w hx hy (by omega) (by omega)
  rw [zOf_and, zOf_and, capZ_id (by omega)] at h
  refine h.mono ?_
  rintro e w1 ⟨⟨a1, c1, h, ho⟩, hb⟩
  exact ⟨⟨a1, c1, h, ho.inn (by show (limbs _).length ≤ _; omega)⟩, hb⟩
theorem intAdd_i (b1 b2 : Bool) (a b : Option Addr) (ca cb p q : Nat) (w : World) (hx : In w a ca (limbs p)) (hy : In w b cb (limbs q)) (hp : (limbs p).length ≤ 40) (hq : (limbs q).length ≤ 40) :
    Calls Try.prog 87 #[.agg #[.bool (b1 && decide (0 < (limbs p).length)), .slice a (limbs p).length ca], .agg #[.bool (b2 && decide (0 < (limbs q).length)), .slice b (limbs q).length cb]] w fun e w' => (∃ a' c', e = .returned (.agg #[.bool (decide (zOf b1 p + zOf b2 q < 0)), .slice a' (limbs (zOf b1 p + zOf b2 q).natAbs).length c']) ∧ In w' a' c' (limbs (zOf b1 p + zOf b2 q).natAbs)) ∧ Below w.heap.size w w' := by
  have hl := zadd_len b1 b2 hp hq
  have h := intAdd_any (b1 && decide (0 < (limbs p).length)) (b2 && decide (0 < (limbs q).length)) a b ca cb p q w hx hy (by omega) (by omega)
  rw [zOf_and, zOf_and] at h
  refine h.mono ?_
  rintro e w1 ⟨⟨a1, c1, h, ho⟩, hb⟩
  exact ⟨⟨a1, c1, h, ho.inn (by show (limbs _).length ≤ _; omega)⟩, hb⟩
theorem reduce_z (z : Int) (a : Option Addr) (c : Nat) (b : Option Addr) (d n : Nat) (w : World) (FX : (Bool × List Int × List Int) × Bool) (hF : FX = low (decide (z < 0)) z.natAbs n) (hx : Rd w a (limbs z.natAbs)) (hy : Rd w b (limbs n)) (lx : (limbs z.natAbs).length ≤ 1000) (ly : (limbs n).length ≤ 1000) (hn : 0 < n) :
    Calls Try.prog 70 #[.agg #[.bool (decide (z < 0)), .slice a (limbs z.natAbs).length c], .slice b (limbs n).length d] w fun e w' => RatPost2 w FX e w' := by
  rw [hF]
  exact reduce_any _ a c _ b d n w hx hy lx ly hn
theorem intAdd_z2 (b1 b2 : Bool) (a b : Option Addr) (ca cb p q : Nat) (z : Int) (w : World) (hz : z = zOf b1 p + zOf b2 q) (hx : In w a ca (limbs p)) (hy : In w b cb (limbs q)) (hp : (limbs p).length ≤ 40) (hq : (limbs q).length ≤ 40) :
    Calls Try.prog 87 #[.agg #[.bool (b1 && decide (0 < (limbs p).length)), .slice a (limbs p).length ca], .agg #[.bool (b2 && decide (0 < (limbs q).length)), .slice b (limbs q).length cb]] w fun e w' => (∃ a' c', e = .returned (.agg #[.bool (decide (z < 0)), .slice a' (limbs z.natAbs).length c']) ∧ In w' a' c' (limbs z.natAbs)) ∧ Below w.heap.size w w' := by
  rw [hz]; exact intAdd_i _ _ _ _ _ _ _ _ _ hx hy hp hq
theorem low_sg {z : Int} {d : Nat} : low (decide (z < 0) && decide (0 < (limbs z.natAbs).length)) z.natAbs d = low (decide (z < 0)) z.natAbs d := low_and _ _ _
theorem sg_neg (z : Int) : decide (z < 0) = (decide (z < 0) && decide (0 < (limbs z.natAbs).length)) := by
  by_cases h : z < 0
  · have : 0 < (limbs z.natAbs).length := limbs_len_pos.2 (by omega)
    simp [h, this]
  · simp [h]
end Go.Proofs.Ytoandabopahmhaa
