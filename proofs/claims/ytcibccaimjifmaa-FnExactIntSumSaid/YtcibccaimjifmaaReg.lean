/- Words for a law's region in which the result's box is made next to the calls: two stores into one box. No condition. -/
import Derived.Test.YtcibccaimjifmaaWIntOk
namespace Go.Proofs.Ytcibccaimjifmaa
open Go.RowKit
theorem box_frozen (W : World) (C : Array Value) (T : TypeId) (b o : Nat) (h : b = W.heap.size) : (W.alloc (.cells C T)).frozen? ⟨b, o, none⟩ = false := by subst h; simp
theorem addr_ne {a b c d : Nat} (h : ¬ (a = c ∧ b = d)) : (⟨a, b, none⟩ : Addr) ≠ ⟨c, d, none⟩ := by intro e; simp only [Addr.mk.injEq] at e; exact h ⟨e.1, e.2.1⟩
theorem far2 {W : World} {r p o : Nat} {u v z : Value} (h : r ≠ p) (hc : W.cell? ⟨p, o, none⟩ = some z) : ((W.setCell ⟨r, 0, none⟩ u).setCell ⟨r, 1, none⟩ v).cell? ⟨p, o, none⟩ = some z := by
  rw [World.cell?_setCell_other _ _ _ _ (addr_ne (by omega)), World.cell?_setCell_other _ _ _ _ (addr_ne (by omega))]
  exact hc
theorem set2_cell0 {W : World} {r : Nat} {u v u' : Value} (h0 : W.cell? ⟨r, 0, none⟩ = some u') : ((W.setCell ⟨r, 0, none⟩ u).setCell ⟨r, 1, none⟩ v).cell? ⟨r, 0, none⟩ = some u := by
  rw [World.cell?_setCell_other _ _ _ _ (addr_ne (by omega))]
  exact World.cell?_setCell_same _ _ _ h0
theorem set2_cell1 {W : World} {r : Nat} {u v v' : Value} (h1 : W.cell? ⟨r, 1, none⟩ = some v') : ((W.setCell ⟨r, 0, none⟩ u).setCell ⟨r, 1, none⟩ v).cell? ⟨r, 1, none⟩ = some v :=
  World.cell?_setCell_same _ _ _ ((World.cell?_setCell_other _ _ _ _ (addr_ne (by omega))).trans h1)
theorem set2_own {W : World} {B B0 r c : Nat} {a : Option Addr} {xs : List Int} {u v : Value} (h : Own W B0 a c xs) (hr : r < B0) (hB : B ≤ B0) : Own ((W.setCell ⟨r, 0, none⟩ u).setCell ⟨r, 1, none⟩ v) B a c xs :=
  own_set (B0 := B0) (own_set (B := B0) (B0 := B0) h hr _ (Nat.le_refl _)) hr _ hB
theorem set2_below {w0 W : World} {B r : Nat} {u v : Value} (h : Below B w0 W) (hr : B ≤ r) : Below B w0 ((W.setCell ⟨r, 0, none⟩ u).setCell ⟨r, 1, none⟩ v) :=
  (h.setCell (p := ⟨r, 0, none⟩) hr _).setCell (p := ⟨r, 1, none⟩) hr _
end Go.Proofs.Ytcibccaimjifmaa
