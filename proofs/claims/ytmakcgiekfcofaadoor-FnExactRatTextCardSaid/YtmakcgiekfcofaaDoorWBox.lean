/- Boxes of three cells of the call's own. -/
import Derived.Test.YtmakcgiekfcofaaDoorReg
namespace Go.Proofs.YtmakcgiekfcofaaDoor
open Go.RowKit
/-- a box of three cells of the call's own -/
def Box3 (W : World) (r : Nat) (u v z : Value) : Prop :=
  (W.cell? ⟨r, 0, none⟩ = some u ∧ W.cell? ⟨r, 1, none⟩ = some v ∧ W.cell? ⟨r, 2, none⟩ = some z) ∧ W.frozen? ⟨r, 0, none⟩ = false ∧ W.frozen? ⟨r, 1, none⟩ = false ∧ W.frozen? ⟨r, 2, none⟩ = false
theorem Box3.new (W : World) (u v z : Value) (T : TypeId) (b : Nat) (h : b = W.heap.size) : Box3 (W.alloc (.cells #[u, v, z] T)) b u v z :=
  ⟨⟨cell_box W _ _ _ 0 _ h rfl, cell_box W _ _ _ 1 _ h rfl, cell_box W _ _ _ 2 _ h rfl⟩, box_frozen W _ _ _ _ h, box_frozen W _ _ _ _ h, box_frozen W _ _ _ _ h⟩
theorem Box3.lt {W : World} {r : Nat} {u v z : Value} (h : Box3 W r u v z) : r < W.heap.size := World.block_lt_of_cell? W ⟨r, 0, none⟩ h.1.1
theorem Box3.below {W W1 : World} {C r : Nat} {u v z : Value} (h : Box3 W r u v z) (hb : Below C W W1) (hC : W.heap.size ≤ C) : Box3 W1 r u v z := by
  have hlt := h.lt
  obtain ⟨⟨h0, h1, h2⟩, f0, f1, f2⟩ := h
  exact ⟨⟨cell_keep hb h0 hC, cell_keep hb h1 hC, cell_keep hb h2 hC⟩, (hb.frozen (p := ⟨r, 0, none⟩) (by show r < C; omega)).trans f0, (hb.frozen (p := ⟨r, 1, none⟩) (by show r < C; omega)).trans f1, (hb.frozen (p := ⟨r, 2, none⟩) (by show r < C; omega)).trans f2⟩
/-- a box of two cells of the call's own -/
def Box2 (W : World) (r : Nat) (u v : Value) : Prop :=
  (W.cell? ⟨r, 0, none⟩ = some u ∧ W.cell? ⟨r, 1, none⟩ = some v) ∧ W.frozen? ⟨r, 0, none⟩ = false ∧ W.frozen? ⟨r, 1, none⟩ = false
theorem Box2.new (W : World) (u v : Value) (T : TypeId) (b : Nat) (h : b = W.heap.size) : Box2 (W.alloc (.cells #[u, v] T)) b u v :=
  ⟨⟨cell_box W _ _ _ 0 _ h rfl, cell_box W _ _ _ 1 _ h rfl⟩, box_frozen W _ _ _ _ h, box_frozen W _ _ _ _ h⟩
theorem Box2.lt {W : World} {r : Nat} {u v : Value} (h : Box2 W r u v) : r < W.heap.size := World.block_lt_of_cell? W ⟨r, 0, none⟩ h.1.1
theorem Box2.below {W W1 : World} {C r : Nat} {u v : Value} (h : Box2 W r u v) (hb : Below C W W1) (hC : W.heap.size ≤ C) : Box2 W1 r u v := by
  have hlt := h.lt
  obtain ⟨⟨h0, h1⟩, f0, f1⟩ := h
  exact ⟨⟨cell_keep hb h0 hC, cell_keep hb h1 hC⟩, (hb.frozen (p := ⟨r, 0, none⟩) (by show r < C; omega)).trans f0, (hb.frozen (p := ⟨r, 1, none⟩) (by show r < C; omega)).trans f1⟩
end Go.Proofs.YtmakcgiekfcofaaDoor
