/- The walks of the laws' helpers eqIntS (two slices of ints are compared) and toIntS (a slice of ints is copied). For every slice within the reach. The walks of the laws' helpers markIntS (writes k, k+1, .. into a slice of ints) and heldIntS (asks whether they stand there). For slices of the call's own. The walks of IntOk, intsOk, signed and of the laws' helpers on signed integers. For every slice within the reach. Words for a law's region in which the result's box is made next to the calls: two stores into one box. No condition. Boxes of three cells of the call's own. -/
import Derived.Deep.QuietTactic
import Derived.BigQuiet
import Derived.Test.YtogkonenejfgmaaGreatDoorM01
import Derived.Test.YtogkonenejfgmaaGreatDoorM02
import Derived.Test.YtogkonenejfgmaaGreatDoorM03
import Derived.Laws.IdiomStrings
namespace Go.Proofs.YtogkonenejfgmaaGreatDoor
open Go.RowKit
theorem eq_step {xs ys : List Int} {k : Nat} (h : xs.take k = ys.take k) (hx : k < xs.length) (hy : k < ys.length) (e : xs.getD k 0 = ys.getD k 0) : xs.take (k + 1) = ys.take (k + 1) := by
  rw [take_succ_getD xs k hx, take_succ_getD ys k hy, h, e]
theorem ne_at {xs ys : List Int} {k : Nat} (e : xs.getD k 0 ≠ ys.getD k 0) : decide (xs = ys) = false := by
  rw [decide_eq_false_iff_not]; intro h; rw [h] at e; exact e rfl

end Go.Proofs.YtogkonenejfgmaaGreatDoor
namespace Go.Proofs.YtogkonenejfgmaaGreatDoor
open Go.RowKit

/-- only blocks from lo to below hi were written -/
structure Wr (w w' : World) (lo hi : Nat) : Prop where
  os : w'.os = w.os
  tape : w'.tape = w.tape
  output : w'.output = w.output
  size : w.heap.size ≤ w'.heap.size
  block : ∀ k, k < w.heap.size → k < lo ∨ hi ≤ k → w'.heap[k]? = w.heap[k]?
theorem Wr.refl (w : World) (lo hi : Nat) : Wr w w lo hi := ⟨rfl, rfl, rfl, Nat.le_refl _, fun _ _ _ => rfl⟩
theorem Wr.trans {a b c : World} {lo hi : Nat} (h : Wr a b lo hi) (k : Wr b c lo hi) : Wr a c lo hi :=
  ⟨k.os.trans h.os, k.tape.trans h.tape, k.output.trans h.output, Nat.le_trans h.size k.size, fun i hi' h2 => (k.block i (Nat.lt_of_lt_of_le hi' h.size) h2).trans (h.block i hi' h2)⟩
theorem Wr.of {w w' : World} (h : Below w.heap.size w w') (lo hi : Nat) : Wr w w' lo hi := ⟨h.os, h.tape, h.output, h.size, fun k hk _ => h.block k hk⟩
theorem Wr.wide {w w' : World} {lo hi lo2 hi2 : Nat} (h : Wr w w' lo hi) (h1 : lo2 ≤ lo) (h2 : hi ≤ hi2) : Wr w w' lo2 hi2 :=
  ⟨h.os, h.tape, h.output, h.size, fun k hk hd => h.block k hk (by omega)⟩
theorem Wr.set {w w' : World} {lo hi g k : Nat} (h : Wr w w' lo hi) (hg : lo ≤ g ∧ g < hi) (v : Value) : Wr w (w'.setCell ⟨g, k, none⟩ v) lo hi :=
  ⟨h.os, h.tape, h.output, by simp [World.setCell]; exact h.size, fun j hk hj => (Below.heap_setCell _ _ _ _ (by show j ≠ g; omega)).trans (h.block j hk hj)⟩
/-- a slice of the call's own whose block lies between lo and hi (nothing is said of an empty one) -/
def Slot (w : World) (lo hi : Nat) (a : Option Addr) (cap : Nat) (xs : List Int) : Prop :=
  hi ≤ w.heap.size ∧ (xs = [] ∨ (Own w lo a cap xs ∧ ∀ p, a = some p → lo ≤ p.block ∧ p.block < hi))
theorem Slot.of {w : World} {lo : Nat} {a : Option Addr} {cap : Nat} {xs : List Int} (h : Own w lo a cap xs) : Slot w lo w.heap.size a cap xs := by
  refine ⟨Nat.le_refl _, .inr ⟨h, ?_⟩⟩
  intro p hp
  rcases h.cases with ⟨rfl, _⟩ | ⟨g, rfl, h1, h2, _⟩
  · cases hp
  · cases hp; exact ⟨h1, h2⟩
theorem Slot.rd {w : World} {lo hi : Nat} {a : Option Addr} {cap : Nat} {xs : List Int} (h : Slot w lo hi a cap xs) : Rd w a xs := by
  rcases h.2 with rfl | h
  · exact Rd.nil _ _
  · exact h.1.rd
theorem own_same {w w' : World} {lo hi : Nat} {a : Option Addr} {cap : Nat} {xs : List Int} (h : Own w lo a cap xs) (hp : ∀ p, a = some p → lo ≤ p.block ∧ p.block < hi)
    (hb : ∀ k, lo ≤ k → k < hi → w'.heap[k]? = w.heap[k]?) : Own w' lo a cap xs := by
  unfold Own at *
  refine ⟨h.1, ?_⟩
  rcases h.2 with hn | ⟨g, c, cur, hv, hg, hh, r⟩
  · exact .inl hn
  · refine .inr ⟨g, c, cur, hv, hg, ?_, r⟩
    have hv' := hv
    simp only [Value.slice.injEq] at hv'
    have h3 : lo ≤ g ∧ g < hi := hp ⟨g, 0, none⟩ hv'.1
    rw [hb g h3.1 h3.2]; exact hh
theorem Slot.below {w w' : World} {lo hi C : Nat} {a : Option Addr} {cap : Nat} {xs : List Int} (h : Slot w lo hi a cap xs) (hb : Below C w w') (hC : hi ≤ C) : Slot w' lo hi a cap xs := by
  refine ⟨Nat.le_trans h.1 hb.size, ?_⟩
  rcases h.2 with h2 | ⟨h2, h3⟩
  · exact .inl h2
  · exact .inr ⟨own_same h2 h3 (fun k _ hk => hb.block k (by omega)), h3⟩
theorem Slot.wr {w w' : World} {lo hi lo2 hi2 : Nat} {a : Option Addr} {cap : Nat} {xs : List Int} (h : Slot w lo hi a cap xs) (hw : Wr w w' lo2 hi2)
    (hd : hi ≤ lo2 ∨ hi2 ≤ lo) : Slot w' lo hi a cap xs := by
  refine ⟨Nat.le_trans h.1 hw.size, ?_⟩
  have hsz := h.1
  rcases h.2 with h2 | ⟨h2, h3⟩
  · exact .inl h2
  · exact .inr ⟨own_same h2 h3 (fun k hk1 hk2 => hw.block k (by omega) (by omega)), h3⟩
theorem below_wr {w0 w w' : World} {B lo hi : Nat} (h : Below B w0 w) (hw : Wr w w' lo hi) (hB : B ≤ lo) (hB2 : B ≤ w.heap.size) : Below B w0 w' :=
  h.trans ⟨hw.os, hw.tape, hw.output, hw.size, fun k hk => hw.block k (by omega) (by omega)⟩

theorem cell_keep {w w' : World} {C b o : Nat} {v : Value} (hb : Below C w w') (h : w.cell? ⟨b, o, none⟩ = some v) (hC : w.heap.size ≤ C) : w'.cell? ⟨b, o, none⟩ = some v := by
  have hlt : b < w.heap.size := World.block_lt_of_cell? w ⟨b, o, none⟩ h
  exact (hb.cell (p := ⟨b, o, none⟩) (by show b < C; omega)).trans h
theorem cell_keep_wr {w w' : World} {lo hi b o : Nat} {v : Value} (hw : Wr w w' lo hi) (h : w.cell? ⟨b, o, none⟩ = some v) (hd : b < lo ∨ hi ≤ b) : w'.cell? ⟨b, o, none⟩ = some v := by
  have hlt : b < w.heap.size := World.block_lt_of_cell? w ⟨b, o, none⟩ h
  exact (World.cell?_of_block (hw.block b hlt hd)).trans h
theorem cell_box (w : World) (C : Array Value) (T : TypeId) (b j : Nat) (v : Value) (hb : b = w.heap.size) (h : C[j]? = some v) : (w.alloc (.cells C T)).cell? ⟨b, j, none⟩ = some v := by
  subst hb
  exact (World.cell?_alloc_mark w C T (0, 0) j).trans h
def marks (k : Int) : Nat → List Int
  | 0 => []
  | n + 1 => marks k n ++ [k + n]
theorem marks_length (k : Int) : ∀ n, (marks k n).length = n
  | 0 => rfl
  | n + 1 => by simp [marks, marks_length k n]
theorem marks_getD (k : Int) : ∀ (n i : Nat), i < n → (marks k n).getD i 0 = k + i
  | 0, i, h => by omega
  | n + 1, i, h => by
    unfold marks
    by_cases e : i < n
    · rw [List.getD_eq_getElem?_getD, List.getElem?_append_left (by rw [marks_length]; exact e), ← List.getD_eq_getElem?_getD, marks_getD k n i e]
    · have : i = n := by omega
      subst this
      rw [List.getD_eq_getElem?_getD, List.getElem?_append_right (by rw [marks_length]; exact Nat.le_refl _), marks_length]
      simp
theorem marks_step {xs : List Int} {k : Int} {i : Nat} (h : i < xs.length) : (marks k i ++ xs.drop i).set i (k + i) = marks k (i + 1) ++ xs.drop (i + 1) := by
  rw [List.set_append_right _ _ (by rw [marks_length]; exact Nat.le_refl _), marks_length, Nat.sub_self, drop_cons_getD xs i h]
  simp [marks]

end Go.Proofs.YtogkonenejfgmaaGreatDoor
namespace Go.Proofs.YtogkonenejfgmaaGreatDoor
open Go.RowKit
theorem bcell {W w1 : World} (hb : Below W.heap.size W w1) : (∀ b o, b < W.heap.size → w1.cell? ⟨b, o, none⟩ = W.cell? ⟨b, o, none⟩) ∧ (∀ b o, b < W.heap.size → w1.frozen? ⟨b, o, none⟩ = W.frozen? ⟨b, o, none⟩) :=
  ⟨fun b o h => hb.cell (p := ⟨b, o, none⟩) h, fun b o h => hb.frozen (p := ⟨b, o, none⟩) h⟩
def intB (neg : Bool) (xs : List Int) : Bool := natB xs && (!neg || decide (0 < xs.length))
theorem In.alloc {w : World} {a : Option Addr} {c : Nat} {xs : List Int} (h : In w a c xs) (o : Obj) : In (w.alloc o) a c xs := h.below ((Below.refl _ _).alloc (Nat.le_refl _) o) (Nat.le_refl _)
theorem bel_alloc (w : World) (o : Obj) : Below w.heap.size w (w.alloc o) := (Below.refl _ _).alloc (Nat.le_refl _) o

theorem spec_IntOk (neg : Bool) (a : Option Addr) (c : Nat) (xs : List Int) (w : World) (hx : In w a c xs) :
    Calls Tryz.prog 58 #[.agg #[.bool neg, .slice a xs.length c]] w fun e w' => e = .returned (.bool (intB neg xs)) ∧ Below w.heap.size w w' := by
  have hl := hx.2.2
  cases h1 : natB xs
  · have H := Lib.hid (show intB neg xs = false by unfold intB; rw [h1]; rfl)
    go_enter Tryz.func58, Tryz.ntmps58
    go_wp2_with fail
    refine (spec_NatOk _ _ _ _ (hx.alloc _).1 hx.maxLen).mono ?_
    rintro e w' ⟨rfl, rfl⟩
    go_wp2
    go_ret
    exact ⟨ret_bool H.out.symm, bel_alloc _ _⟩
  · have H := Lib.hid (show intB neg xs = (!neg || decide (0 < xs.length)) by unfold intB; rw [h1]; rfl)
    cases neg
    all_goals
      go_enter Tryz.func58, Tryz.ntmps58
      go_wp2_with fail
      refine (spec_NatOk _ _ _ _ (hx.alloc _).1 hx.maxLen).mono ?_
      rintro e w' ⟨rfl, rfl⟩
      go_wp2
      go_ret
      exact ⟨ret_bool (by rw [H.out]; simp), bel_alloc _ _⟩
theorem impl_IntOk (neg : Bool) (a : Option Addr) (c : Nat) (xs : List Int) (w : World) (hx : In w a c xs) :
    Calls Tryz.prog 50 #[.agg #[.bool neg, .slice a xs.length c]] w fun e w' => e = .returned (.bool (intB neg xs)) ∧ Below w.heap.size w w' := by
  have hl := hx.2.2
  cases h1 : natB xs
  · have H := Lib.hid (show intB neg xs = false by unfold intB; rw [h1]; rfl)
    go_enter Tryz.func50, Tryz.ntmps50
    go_wp2_with fail
    refine (impl_NatOk _ _ _ _ (hx.alloc _).1 hx.maxLen).mono ?_
    rintro e w' ⟨rfl, rfl⟩
    go_wp2
    go_ret
    exact ⟨ret_bool H.out.symm, bel_alloc _ _⟩
  · have H := Lib.hid (show intB neg xs = (!neg || decide (0 < xs.length)) by unfold intB; rw [h1]; rfl)
    cases neg
    all_goals
      go_enter Tryz.func50, Tryz.ntmps50
      go_wp2_with fail
      refine (impl_NatOk _ _ _ _ (hx.alloc _).1 hx.maxLen).mono ?_
      rintro e w' ⟨rfl, rfl⟩
      go_wp2
      go_ret
      exact ⟨ret_bool (by rw [H.out]; simp), bel_alloc _ _⟩
/-- a store below the block of what is owned -/
theorem own_set {w : World} {B B0 : Nat} {a : Option Addr} {cap : Nat} {xs : List Int} (h : Own w B0 a cap xs) {p : Addr} (hp : p.block < B0) (u : Value) (hB : B ≤ B0) : Own (w.setCell p u) B a cap xs :=
  Own.mono (show Own (w.setCell p u) B0 a cap xs from ownsRow_setCell_below h hp u) hB
end Go.Proofs.YtogkonenejfgmaaGreatDoor
namespace Go.Proofs.YtogkonenejfgmaaGreatDoor
open Go.RowKit
theorem box_frozen (W : World) (C : Array Value) (T : TypeId) (b o : Nat) (h : b = W.heap.size) : (W.alloc (.cells C T)).frozen? ⟨b, o, none⟩ = false := by subst h; simp
theorem addr_ne {a b c d : Nat} (h : ¬ (a = c ∧ b = d)) : (⟨a, b, none⟩ : Addr) ≠ ⟨c, d, none⟩ := by intro e; simp only [Addr.mk.injEq] at e; exact h ⟨e.1, e.2.1⟩
theorem far2 {W : World} {r p o : Nat} {u v z : Value} (h : r ≠ p) (hc : W.cell? ⟨p, o, none⟩ = some z) : ((W.setCell ⟨r, 0, none⟩ u).setCell ⟨r, 1, none⟩ v).cell? ⟨p, o, none⟩ = some z := by
  rw [World.cell?_setCell_other _ _ _ _ (addr_ne (by omega)), World.cell?_setCell_other _ _ _ _ (addr_ne (by omega))]
  exact hc
theorem set2_cell0 {W : World} {r : Nat} {u v u' : Value} (h0 : W.cell? ⟨r, 0, none⟩ = some u') : ((W.setCell ⟨r, 0, none⟩ u).setCell ⟨r, 1, none⟩ v).cell? ⟨r, 0, none⟩ = some u := by
  rw [World.cell?_setCell_other _ _ _ _ (addr_ne (by omega))]
  exact World.cell?_setCell_same _ _ _ h0
theorem set2_cell1 {W : World} {r : Nat} {u v v' : Value} (h1 : W.cell? ⟨r, 1, none⟩ = some v') : ((W.setCell ⟨r, 0, none⟩ u).setCell ⟨r, 1, none⟩ v).cell? ⟨r, 1, none⟩ = some v :=
  World.cell?_setCell_same _ _ _ ((World.cell?_setCell_other _ _ _ _ (addr_ne (by omega))).trans h1)
theorem set2_own {W : World} {B B0 r c : Nat} {a : Option Addr} {xs : List Int} {u v : Value} (h : Own W B0 a c xs) (hr : r < B0) (hB : B ≤ B0) : Own ((W.setCell ⟨r, 0, none⟩ u).setCell ⟨r, 1, none⟩ v) B a c xs :=
  own_set (B0 := B0) (own_set (B := B0) (B0 := B0) h hr _ (Nat.le_refl _)) hr _ hB
theorem set2_below {w0 W : World} {B r : Nat} {u v : Value} (h : Below B w0 W) (hr : B ≤ r) : Below B w0 ((W.setCell ⟨r, 0, none⟩ u).setCell ⟨r, 1, none⟩ v) :=
  (h.setCell (p := ⟨r, 0, none⟩) hr _).setCell (p := ⟨r, 1, none⟩) hr _
end Go.Proofs.YtogkonenejfgmaaGreatDoor
namespace Go.Proofs.YtogkonenejfgmaaGreatDoor
open Go.RowKit
/-- a box of three cells of the call's own -/
def Box3 (W : World) (r : Nat) (u v z : Value) : Prop :=
  (W.cell? ⟨r, 0, none⟩ = some u ∧ W.cell? ⟨r, 1, none⟩ = some v ∧ W.cell? ⟨r, 2, none⟩ = some z) ∧ W.frozen? ⟨r, 0, none⟩ = false ∧ W.frozen? ⟨r, 1, none⟩ = false ∧ W.frozen? ⟨r, 2, none⟩ = false
theorem Box3.new (W : World) (u v z : Value) (T : TypeId) (b : Nat) (h : b = W.heap.size) : Box3 (W.alloc (.cells #[u, v, z] T)) b u v z :=
  ⟨⟨cell_box W _ _ _ 0 _ h rfl, cell_box W _ _ _ 1 _ h rfl, cell_box W _ _ _ 2 _ h rfl⟩, box_frozen W _ _ _ _ h, box_frozen W _ _ _ _ h, box_frozen W _ _ _ _ h⟩
theorem Box3.lt {W : World} {r : Nat} {u v z : Value} (h : Box3 W r u v z) : r < W.heap.size := World.block_lt_of_cell? W ⟨r, 0, none⟩ h.1.1
theorem Box3.below {W W1 : World} {C r : Nat} {u v z : Value} (h : Box3 W r u v z) (hb : Below C W W1) (hC : W.heap.size ≤ C) : Box3 W1 r u v z := by
  have hlt := h.lt
  obtain ⟨⟨h0, h1, h2⟩, f0, f1, f2⟩ := h
  exact ⟨⟨cell_keep hb h0 hC, cell_keep hb h1 hC, cell_keep hb h2 hC⟩, (hb.frozen (p := ⟨r, 0, none⟩) (by show r < C; omega)).trans f0, (hb.frozen (p := ⟨r, 1, none⟩) (by show r < C; omega)).trans f1, (hb.frozen (p := ⟨r, 2, none⟩) (by show r < C; omega)).trans f2⟩
/-- a box of two cells of the call's own -/
def Box2 (W : World) (r : Nat) (u v : Value) : Prop :=
  (W.cell? ⟨r, 0, none⟩ = some u ∧ W.cell? ⟨r, 1, none⟩ = some v) ∧ W.frozen? ⟨r, 0, none⟩ = false ∧ W.frozen? ⟨r, 1, none⟩ = false
theorem Box2.new (W : World) (u v : Value) (T : TypeId) (b : Nat) (h : b = W.heap.size) : Box2 (W.alloc (.cells #[u, v] T)) b u v :=
  ⟨⟨cell_box W _ _ _ 0 _ h rfl, cell_box W _ _ _ 1 _ h rfl⟩, box_frozen W _ _ _ _ h, box_frozen W _ _ _ _ h⟩
theorem Box2.lt {W : World} {r : Nat} {u v : Value} (h : Box2 W r u v) : r < W.heap.size := World.block_lt_of_cell? W ⟨r, 0, none⟩ h.1.1
theorem Box2.below {W W1 : World} {C r : Nat} {u v : Value} (h : Box2 W r u v) (hb : Below C W W1) (hC : W.heap.size ≤ C) : Box2 W1 r u v := by
  have hlt := h.lt
  obtain ⟨⟨h0, h1⟩, f0, f1⟩ := h
  exact ⟨⟨cell_keep hb h0 hC, cell_keep hb h1 hC⟩, (hb.frozen (p := ⟨r, 0, none⟩) (by show r < C; omega)).trans f0, (hb.frozen (p := ⟨r, 1, none⟩) (by show r < C; omega)).trans f1⟩
end Go.Proofs.YtogkonenejfgmaaGreatDoor
