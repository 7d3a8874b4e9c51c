/- The walks of fitInt and intAdd (program). Printed by gen_if.py. -/
import Derived.Test.YtogkonenejfgmaaGreatDoorM11
namespace Go.Proofs.YtogkonenejfgmaaGreatDoor
open Go.RowKit
theorem swap4 {W : World} {p q : Nat} {u v x y u' v' x' y' : Value} (hpq : p ≠ q) (h0 : W.cell? ⟨p, 0, none⟩ = some u') (h1 : W.cell? ⟨p, 1, none⟩ = some v') (h2 : W.cell? ⟨q, 0, none⟩ = some x') (h3 : W.cell? ⟨q, 1, none⟩ = some y') :
    ((((W.setCell ⟨p, 0, none⟩ u).setCell ⟨p, 1, none⟩ v).setCell ⟨q, 0, none⟩ x).setCell ⟨q, 1, none⟩ y).cell? ⟨p, 0, none⟩ = some u ∧
    ((((W.setCell ⟨p, 0, none⟩ u).setCell ⟨p, 1, none⟩ v).setCell ⟨q, 0, none⟩ x).setCell ⟨q, 1, none⟩ y).cell? ⟨p, 1, none⟩ = some v ∧
    ((((W.setCell ⟨p, 0, none⟩ u).setCell ⟨p, 1, none⟩ v).setCell ⟨q, 0, none⟩ x).setCell ⟨q, 1, none⟩ y).cell? ⟨q, 0, none⟩ = some x ∧
    ((((W.setCell ⟨p, 0, none⟩ u).setCell ⟨p, 1, none⟩ v).setCell ⟨q, 0, none⟩ x).setCell ⟨q, 1, none⟩ y).cell? ⟨q, 1, none⟩ = some y := by
  have ne : ∀ {a b c d : Nat}, ¬ (a = c ∧ b = d) → (⟨a, b, none⟩ : Addr) ≠ ⟨c, d, none⟩ := by intro a b c d h e; simp only [Addr.mk.injEq] at e; exact h ⟨e.1, e.2.1⟩
  refine ⟨?_, ?_, ?_, ?_⟩
  · rw [World.cell?_setCell_other _ _ _ _ (ne (by omega)), World.cell?_setCell_other _ _ _ _ (ne (by omega)), World.cell?_setCell_other _ _ _ _ (ne (by omega))]
    exact World.cell?_setCell_same _ _ _ h0
  · rw [World.cell?_setCell_other _ _ _ _ (ne (by omega)), World.cell?_setCell_other _ _ _ _ (ne (by omega))]
    exact World.cell?_setCell_same _ _ _ ((World.cell?_setCell_other _ _ _ _ (ne (by omega))).trans h1)
  · rw [World.cell?_setCell_other _ _ _ _ (ne (by omega))]
    exact World.cell?_setCell_same _ _ _ ((World.cell?_setCell_other _ _ _ _ (ne (by omega))).trans ((World.cell?_setCell_other _ _ _ _ (ne (by omega))).trans h2))
  · exact World.cell?_setCell_same _ _ _ ((World.cell?_setCell_other _ _ _ _ (ne (by omega))).trans ((World.cell?_setCell_other _ _ _ _ (ne (by omega))).trans ((World.cell?_setCell_other _ _ _ _ (ne (by omega))).trans h3)))
theorem far4 {W : World} {p q r o : Nat} {u v x y z : Value} (hp : p ≠ r) (hq : q ≠ r) (h : W.cell? ⟨r, o, none⟩ = some z) :
    ((((W.setCell ⟨p, 0, none⟩ u).setCell ⟨p, 1, none⟩ v).setCell ⟨q, 0, none⟩ x).setCell ⟨q, 1, none⟩ y).cell? ⟨r, o, none⟩ = some z := by
  have ne : ∀ {a b c d : Nat}, a ≠ c → (⟨a, b, none⟩ : Addr) ≠ ⟨c, d, none⟩ := by intro a b c d h e; simp only [Addr.mk.injEq] at e; exact h e.1
  rw [World.cell?_setCell_other _ _ _ _ (ne hq), World.cell?_setCell_other _ _ _ _ (ne hq), World.cell?_setCell_other _ _ _ _ (ne hp), World.cell?_setCell_other _ _ _ _ (ne hp)]
  exact h
theorem box3 (w : World) (u v x y p q : Value) (T : TypeId) :
    (World.alloc (World.alloc (World.alloc w (.cells #[u, v] T)) (.cells #[x, y] T)) (.cells #[p, q] T)).cell? ⟨w.heap.size, 0, none⟩ = some u ∧
    (World.alloc (World.alloc (World.alloc w (.cells #[u, v] T)) (.cells #[x, y] T)) (.cells #[p, q] T)).cell? ⟨w.heap.size, 1, none⟩ = some v ∧
    (World.alloc (World.alloc (World.alloc w (.cells #[u, v] T)) (.cells #[x, y] T)) (.cells #[p, q] T)).cell? ⟨w.heap.size + 1, 0, none⟩ = some x ∧
    (World.alloc (World.alloc (World.alloc w (.cells #[u, v] T)) (.cells #[x, y] T)) (.cells #[p, q] T)).cell? ⟨w.heap.size + 1, 1, none⟩ = some y ∧
    (World.alloc (World.alloc (World.alloc w (.cells #[u, v] T)) (.cells #[x, y] T)) (.cells #[p, q] T)).cell? ⟨w.heap.size + 1 + 1, 0, none⟩ = some p ∧
    (World.alloc (World.alloc (World.alloc w (.cells #[u, v] T)) (.cells #[x, y] T)) (.cells #[p, q] T)).cell? ⟨w.heap.size + 1 + 1, 1, none⟩ = some q := by
  have k := fun (W : World) (o : Obj) (b j : Nat) (z : Value) (h : W.cell? ⟨b, j, none⟩ = some z) => cell_keep (bel_alloc W o) h (Nat.le_refl _)
  refine ⟨k _ _ _ _ _ (k _ _ _ _ _ (cell_box w _ _ _ 0 _ rfl rfl)), k _ _ _ _ _ (k _ _ _ _ _ (cell_box w _ _ _ 1 _ rfl rfl)), k _ _ _ _ _ (cell_box _ _ _ _ 0 _ (by simp) rfl), k _ _ _ _ _ (cell_box _ _ _ _ 1 _ (by simp) rfl), cell_box _ _ _ _ 0 _ (by simp) rfl, cell_box _ _ _ _ 1 _ (by simp) rfl⟩
theorem box2 (w : World) (u v x y : Value) (T : TypeId) :
    (World.alloc (World.alloc w (.cells #[u, v] T)) (.cells #[x, y] T)).cell? ⟨w.heap.size, 0, none⟩ = some u ∧
    (World.alloc (World.alloc w (.cells #[u, v] T)) (.cells #[x, y] T)).cell? ⟨w.heap.size, 1, none⟩ = some v ∧
    (World.alloc (World.alloc w (.cells #[u, v] T)) (.cells #[x, y] T)).cell? ⟨w.heap.size + 1, 0, none⟩ = some x ∧
    (World.alloc (World.alloc w (.cells #[u, v] T)) (.cells #[x, y] T)).cell? ⟨w.heap.size + 1, 1, none⟩ = some y := by
  have k := fun (W : World) (o : Obj) (b j : Nat) (z : Value) (h : W.cell? ⟨b, j, none⟩ = some z) => cell_keep (bel_alloc W o) h (Nat.le_refl _)
  refine ⟨k _ _ _ _ _ (cell_box w _ _ _ 0 _ rfl rfl), k _ _ _ _ _ (cell_box w _ _ _ 1 _ rfl rfl), cell_box _ _ _ _ 0 _ (by simp) rfl, cell_box _ _ _ _ 1 _ (by simp) rfl⟩
set_option linter.unusedSimpArgs false in
set_option maxHeartbeats 3200000 in
theorem intAdd_same (b1 : Bool) (a b : Option Addr) (ca cb m n : Nat) (w : World) (hx : In w a ca (limbs m)) (hy : In w b cb (limbs n)) (lm : (limbs m).length ≤ 1000) (ln : (limbs n).length ≤ 1000) :
    Calls Tryz.prog 19 #[.agg #[.bool b1, .slice a (limbs m).length ca], .agg #[.bool b1, .slice b (limbs n).length cb]] w fun e w' => (∃ a' c', e = .returned (.agg #[.bool (sg (zOf b1 m + zOf b1 n)).1, .slice a' (sg (zOf b1 m + zOf b1 n)).2.length c']) ∧ Own w' w.heap.size a' c' (sg (zOf b1 m + zOf b1 n)).2) ∧ Below w.heap.size w w' := by
  have hLa := len_add m n
  have hLb := len_sub m n
  have hLc := len_sub n m
  have hA := ((bel_alloc w (.cells #[.bool b1, .slice a (limbs m).length ca] 25)).trans ((bel_alloc _ (.cells #[.bool b1, .slice b (limbs n).length cb] 25)).mono (by simp))).trans ((bel_alloc _ (.cells #[.bool false, .slice none 0 0] 25)).mono (by simp; omega))
  have B3 := box3 w (.bool b1) (.slice a (limbs m).length ca) (.bool b1) (.slice b (limbs n).length cb) (.bool false) (.slice none 0 0) 25
  have F3 : (World.alloc (World.alloc (World.alloc w (.cells #[.bool b1, .slice a (limbs m).length ca] 25)) (.cells #[.bool b1, .slice b (limbs n).length cb] 25)) (.cells #[.bool false, .slice none 0 0] 25)).frozen? ⟨w.heap.size + 1 + 1, 0, none⟩ = false ∧ (World.alloc (World.alloc (World.alloc w (.cells #[.bool b1, .slice a (limbs m).length ca] 25)) (.cells #[.bool b1, .slice b (limbs n).length cb] 25)) (.cells #[.bool false, .slice none 0 0] 25)).frozen? ⟨w.heap.size + 1 + 1, 1, none⟩ = false := (box_last _ _ _ _ _ (by simp only [World.size_alloc])).2.2
  have hz3 : w.heap.size + 3 ≤ (World.alloc (World.alloc (World.alloc w (.cells #[.bool b1, .slice a (limbs m).length ca] 25)) (.cells #[.bool b1, .slice b (limbs n).length cb] 25)) (.cells #[.bool false, .slice none 0 0] 25)).heap.size := by simp only [World.size_alloc]; omega
  go_enter Tryz.func19, Tryz.ntmps19
  go_wp2_with fail
  have K0 : (World.alloc (World.alloc (World.alloc w (.cells #[.bool b1, .slice a (limbs m).length ca] 25)) (.cells #[.bool b1, .slice b (limbs n).length cb] 25)) (.cells #[.bool false, .slice none 0 0] 25)).cell? ⟨w.heap.size, 0, none⟩ = some (.bool b1) ∧ (World.alloc (World.alloc (World.alloc w (.cells #[.bool b1, .slice a (limbs m).length ca] 25)) (.cells #[.bool b1, .slice b (limbs n).length cb] 25)) (.cells #[.bool false, .slice none 0 0] 25)).cell? ⟨w.heap.size, 1, none⟩ = some (.slice a (limbs m).length ca) ∧ (World.alloc (World.alloc (World.alloc w (.cells #[.bool b1, .slice a (limbs m).length ca] 25)) (.cells #[.bool b1, .slice b (limbs n).length cb] 25)) (.cells #[.bool false, .slice none 0 0] 25)).cell? ⟨w.heap.size + 1, 0, none⟩ = some (.bool b1) ∧ (World.alloc (World.alloc (World.alloc w (.cells #[.bool b1, .slice a (limbs m).length ca] 25)) (.cells #[.bool b1, .slice b (limbs n).length cb] 25)) (.cells #[.bool false, .slice none 0 0] 25)).cell? ⟨w.heap.size + 1, 1, none⟩ = some (.slice b (limbs n).length cb) := ⟨B3.1, B3.2.1, B3.2.2.1, B3.2.2.2.1⟩
  have R0 : (World.alloc (World.alloc (World.alloc w (.cells #[.bool b1, .slice a (limbs m).length ca] 25)) (.cells #[.bool b1, .slice b (limbs n).length cb] 25)) (.cells #[.bool false, .slice none 0 0] 25)).cell? ⟨w.heap.size + 1 + 1, 0, none⟩ = some (.bool false) ∧ (World.alloc (World.alloc (World.alloc w (.cells #[.bool b1, .slice a (limbs m).length ca] 25)) (.cells #[.bool b1, .slice b (limbs n).length cb] 25)) (.cells #[.bool false, .slice none 0 0] 25)).cell? ⟨w.heap.size + 1 + 1, 1, none⟩ = some (.slice none 0 0) ∧ (World.alloc (World.alloc (World.alloc w (.cells #[.bool b1, .slice a (limbs m).length ca] 25)) (.cells #[.bool b1, .slice b (limbs n).length cb] 25)) (.cells #[.bool false, .slice none 0 0] 25)).frozen? ⟨w.heap.size + 1 + 1, 0, none⟩ = false ∧ (World.alloc (World.alloc (World.alloc w (.cells #[.bool b1, .slice a (limbs m).length ca] 25)) (.cells #[.bool b1, .slice b (limbs n).length cb] 25)) (.cells #[.bool false, .slice none 0 0] 25)).frozen? ⟨w.heap.size + 1 + 1, 1, none⟩ = false := ⟨B3.2.2.2.2.1, B3.2.2.2.2.2, F3⟩
  have hB : Below w.heap.size w (World.alloc (World.alloc (World.alloc w (.cells #[.bool b1, .slice a (limbs m).length ca] 25)) (.cells #[.bool b1, .slice b (limbs n).length cb] 25)) (.cells #[.bool false, .slice none 0 0] 25)) := hA
  replace hz3 : w.heap.size + 3 ≤ (World.alloc (World.alloc (World.alloc w (.cells #[.bool b1, .slice a (limbs m).length ca] 25)) (.cells #[.bool b1, .slice b (limbs n).length cb] 25)) (.cells #[.bool false, .slice none 0 0] 25)).heap.size := hz3
  obtain ⟨W5, hW5⟩ : ∃ x : World, x = (World.alloc (World.alloc (World.alloc w (.cells #[.bool b1, .slice a (limbs m).length ca] 25)) (.cells #[.bool b1, .slice b (limbs n).length cb] 25)) (.cells #[.bool false, .slice none 0 0] 25)) := ⟨_, rfl⟩
  rw [← hW5] at K0 R0 hB hz3 ⊢
  clear hW5
  replace K0 := Lib.hid K0
  replace R0 := Lib.hid R0
  have hxq := Lib.hid (hx.below hB.drew (Nat.le_refl _))
  have hyq := Lib.hid (hy.below hB.drew (Nat.le_refl _))
  have hL : (limbs (m + n)).length ≤ 1099511627776 := by omega
  have Z1 : sg (zOf b1 m + zOf b1 n) = (b1 && decide (0 < (limbs (m + n)).length), (limbs (m + n))) := by rw [show zOf b1 m + zOf b1 n = zOf b1 (m + n) from zOf_add _ _ _, sg_zOf]
  clear B3 F3
  go_region_held3 (fun w' => w'.cell? ⟨w.heap.size, 0, none⟩ = some (.bool b1) ∧ w'.cell? ⟨w.heap.size, 1, none⟩ = some (.slice a (limbs m).length ca) ∧ w'.cell? ⟨w.heap.size + 1, 0, none⟩ = some (.bool b1) ∧ w'.cell? ⟨w.heap.size + 1, 1, none⟩ = some (.slice b (limbs n).length cb))
    (first | (exact ⟨(keepS (by omega) k2_0).1, (keepS (by omega) k2_0).2, (keepS (by omega) k2_1).1, (keepS (by omega) k2_1).2⟩) | (exact ⟨k2_0.1, k2_0.2, k2_1.1, k2_1.2⟩) | (exact ⟨k1_0.1, k1_0.2, k1_1.1, k1_1.2⟩) | (exact K0.out) | go_keep)
    (first | (go_at_call 42; refine (natAdd_any _ _ _ _ _ _ _ hxq.out.1 hyq.out.1 hxq.out.2.2 hyq.out.2.2).mono ?_; rintro e q1 ⟨⟨a1, c1, rfl, ho1⟩, hq1⟩; have hs1 := hq1.size; have k1_0 := keep2 (b := w.heap.size) (u := .bool b1) (v := .slice a (limbs m).length ca) hq1 (show _ < (W5).heap.size by omega) K0.out.1 K0.out.2.1; have k1_1 := keep2 (b := w.heap.size + 1) (u := .bool b1) (v := .slice b (limbs n).length cb) hq1 (show _ < (W5).heap.size by omega) K0.out.2.2.1 K0.out.2.2.2; have hs1' : (W5).heap.size ≤ q1.heap.size := hs1; have r1 := keep2 (b := w.heap.size + 1 + 1) (u := .bool false) (v := .slice none 0 0) hq1 (show _ < (W5).heap.size by omega) R0.out.1 R0.out.2.1; have f1 := keepf (b := w.heap.size + 1 + 1) hq1 (show _ < (W5).heap.size by omega) R0.out.2.2.1 R0.out.2.2.2) | (go_at_call 31; refine (signed_any _ _ _ _ _ hL).mono ?_; rintro e q2 ⟨rfl, hq2⟩; have hs2 := hq2.size; have k2_0 := keep2 hq2 (by omega) k1_0.1 k1_0.2; have k2_1 := keep2 hq2 (by omega) k1_1.1 k1_1.2; have r2 := keep2 hq2 (by omega) r1.1 r1.2; have f2 := keepf hq2 (by omega) f1.1 f1.2; obtain ⟨ra, rb⟩ := r2; obtain ⟨fa, fb⟩ := f2))
  go_wp2
  replace hB := (hB.drew.trans (hq1.mono (show w.heap.size ≤ W5.heap.size by omega))).trans (hq2.mono (by omega))
  refine bodyPost_ret (v := .agg #[.bool (b1 && decide (0 < (limbs (m + n)).length)), .slice a1 (limbs (m + n)).length c1]) (by simp [results, Tryz.results19, go_sem, ra, rb]) rfl ⟨⟨a1, c1, ?_, ?_⟩, ?_⟩
  · rw [Z1]
  · rw [Z1]
    exact own_set (B0 := w.heap.size + 3) (own_set (B := w.heap.size + 3) (B0 := w.heap.size + 3) ((ho1.mono (show w.heap.size + 3 ≤ W5.heap.size by omega)).below hq2 (Nat.le_refl _)) (by dsimp only; omega) _ (Nat.le_refl _)) (by dsimp only; omega) _ (by omega)
  · exact (hB.setCell (by dsimp only; omega) _).setCell (by dsimp only; omega) _
set_option linter.unusedSimpArgs false in
set_option maxHeartbeats 3200000 in
theorem intAdd_lt (b1 b2 : Bool) (a b : Option Addr) (ca cb m n : Nat) (w : World) (hx : In w a ca (limbs m)) (hy : In w b cb (limbs n)) (_lm : (limbs m).length ≤ 1000) (ln : (limbs n).length ≤ 1000) (hbb : (b1 == b2) = false) (h : m < n) :
    Calls Tryz.prog 19 #[.agg #[.bool b1, .slice a (limbs m).length ca], .agg #[.bool b2, .slice b (limbs n).length cb]] w fun e w' => (∃ a' c', e = .returned (.agg #[.bool (sg (zOf b1 m + zOf b2 n)).1, .slice a' (sg (zOf b1 m + zOf b2 n)).2.length c']) ∧ Own w' w.heap.size a' c' (sg (zOf b1 m + zOf b2 n)).2) ∧ Below w.heap.size w w' := by
  have hLa := len_add m n
  have hLb := len_sub m n
  have hLc := len_sub n m
  have hA := ((bel_alloc w (.cells #[.bool b1, .slice a (limbs m).length ca] 25)).trans ((bel_alloc _ (.cells #[.bool b2, .slice b (limbs n).length cb] 25)).mono (by simp))).trans ((bel_alloc _ (.cells #[.bool false, .slice none 0 0] 25)).mono (by simp; omega))
  have B3 := box3 w (.bool b1) (.slice a (limbs m).length ca) (.bool b2) (.slice b (limbs n).length cb) (.bool false) (.slice none 0 0) 25
  have F3 : (World.alloc (World.alloc (World.alloc w (.cells #[.bool b1, .slice a (limbs m).length ca] 25)) (.cells #[.bool b2, .slice b (limbs n).length cb] 25)) (.cells #[.bool false, .slice none 0 0] 25)).frozen? ⟨w.heap.size + 1 + 1, 0, none⟩ = false ∧ (World.alloc (World.alloc (World.alloc w (.cells #[.bool b1, .slice a (limbs m).length ca] 25)) (.cells #[.bool b2, .slice b (limbs n).length cb] 25)) (.cells #[.bool false, .slice none 0 0] 25)).frozen? ⟨w.heap.size + 1 + 1, 1, none⟩ = false := (box_last _ _ _ _ _ (by simp only [World.size_alloc])).2.2
  have hz3 : w.heap.size + 3 ≤ (World.alloc (World.alloc (World.alloc w (.cells #[.bool b1, .slice a (limbs m).length ca] 25)) (.cells #[.bool b2, .slice b (limbs n).length cb] 25)) (.cells #[.bool false, .slice none 0 0] 25)).heap.size := by simp only [World.size_alloc]; omega
  go_enter Tryz.func19, Tryz.ntmps19
  go_wp2_with fail
  refine (natCmp_any _ _ _ _ _ _ _ (hx.1.below hA (Nat.le_refl _)) (hy.1.below hA (Nat.le_refl _)) hx.2.2 hy.2.2).mono ?_
  rintro e wc ⟨rfl, q, rfl⟩
  have hbq := bel_drewN hA q
  rw [cmpN_lt h]
  have hb4 := (((hbq.setCell (p := ⟨w.heap.size, 0, none⟩) (by dsimp only; omega) (.bool b2)).setCell (p := ⟨w.heap.size, 1, none⟩) (by dsimp only; omega) (.slice b (limbs n).length cb)).setCell (p := ⟨w.heap.size + 1, 0, none⟩) (by dsimp only; omega) (.bool b1)).setCell (p := ⟨w.heap.size + 1, 1, none⟩) (by dsimp only; omega) (.slice a (limbs m).length ca)
  have S4 := swap4 (W := World.drewN (World.alloc (World.alloc (World.alloc w (.cells #[.bool b1, .slice a (limbs m).length ca] 25)) (.cells #[.bool b2, .slice b (limbs n).length cb] 25)) (.cells #[.bool false, .slice none 0 0] 25)) q) (p := w.heap.size) (q := w.heap.size + 1) (u := .bool b2) (v := .slice b (limbs n).length cb) (x := .bool b1) (y := .slice a (limbs m).length ca) (by omega) B3.1 B3.2.1 B3.2.2.1 B3.2.2.2.1
  have T0 := far4 (W := World.drewN (World.alloc (World.alloc (World.alloc w (.cells #[.bool b1, .slice a (limbs m).length ca] 25)) (.cells #[.bool b2, .slice b (limbs n).length cb] 25)) (.cells #[.bool false, .slice none 0 0] 25)) q) (p := w.heap.size) (q := w.heap.size + 1) (r := w.heap.size + 1 + 1) (u := .bool b2) (v := .slice b (limbs n).length cb) (x := .bool b1) (y := .slice a (limbs m).length ca) (by omega) (by omega) B3.2.2.2.2.1
  have T1 := far4 (W := World.drewN (World.alloc (World.alloc (World.alloc w (.cells #[.bool b1, .slice a (limbs m).length ca] 25)) (.cells #[.bool b2, .slice b (limbs n).length cb] 25)) (.cells #[.bool false, .slice none 0 0] 25)) q) (p := w.heap.size) (q := w.heap.size + 1) (r := w.heap.size + 1 + 1) (u := .bool b2) (v := .slice b (limbs n).length cb) (x := .bool b1) (y := .slice a (limbs m).length ca) (by omega) (by omega) B3.2.2.2.2.2
  replace hz3 : w.heap.size + 3 ≤ (World.setCell (World.setCell (World.setCell (World.setCell (World.drewN (World.alloc (World.alloc (World.alloc w (.cells #[.bool b1, .slice a (limbs m).length ca] 25)) (.cells #[.bool b2, .slice b (limbs n).length cb] 25)) (.cells #[.bool false, .slice none 0 0] 25)) q) ⟨w.heap.size, 0, none⟩ (.bool b2)) ⟨w.heap.size, 1, none⟩ (.slice b (limbs n).length cb)) ⟨w.heap.size + 1, 0, none⟩ (.bool b1)) ⟨w.heap.size + 1, 1, none⟩ (.slice a (limbs m).length ca)).heap.size := by simp only [World.size_setCell]; exact hz3
  go_wp2_with fail
  have K0 : (World.setCell (World.setCell (World.setCell (World.setCell (World.drewN (World.alloc (World.alloc (World.alloc w (.cells #[.bool b1, .slice a (limbs m).length ca] 25)) (.cells #[.bool b2, .slice b (limbs n).length cb] 25)) (.cells #[.bool false, .slice none 0 0] 25)) q) ⟨w.heap.size, 0, none⟩ (.bool b2)) ⟨w.heap.size, 1, none⟩ (.slice b (limbs n).length cb)) ⟨w.heap.size + 1, 0, none⟩ (.bool b1)) ⟨w.heap.size + 1, 1, none⟩ (.slice a (limbs m).length ca)).cell? ⟨w.heap.size, 0, none⟩ = some (.bool b2) ∧ (World.setCell (World.setCell (World.setCell (World.setCell (World.drewN (World.alloc (World.alloc (World.alloc w (.cells #[.bool b1, .slice a (limbs m).length ca] 25)) (.cells #[.bool b2, .slice b (limbs n).length cb] 25)) (.cells #[.bool false, .slice none 0 0] 25)) q) ⟨w.heap.size, 0, none⟩ (.bool b2)) ⟨w.heap.size, 1, none⟩ (.slice b (limbs n).length cb)) ⟨w.heap.size + 1, 0, none⟩ (.bool b1)) ⟨w.heap.size + 1, 1, none⟩ (.slice a (limbs m).length ca)).cell? ⟨w.heap.size, 1, none⟩ = some (.slice b (limbs n).length cb) ∧ (World.setCell (World.setCell (World.setCell (World.setCell (World.drewN (World.alloc (World.alloc (World.alloc w (.cells #[.bool b1, .slice a (limbs m).length ca] 25)) (.cells #[.bool b2, .slice b (limbs n).length cb] 25)) (.cells #[.bool false, .slice none 0 0] 25)) q) ⟨w.heap.size, 0, none⟩ (.bool b2)) ⟨w.heap.size, 1, none⟩ (.slice b (limbs n).length cb)) ⟨w.heap.size + 1, 0, none⟩ (.bool b1)) ⟨w.heap.size + 1, 1, none⟩ (.slice a (limbs m).length ca)).cell? ⟨w.heap.size + 1, 0, none⟩ = some (.bool b1) ∧ (World.setCell (World.setCell (World.setCell (World.setCell (World.drewN (World.alloc (World.alloc (World.alloc w (.cells #[.bool b1, .slice a (limbs m).length ca] 25)) (.cells #[.bool b2, .slice b (limbs n).length cb] 25)) (.cells #[.bool false, .slice none 0 0] 25)) q) ⟨w.heap.size, 0, none⟩ (.bool b2)) ⟨w.heap.size, 1, none⟩ (.slice b (limbs n).length cb)) ⟨w.heap.size + 1, 0, none⟩ (.bool b1)) ⟨w.heap.size + 1, 1, none⟩ (.slice a (limbs m).length ca)).cell? ⟨w.heap.size + 1, 1, none⟩ = some (.slice a (limbs m).length ca) := S4
  have R0 : (World.setCell (World.setCell (World.setCell (World.setCell (World.drewN (World.alloc (World.alloc (World.alloc w (.cells #[.bool b1, .slice a (limbs m).length ca] 25)) (.cells #[.bool b2, .slice b (limbs n).length cb] 25)) (.cells #[.bool false, .slice none 0 0] 25)) q) ⟨w.heap.size, 0, none⟩ (.bool b2)) ⟨w.heap.size, 1, none⟩ (.slice b (limbs n).length cb)) ⟨w.heap.size + 1, 0, none⟩ (.bool b1)) ⟨w.heap.size + 1, 1, none⟩ (.slice a (limbs m).length ca)).cell? ⟨w.heap.size + 1 + 1, 0, none⟩ = some (.bool false) ∧ (World.setCell (World.setCell (World.setCell (World.setCell (World.drewN (World.alloc (World.alloc (World.alloc w (.cells #[.bool b1, .slice a (limbs m).length ca] 25)) (.cells #[.bool b2, .slice b (limbs n).length cb] 25)) (.cells #[.bool false, .slice none 0 0] 25)) q) ⟨w.heap.size, 0, none⟩ (.bool b2)) ⟨w.heap.size, 1, none⟩ (.slice b (limbs n).length cb)) ⟨w.heap.size + 1, 0, none⟩ (.bool b1)) ⟨w.heap.size + 1, 1, none⟩ (.slice a (limbs m).length ca)).cell? ⟨w.heap.size + 1 + 1, 1, none⟩ = some (.slice none 0 0) ∧ (World.setCell (World.setCell (World.setCell (World.setCell (World.drewN (World.alloc (World.alloc (World.alloc w (.cells #[.bool b1, .slice a (limbs m).length ca] 25)) (.cells #[.bool b2, .slice b (limbs n).length cb] 25)) (.cells #[.bool false, .slice none 0 0] 25)) q) ⟨w.heap.size, 0, none⟩ (.bool b2)) ⟨w.heap.size, 1, none⟩ (.slice b (limbs n).length cb)) ⟨w.heap.size + 1, 0, none⟩ (.bool b1)) ⟨w.heap.size + 1, 1, none⟩ (.slice a (limbs m).length ca)).frozen? ⟨w.heap.size + 1 + 1, 0, none⟩ = false ∧ (World.setCell (World.setCell (World.setCell (World.setCell (World.drewN (World.alloc (World.alloc (World.alloc w (.cells #[.bool b1, .slice a (limbs m).length ca] 25)) (.cells #[.bool b2, .slice b (limbs n).length cb] 25)) (.cells #[.bool false, .slice none 0 0] 25)) q) ⟨w.heap.size, 0, none⟩ (.bool b2)) ⟨w.heap.size, 1, none⟩ (.slice b (limbs n).length cb)) ⟨w.heap.size + 1, 0, none⟩ (.bool b1)) ⟨w.heap.size + 1, 1, none⟩ (.slice a (limbs m).length ca)).frozen? ⟨w.heap.size + 1 + 1, 1, none⟩ = false := ⟨T0, T1, by simp only [World.frozen?_setCell]; exact F3⟩
  have hB : Below w.heap.size w (World.setCell (World.setCell (World.setCell (World.setCell (World.drewN (World.alloc (World.alloc (World.alloc w (.cells #[.bool b1, .slice a (limbs m).length ca] 25)) (.cells #[.bool b2, .slice b (limbs n).length cb] 25)) (.cells #[.bool false, .slice none 0 0] 25)) q) ⟨w.heap.size, 0, none⟩ (.bool b2)) ⟨w.heap.size, 1, none⟩ (.slice b (limbs n).length cb)) ⟨w.heap.size + 1, 0, none⟩ (.bool b1)) ⟨w.heap.size + 1, 1, none⟩ (.slice a (limbs m).length ca)) := hb4
  skip
  obtain ⟨W5, hW5⟩ : ∃ x : World, x = (World.setCell (World.setCell (World.setCell (World.setCell (World.drewN (World.alloc (World.alloc (World.alloc w (.cells #[.bool b1, .slice a (limbs m).length ca] 25)) (.cells #[.bool b2, .slice b (limbs n).length cb] 25)) (.cells #[.bool false, .slice none 0 0] 25)) q) ⟨w.heap.size, 0, none⟩ (.bool b2)) ⟨w.heap.size, 1, none⟩ (.slice b (limbs n).length cb)) ⟨w.heap.size + 1, 0, none⟩ (.bool b1)) ⟨w.heap.size + 1, 1, none⟩ (.slice a (limbs m).length ca)) := ⟨_, rfl⟩
  rw [← hW5] at K0 R0 hB hz3 ⊢
  clear hW5
  replace K0 := Lib.hid K0
  replace R0 := Lib.hid R0
  have hxq := Lib.hid (hx.below hB.drew (Nat.le_refl _))
  have hyq := Lib.hid (hy.below hB.drew (Nat.le_refl _))
  have hL : (limbs (n - m)).length ≤ 1099511627776 := by omega
  have Z1 : sg (zOf b1 m + zOf b2 n) = (b2 && decide (0 < (limbs (n - m)).length), (limbs (n - m))) := by rw [show zOf b1 m + zOf b2 n = zOf b2 (n - m) from by rw [Int.add_comm]; exact zOf_sub (by rintro rfl; simp at hbb) (by omega), sg_zOf]
  clear B3 F3 S4 T0 T1
  go_region_held3 (fun w' => w'.cell? ⟨w.heap.size, 0, none⟩ = some (.bool b2) ∧ w'.cell? ⟨w.heap.size, 1, none⟩ = some (.slice b (limbs n).length cb) ∧ w'.cell? ⟨w.heap.size + 1, 0, none⟩ = some (.bool b1) ∧ w'.cell? ⟨w.heap.size + 1, 1, none⟩ = some (.slice a (limbs m).length ca))
    (first | (exact ⟨(keepS (by omega) k2_0).1, (keepS (by omega) k2_0).2, (keepS (by omega) k2_1).1, (keepS (by omega) k2_1).2⟩) | (exact ⟨k2_0.1, k2_0.2, k2_1.1, k2_1.2⟩) | (exact ⟨k1_0.1, k1_0.2, k1_1.1, k1_1.2⟩) | (exact K0.out) | go_keep)
    (first | (go_at_call 44; refine (natSub_any _ _ _ _ _ _ _ hyq.out.1 hxq.out.1 hyq.out.2.2 (by omega)).mono ?_; rintro e q1 ⟨⟨a1, c1, rfl, ho1⟩, hq1⟩; have hs1 := hq1.size; have k1_0 := keep2 (b := w.heap.size) (u := .bool b2) (v := .slice b (limbs n).length cb) hq1 (show _ < (W5).heap.size by omega) K0.out.1 K0.out.2.1; have k1_1 := keep2 (b := w.heap.size + 1) (u := .bool b1) (v := .slice a (limbs m).length ca) hq1 (show _ < (W5).heap.size by omega) K0.out.2.2.1 K0.out.2.2.2; have hs1' : (W5).heap.size ≤ q1.heap.size := hs1; have r1 := keep2 (b := w.heap.size + 1 + 1) (u := .bool false) (v := .slice none 0 0) hq1 (show _ < (W5).heap.size by omega) R0.out.1 R0.out.2.1; have f1 := keepf (b := w.heap.size + 1 + 1) hq1 (show _ < (W5).heap.size by omega) R0.out.2.2.1 R0.out.2.2.2) | (go_at_call 31; refine (signed_any _ _ _ _ _ hL).mono ?_; rintro e q2 ⟨rfl, hq2⟩; have hs2 := hq2.size; have k2_0 := keep2 hq2 (by omega) k1_0.1 k1_0.2; have k2_1 := keep2 hq2 (by omega) k1_1.1 k1_1.2; have r2 := keep2 hq2 (by omega) r1.1 r1.2; have f2 := keepf hq2 (by omega) f1.1 f1.2; obtain ⟨ra, rb⟩ := r2; obtain ⟨fa, fb⟩ := f2))
  go_wp2
  replace hB := (hB.drew.trans (hq1.mono (show w.heap.size ≤ W5.heap.size by omega))).trans (hq2.mono (by omega))
  refine bodyPost_ret (v := .agg #[.bool (b2 && decide (0 < (limbs (n - m)).length)), .slice a1 (limbs (n - m)).length c1]) (by simp [results, Tryz.results19, go_sem, ra, rb]) rfl ⟨⟨a1, c1, ?_, ?_⟩, ?_⟩
  · rw [Z1]
  · rw [Z1]
    exact own_set (B0 := w.heap.size + 3) (own_set (B := w.heap.size + 3) (B0 := w.heap.size + 3) ((ho1.mono (show w.heap.size + 3 ≤ W5.heap.size by omega)).below hq2 (Nat.le_refl _)) (by dsimp only; omega) _ (Nat.le_refl _)) (by dsimp only; omega) _ (by omega)
  · exact (hB.setCell (by dsimp only; omega) _).setCell (by dsimp only; omega) _
set_option linter.unusedSimpArgs false in
set_option maxHeartbeats 3200000 in
theorem intAdd_ge (b1 b2 : Bool) (a b : Option Addr) (ca cb m n : Nat) (w : World) (hx : In w a ca (limbs m)) (hy : In w b cb (limbs n)) (lm : (limbs m).length ≤ 1000) (_ln : (limbs n).length ≤ 1000) (hbb : (b1 == b2) = false) (h : ¬ m < n) :
    Calls Tryz.prog 19 #[.agg #[.bool b1, .slice a (limbs m).length ca], .agg #[.bool b2, .slice b (limbs n).length cb]] w fun e w' => (∃ a' c', e = .returned (.agg #[.bool (sg (zOf b1 m + zOf b2 n)).1, .slice a' (sg (zOf b1 m + zOf b2 n)).2.length c']) ∧ Own w' w.heap.size a' c' (sg (zOf b1 m + zOf b2 n)).2) ∧ Below w.heap.size w w' := by
  have hLa := len_add m n
  have hLb := len_sub m n
  have hLc := len_sub n m
  have hA := ((bel_alloc w (.cells #[.bool b1, .slice a (limbs m).length ca] 25)).trans ((bel_alloc _ (.cells #[.bool b2, .slice b (limbs n).length cb] 25)).mono (by simp))).trans ((bel_alloc _ (.cells #[.bool false, .slice none 0 0] 25)).mono (by simp; omega))
  have B3 := box3 w (.bool b1) (.slice a (limbs m).length ca) (.bool b2) (.slice b (limbs n).length cb) (.bool false) (.slice none 0 0) 25
  have F3 : (World.alloc (World.alloc (World.alloc w (.cells #[.bool b1, .slice a (limbs m).length ca] 25)) (.cells #[.bool b2, .slice b (limbs n).length cb] 25)) (.cells #[.bool false, .slice none 0 0] 25)).frozen? ⟨w.heap.size + 1 + 1, 0, none⟩ = false ∧ (World.alloc (World.alloc (World.alloc w (.cells #[.bool b1, .slice a (limbs m).length ca] 25)) (.cells #[.bool b2, .slice b (limbs n).length cb] 25)) (.cells #[.bool false, .slice none 0 0] 25)).frozen? ⟨w.heap.size + 1 + 1, 1, none⟩ = false := (box_last _ _ _ _ _ (by simp only [World.size_alloc])).2.2
  have hz3 : w.heap.size + 3 ≤ (World.alloc (World.alloc (World.alloc w (.cells #[.bool b1, .slice a (limbs m).length ca] 25)) (.cells #[.bool b2, .slice b (limbs n).length cb] 25)) (.cells #[.bool false, .slice none 0 0] 25)).heap.size := by simp only [World.size_alloc]; omega
  go_enter Tryz.func19, Tryz.ntmps19
  go_wp2_with fail
  refine (natCmp_any _ _ _ _ _ _ _ (hx.1.below hA (Nat.le_refl _)) (hy.1.below hA (Nat.le_refl _)) hx.2.2 hy.2.2).mono ?_
  rintro e wc ⟨rfl, q, rfl⟩
  have hbq := bel_drewN hA q
  have hc0 : 0 ≤ cmpN m n := by unfold cmpN; rw [if_neg h]; split <;> omega
  go_wp2_with fail
  have K0 : (World.drewN (World.alloc (World.alloc (World.alloc w (.cells #[.bool b1, .slice a (limbs m).length ca] 25)) (.cells #[.bool b2, .slice b (limbs n).length cb] 25)) (.cells #[.bool false, .slice none 0 0] 25)) q).cell? ⟨w.heap.size, 0, none⟩ = some (.bool b1) ∧ (World.drewN (World.alloc (World.alloc (World.alloc w (.cells #[.bool b1, .slice a (limbs m).length ca] 25)) (.cells #[.bool b2, .slice b (limbs n).length cb] 25)) (.cells #[.bool false, .slice none 0 0] 25)) q).cell? ⟨w.heap.size, 1, none⟩ = some (.slice a (limbs m).length ca) ∧ (World.drewN (World.alloc (World.alloc (World.alloc w (.cells #[.bool b1, .slice a (limbs m).length ca] 25)) (.cells #[.bool b2, .slice b (limbs n).length cb] 25)) (.cells #[.bool false, .slice none 0 0] 25)) q).cell? ⟨w.heap.size + 1, 0, none⟩ = some (.bool b2) ∧ (World.drewN (World.alloc (World.alloc (World.alloc w (.cells #[.bool b1, .slice a (limbs m).length ca] 25)) (.cells #[.bool b2, .slice b (limbs n).length cb] 25)) (.cells #[.bool false, .slice none 0 0] 25)) q).cell? ⟨w.heap.size + 1, 1, none⟩ = some (.slice b (limbs n).length cb) := ⟨B3.1, B3.2.1, B3.2.2.1, B3.2.2.2.1⟩
  have R0 : (World.drewN (World.alloc (World.alloc (World.alloc w (.cells #[.bool b1, .slice a (limbs m).length ca] 25)) (.cells #[.bool b2, .slice b (limbs n).length cb] 25)) (.cells #[.bool false, .slice none 0 0] 25)) q).cell? ⟨w.heap.size + 1 + 1, 0, none⟩ = some (.bool false) ∧ (World.drewN (World.alloc (World.alloc (World.alloc w (.cells #[.bool b1, .slice a (limbs m).length ca] 25)) (.cells #[.bool b2, .slice b (limbs n).length cb] 25)) (.cells #[.bool false, .slice none 0 0] 25)) q).cell? ⟨w.heap.size + 1 + 1, 1, none⟩ = some (.slice none 0 0) ∧ (World.drewN (World.alloc (World.alloc (World.alloc w (.cells #[.bool b1, .slice a (limbs m).length ca] 25)) (.cells #[.bool b2, .slice b (limbs n).length cb] 25)) (.cells #[.bool false, .slice none 0 0] 25)) q).frozen? ⟨w.heap.size + 1 + 1, 0, none⟩ = false ∧ (World.drewN (World.alloc (World.alloc (World.alloc w (.cells #[.bool b1, .slice a (limbs m).length ca] 25)) (.cells #[.bool b2, .slice b (limbs n).length cb] 25)) (.cells #[.bool false, .slice none 0 0] 25)) q).frozen? ⟨w.heap.size + 1 + 1, 1, none⟩ = false := ⟨B3.2.2.2.2.1, B3.2.2.2.2.2, F3⟩
  have hB : Below w.heap.size w (World.drewN (World.alloc (World.alloc (World.alloc w (.cells #[.bool b1, .slice a (limbs m).length ca] 25)) (.cells #[.bool b2, .slice b (limbs n).length cb] 25)) (.cells #[.bool false, .slice none 0 0] 25)) q) := hbq
  replace hz3 : w.heap.size + 3 ≤ (World.drewN (World.alloc (World.alloc (World.alloc w (.cells #[.bool b1, .slice a (limbs m).length ca] 25)) (.cells #[.bool b2, .slice b (limbs n).length cb] 25)) (.cells #[.bool false, .slice none 0 0] 25)) q).heap.size := hz3
  obtain ⟨W5, hW5⟩ : ∃ x : World, x = (World.drewN (World.alloc (World.alloc (World.alloc w (.cells #[.bool b1, .slice a (limbs m).length ca] 25)) (.cells #[.bool b2, .slice b (limbs n).length cb] 25)) (.cells #[.bool false, .slice none 0 0] 25)) q) := ⟨_, rfl⟩
  rw [← hW5] at K0 R0 hB hz3 ⊢
  clear hW5
  replace K0 := Lib.hid K0
  replace R0 := Lib.hid R0
  have hxq := Lib.hid (hx.below hB.drew (Nat.le_refl _))
  have hyq := Lib.hid (hy.below hB.drew (Nat.le_refl _))
  have hL : (limbs (m - n)).length ≤ 1099511627776 := by omega
  have Z1 : sg (zOf b1 m + zOf b2 n) = (b1 && decide (0 < (limbs (m - n)).length), (limbs (m - n))) := by rw [show zOf b1 m + zOf b2 n = zOf b1 (m - n) from zOf_sub (by rintro rfl; simp at hbb) (by omega), sg_zOf]
  clear B3 F3
  go_region_held3 (fun w' => w'.cell? ⟨w.heap.size, 0, none⟩ = some (.bool b1) ∧ w'.cell? ⟨w.heap.size, 1, none⟩ = some (.slice a (limbs m).length ca) ∧ w'.cell? ⟨w.heap.size + 1, 0, none⟩ = some (.bool b2) ∧ w'.cell? ⟨w.heap.size + 1, 1, none⟩ = some (.slice b (limbs n).length cb))
    (first | (exact ⟨(keepS (by omega) k2_0).1, (keepS (by omega) k2_0).2, (keepS (by omega) k2_1).1, (keepS (by omega) k2_1).2⟩) | (exact ⟨k2_0.1, k2_0.2, k2_1.1, k2_1.2⟩) | (exact ⟨k1_0.1, k1_0.2, k1_1.1, k1_1.2⟩) | (exact K0.out) | go_keep)
    (first | (go_at_call 44; refine (natSub_any _ _ _ _ _ _ _ hxq.out.1 hyq.out.1 hxq.out.2.2 (by omega)).mono ?_; rintro e q1 ⟨⟨a1, c1, rfl, ho1⟩, hq1⟩; have hs1 := hq1.size; have k1_0 := keep2 (b := w.heap.size) (u := .bool b1) (v := .slice a (limbs m).length ca) hq1 (show _ < (W5).heap.size by omega) K0.out.1 K0.out.2.1; have k1_1 := keep2 (b := w.heap.size + 1) (u := .bool b2) (v := .slice b (limbs n).length cb) hq1 (show _ < (W5).heap.size by omega) K0.out.2.2.1 K0.out.2.2.2; have hs1' : (W5).heap.size ≤ q1.heap.size := hs1; have r1 := keep2 (b := w.heap.size + 1 + 1) (u := .bool false) (v := .slice none 0 0) hq1 (show _ < (W5).heap.size by omega) R0.out.1 R0.out.2.1; have f1 := keepf (b := w.heap.size + 1 + 1) hq1 (show _ < (W5).heap.size by omega) R0.out.2.2.1 R0.out.2.2.2) | (go_at_call 31; refine (signed_any _ _ _ _ _ hL).mono ?_; rintro e q2 ⟨rfl, hq2⟩; have hs2 := hq2.size; have k2_0 := keep2 hq2 (by omega) k1_0.1 k1_0.2; have k2_1 := keep2 hq2 (by omega) k1_1.1 k1_1.2; have r2 := keep2 hq2 (by omega) r1.1 r1.2; have f2 := keepf hq2 (by omega) f1.1 f1.2; obtain ⟨ra, rb⟩ := r2; obtain ⟨fa, fb⟩ := f2))
  go_wp2
  replace hB := (hB.drew.trans (hq1.mono (show w.heap.size ≤ W5.heap.size by omega))).trans (hq2.mono (by omega))
  refine bodyPost_ret (v := .agg #[.bool (b1 && decide (0 < (limbs (m - n)).length)), .slice a1 (limbs (m - n)).length c1]) (by simp [results, Tryz.results19, go_sem, ra, rb]) rfl ⟨⟨a1, c1, ?_, ?_⟩, ?_⟩
  · rw [Z1]
  · rw [Z1]
    exact own_set (B0 := w.heap.size + 3) (own_set (B := w.heap.size + 3) (B0 := w.heap.size + 3) ((ho1.mono (show w.heap.size + 3 ≤ W5.heap.size by omega)).below hq2 (Nat.le_refl _)) (by dsimp only; omega) _ (Nat.le_refl _)) (by dsimp only; omega) _ (by omega)
  · exact (hB.setCell (by dsimp only; omega) _).setCell (by dsimp only; omega) _
theorem intAdd_any (b1 b2 : Bool) (a b : Option Addr) (ca cb m n : Nat) (w : World) (hx : In w a ca (limbs m)) (hy : In w b cb (limbs n)) (lm : (limbs m).length ≤ 1000) (ln : (limbs n).length ≤ 1000) :
    Calls Tryz.prog 19 #[.agg #[.bool b1, .slice a (limbs m).length ca], .agg #[.bool b2, .slice b (limbs n).length cb]] w fun e w' => (∃ a' c', e = .returned (.agg #[.bool (sg (zOf b1 m + zOf b2 n)).1, .slice a' (sg (zOf b1 m + zOf b2 n)).2.length c']) ∧ Own w' w.heap.size a' c' (sg (zOf b1 m + zOf b2 n)).2) ∧ Below w.heap.size w w' := by
  cases hb : (b1 == b2)
  · by_cases h : m < n
    · exact intAdd_lt b1 b2 a b ca cb m n w hx hy lm ln hb h
    · exact intAdd_ge b1 b2 a b ca cb m n w hx hy lm ln hb h
  · have e : b1 = b2 := by simpa using hb
    subst e
    exact intAdd_same b1 a b ca cb m n w hx hy lm ln
end Go.Proofs.YtogkonenejfgmaaGreatDoor
