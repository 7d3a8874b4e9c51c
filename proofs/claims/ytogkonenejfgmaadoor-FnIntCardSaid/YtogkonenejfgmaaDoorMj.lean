/- The walk of MakeInts. -/
import Derived.Test.YtogkonenejfgmaaDoorMi
import Derived.Deep.RegionWith
namespace Go.Proofs.YtogkonenejfgmaaDoor
open Go.RowKit
set_option linter.unusedVariables false
set_option maxRecDepth 100000 in
set_option maxHeartbeats 3200000 in
theorem draw_ints (a : Option Addr) (c : Nat) (xs : List Int) (w : World) (hr : RdB w w.heap.size a xs) (hb : Byt xs) (hl : xs.length ≤ 1048576) (hc : xs.length ≤ c) :
    Calls Tryd.prog 31 #[.slice a xs.length c] w fun e w' => (∃ (x y : Int) (a1 : Option Addr) (c1 : Nat) (a2 : Option Addr) (c2 : Nat), e = .returned (.tuple #[.agg #[.bool (sg x).1, .slice a1 (sg x).2.length c1], .agg #[.bool (sg y).1, .slice a2 (sg y).2.length c2]]) ∧ (sg x).2.length ≤ 4 ∧ (sg y).2.length ≤ 4 ∧ In w' a1 c1 (sg x).2 ∧ In w' a2 c2 (sg y).2) ∧ Below w.heap.size w w' := by
  have HB := Lib.hid hb
  clear hb
  have hA := (bel_alloc w (.cells #[.bool false, .slice none 0 0] 49)).trans ((bel_alloc _ (.cells #[.bool false, .slice none 0 0] 49)).mono (by simp))
  have K1 := (Box2.new w (.bool false) (.slice none 0 0) 49 _ rfl).below (bel_alloc _ (.cells #[.bool false, .slice none 0 0] 49)) (Nat.le_refl _)
  have K2 := Box2.new (w.alloc (.cells #[.bool false, .slice none 0 0] 49)) (.bool false) (.slice none 0 0) 49 _ rfl
  rw [World.size_alloc] at K2
  have hs0 : ((w.alloc (.cells #[.bool false, .slice none 0 0] 49)).alloc (.cells #[.bool false, .slice none 0 0] 49)).heap.size = w.heap.size + 2 := by simp
  go_enter Tryd.func31, Tryd.ntmps31
  go_wp2_with fail
  generalize hW : (w.alloc (.cells #[.bool false, .slice none 0 0] 49)).alloc (.cells #[.bool false, .slice none 0 0] 49) = W at hA K1 K2 hs0 ⊢
  refine (draw_new a c xs _ ((hr.below hA (Nat.le_refl _)).mono hA.size) HB.out hl hc).mono ?_
  rintro e w1 ⟨rfl, k1, hb1⟩
  replace hA := hA.trans (hb1.mono hA.size)
  replace K1 := K1.below hb1 (Nat.le_refl _)
  replace K2 := K2.below hb1 (Nat.le_refl _)
  have hs1 := k1.lt
  rw [hs0] at k1 hs1 ⊢
  clear hW hb1 hr
  go_wp2_with fail
  refine (draw_int (w.heap.size + 2) a c xs _ 4 _ k1 HB.out hl hc (by omega)).mono ?_
  rintro e w2 ⟨x, a1, c1, s2, rfl, lx, ho1, k2, hw2⟩
  replace hA := below_wr hA hw2 (by omega) hA.size
  replace K1 := K1.wr hw2 (by omega)
  replace K2 := K2.wr hw2 (by omega)
  have hs2 := hw2.size
  clear hw2 k1
  have hA3 := hA.alloc hA.size (.cells #[.bool (sg x).1, .slice a1 (sg x).2.length c1] 49)
  have hbl := bel_alloc w2 (.cells #[.bool (sg x).1, .slice a1 (sg x).2.length c1] 49)
  have K3 := Box2.new w2 (.bool (sg x).1) (.slice a1 (sg x).2.length c1) 49 _ rfl
  replace K1 := K1.below hbl (Nat.le_refl _)
  replace K2 := K2.below hbl (Nat.le_refl _)
  have k3 := k2.below hbl (Nat.le_refl _)
  replace ho1 := ho1.below hbl (Nat.le_refl _)
  have hs3 : (w2.alloc (.cells #[.bool (sg x).1, .slice a1 (sg x).2.length c1] 49)).heap.size = w2.heap.size + 1 := by simp
  clear hbl k2 hA
  go_wp2_with fail
  generalize (w2.alloc (.cells #[.bool (sg x).1, .slice a1 (sg x).2.length c1] 49)) = w3 at hA3 K1 K2 K3 k3 ho1 hs3 ⊢
  obtain ⟨⟨hx0, hx1⟩, -, -⟩ := K3
  go_region_with (first | (go_at_call 66; refine (draw_int (w.heap.size + 2) a c xs _ 4 _ k3.drew HB.out hl hc (by omega)).mono ?_; rintro e w4 ⟨y, a2, c2, s4, rfl, ly, ho2, k4, hw4⟩; have K1' := Box2.wr (W := w3.drew) K1 hw4 (by omega); have K2' := Box2.wr (W := w3.drew) K2 hw4 (by omega); obtain ⟨⟨h10, h11⟩, g10, g11⟩ := K1'; obtain ⟨⟨h20, h21⟩, g20, g21⟩ := K2'; have hx0' := cell_keep_wr (w := w3.drew) hw4 hx0 (by omega); have hx1' := cell_keep_wr (w := w3.drew) hw4 hx1 (by omega); have zq : w2.heap.size + 1 ≤ w4.heap.size := (by have := hw4.size; exact Nat.le_trans (Nat.le_of_eq hs3.symm) this)))
  all_goals
    have ho1' := Own.wr (w := w3.drew) ho1 hw4 (by omega)
    have hA4 := below_wr hA3.drew hw4 (by omega) (by show w.heap.size ≤ w3.heap.size; omega)
    have hr0 := far2 (r := w.heap.size + 1) (u := .bool (sg y).1) (v := .slice a2 (sg y).2.length c2) (by omega) (set2_cell0 (u := .bool (sg x).1) (v := .slice a1 (sg x).2.length c1) h10)
    have hr1 := far2 (r := w.heap.size + 1) (u := .bool (sg y).1) (v := .slice a2 (sg y).2.length c2) (by omega) (set2_cell1 (u := .bool (sg x).1) (v := .slice a1 (sg x).2.length c1) h11)
    have hr2 := set2_cell0 (u := .bool (sg y).1) (v := .slice a2 (sg y).2.length c2) (far2 (r := w.heap.size) (u := .bool (sg x).1) (v := .slice a1 (sg x).2.length c1) (by omega) h20)
    have hr3 := set2_cell1 (u := .bool (sg y).1) (v := .slice a2 (sg y).2.length c2) (far2 (r := w.heap.size) (u := .bool (sg x).1) (v := .slice a1 (sg x).2.length c1) (by omega) h21)
    go_wp2
    refine bodyPost_ret (v := .tuple #[.agg #[.bool (sg x).1, .slice a1 (sg x).2.length c1], .agg #[.bool (sg y).1, .slice a2 (sg y).2.length c2]]) (by simp [results, Tryd.results31, go_sem, hr0, hr1, hr2, hr3]) rfl ⟨⟨x, y, a1, c1, a2, c2, rfl, lx, ly, ?_, ?_⟩, ?_⟩
    · exact (set2_own (set2_own ho1' (by omega) (Nat.le_refl _)) (by omega) (Nat.le_refl _)).inn (by omega)
    · exact (set2_own (set2_own (B0 := w3.heap.size) ho2 (by omega) (Nat.le_refl _)) (by omega) (Nat.le_refl _)).inn (by omega)
    · exact set2_below (set2_below hA4 (by omega)) (by omega)
end Go.Proofs.YtogkonenejfgmaaDoor
