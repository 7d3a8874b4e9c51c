/- The walk of MakeRats. -/
import Derived.Test.YtogkonenejfgmaaGreatDoorM27
namespace Go.Proofs.YtogkonenejfgmaaGreatDoor
open Go.RowKit
set_option linter.unusedVariables false
abbrev rz3 : Array Value := #[.bool false, .slice none 0 0, .slice none 0 0]
set_option maxRecDepth 100000 in
set_option maxHeartbeats 8000000 in
theorem draw_rats (a : Option Addr) (c : Nat) (xs : List Int) (w : World) (hr : RdB w w.heap.size a xs) (hb : Byt xs) (hl : xs.length ≤ 1048576) (hc : xs.length ≤ c) :
    Calls Tryz.prog 4 #[.slice a xs.length c] w fun e w' => (∃ (p u x : Int) (q v y : Nat) (a1 : Option Addr) (c1 : Nat) (b1 : Option Addr) (d1 : Nat) (a2 : Option Addr) (c2 : Nat) (b2 : Option Addr) (d2 : Nat) (a3 : Option Addr) (c3 : Nat) (b3 : Option Addr) (d3 : Nat),
      e = .returned (.tuple #[.agg #[.bool (sg p).1, .slice a1 (sg p).2.length c1, .slice b1 (limbs q).length d1], .agg #[.bool (sg u).1, .slice a2 (sg u).2.length c2, .slice b2 (limbs v).length d2], .agg #[.bool (sg x).1, .slice a3 (sg x).2.length c3, .slice b3 (limbs y).length d3]]) ∧
      (QQ p q ∧ (sg p).2.length ≤ 2 ∧ (limbs q).length ≤ 2) ∧ (QQ u v ∧ (sg u).2.length ≤ 2 ∧ (limbs v).length ≤ 2) ∧ (QQ x y ∧ (sg x).2.length ≤ 2 ∧ (limbs y).length ≤ 2) ∧
      (In w' a1 c1 (sg p).2 ∧ In w' b1 d1 (limbs q)) ∧ (In w' a2 c2 (sg u).2 ∧ In w' b2 d2 (limbs v)) ∧ (In w' a3 c3 (sg x).2 ∧ In w' b3 d3 (limbs y))) ∧ Below w.heap.size w w' := by
  have HB := Lib.hid hb
  clear hb
  have hA1 := bel_alloc w (.cells #[.bool false, .slice none 0 0, .slice none 0 0] 27)
  have hA2 := bel_alloc (w.alloc (.cells #[.bool false, .slice none 0 0, .slice none 0 0] 27)) (.cells #[.bool false, .slice none 0 0, .slice none 0 0] 27)
  have hA3 := bel_alloc ((w.alloc (.cells #[.bool false, .slice none 0 0, .slice none 0 0] 27)).alloc (.cells #[.bool false, .slice none 0 0, .slice none 0 0] 27)) (.cells #[.bool false, .slice none 0 0, .slice none 0 0] 27)
  have K1 := ((Box3.new w (.bool false) (.slice none 0 0) (.slice none 0 0) 27 _ rfl).below hA2 (Nat.le_refl _)).below hA3 (Nat.le_refl _)
  have K2 := (Box3.new (w.alloc (.cells #[.bool false, .slice none 0 0, .slice none 0 0] 27)) (.bool false) (.slice none 0 0) (.slice none 0 0) 27 _ rfl).below hA3 (Nat.le_refl _)
  have K3 := Box3.new ((w.alloc (.cells #[.bool false, .slice none 0 0, .slice none 0 0] 27)).alloc (.cells #[.bool false, .slice none 0 0, .slice none 0 0] 27)) (.bool false) (.slice none 0 0) (.slice none 0 0) 27 _ rfl
  have hA := (hA1.trans (hA2.mono (by simp))).trans (hA3.mono (by simp; omega))
  simp only [World.size_alloc] at K2 K3
  have hs0 : (((w.alloc (.cells #[.bool false, .slice none 0 0, .slice none 0 0] 27)).alloc (.cells #[.bool false, .slice none 0 0, .slice none 0 0] 27)).alloc (.cells #[.bool false, .slice none 0 0, .slice none 0 0] 27)).heap.size = w.heap.size + 3 := by simp
  clear hA1 hA2 hA3
  go_enter Tryz.func4, Tryz.ntmps4
  go_wp2_with fail
  generalize ((w.alloc (.cells #[.bool false, .slice none 0 0, .slice none 0 0] 27)).alloc (.cells #[.bool false, .slice none 0 0, .slice none 0 0] 27)).alloc (.cells #[.bool false, .slice none 0 0, .slice none 0 0] 27) = W at hA K1 K2 K3 hs0 ⊢
  refine (draw_new a c xs _ ((hr.below hA (Nat.le_refl _)).mono hA.size) HB.out hl hc).mono ?_
  rintro e w1 ⟨rfl, k1, hb1⟩
  replace hA := hA.trans (hb1.mono hA.size)
  replace K1 := K1.below hb1 (Nat.le_refl _)
  replace K2 := K2.below hb1 (Nat.le_refl _)
  replace K3 := K3.below hb1 (Nat.le_refl _)
  have hs1 := k1.lt
  obtain ⟨B, hB⟩ : ∃ B, W.heap.size = B := ⟨_, rfl⟩
  rw [hB] at k1 hs1 ⊢
  have hB3 : w.heap.size + 3 = B := by omega
  have HB3 : w.heap.size + 2 < B := by omega
  clear hb1 hr hB hs0 hB3
  go_wp2_with fail
  refine (draw_rat B a c xs _ _ k1 HB.out hl hc).mono ?_
  rintro e w2 ⟨p, q, a1, c1, b1, d1, s2, rfl, hQ1, lp, lq, op, oq, k2, hw⟩
  replace hA := below_wr hA hw (by omega) hA.size
  replace K1 := K1.wr hw (by omega)
  replace K2 := K2.wr hw (by omega)
  replace K3 := K3.wr hw (by omega)
  have hs2 := hw.size
  clear hw k1
  have hal := bel_alloc w2 (.cells #[.bool (sg p).1, .slice a1 (sg p).2.length c1, .slice b1 (limbs q).length d1] 27)
  have K6 := Box3.new w2 (.bool (sg p).1) (.slice a1 (sg p).2.length c1) (.slice b1 (limbs q).length d1) 27 _ rfl
  replace hA := hA.trans (hal.mono hA.size)
  replace K1 := K1.below hal (Nat.le_refl _)
  replace K2 := K2.below hal (Nat.le_refl _)
  replace K3 := K3.below hal (Nat.le_refl _)
  replace op := op.below hal (Nat.le_refl _)
  replace oq := oq.below hal (Nat.le_refl _)
  have k3 := k2.below hal (Nat.le_refl _)
  have hs3 : w2.heap.size < (w2.alloc (.cells #[.bool (sg p).1, .slice a1 (sg p).2.length c1, .slice b1 (limbs q).length d1] 27)).heap.size := by simp
  clear hal k2
  go_wp2_with fail
  generalize w2.alloc (.cells #[.bool (sg p).1, .slice a1 (sg p).2.length c1, .slice b1 (limbs q).length d1] 27) = w3 at hA K1 K2 K3 K6 op oq k3 hs3 ⊢
  obtain ⟨b6, hb6⟩ : ∃ b, w2.heap.size = b := ⟨_, rfl⟩
  rw [hb6] at K6 ⊢
  have hb6b : B < b6 := by omega
  clear hb6
  refine (draw_rat B a c xs _ _ k3 HB.out hl hc).mono ?_
  rintro e w4 ⟨u, v, a2, c2, b2, d2, s4, rfl, hQ2, lu, lv, ou, ov, k4, hw⟩
  replace hA := below_wr hA hw (by omega) hA.size
  replace K1 := K1.wr hw (by omega)
  replace K2 := K2.wr hw (by omega)
  replace K3 := K3.wr hw (by omega)
  replace K6 := K6.wr hw (by omega)
  replace op := op.wr hw (by omega)
  replace oq := oq.wr hw (by omega)
  have hs4 := hw.size
  clear hw k3
  have hal := bel_alloc w4 (.cells #[.bool (sg u).1, .slice a2 (sg u).2.length c2, .slice b2 (limbs v).length d2] 27)
  have K7 := Box3.new w4 (.bool (sg u).1) (.slice a2 (sg u).2.length c2) (.slice b2 (limbs v).length d2) 27 _ rfl
  replace hA := hA.trans (hal.mono hA.size)
  replace K1 := K1.below hal (Nat.le_refl _)
  replace K2 := K2.below hal (Nat.le_refl _)
  replace K3 := K3.below hal (Nat.le_refl _)
  replace K6 := K6.below hal (Nat.le_refl _)
  replace op := op.below hal (Nat.le_refl _)
  replace oq := oq.below hal (Nat.le_refl _)
  replace ou := ou.below hal (Nat.le_refl _)
  replace ov := ov.below hal (Nat.le_refl _)
  have k5 := k4.below hal (Nat.le_refl _)
  have hs5 : w4.heap.size < (w4.alloc (.cells #[.bool (sg u).1, .slice a2 (sg u).2.length c2, .slice b2 (limbs v).length d2] 27)).heap.size := by simp
  clear hal k4
  go_upto_region 4 with fail
  generalize w4.alloc (.cells #[.bool (sg u).1, .slice a2 (sg u).2.length c2, .slice b2 (limbs v).length d2] 27) = w5 at hA K1 K2 K3 K6 K7 op oq ou ov k5 hs5 ⊢
  obtain ⟨b7, hb7⟩ : ∃ b, w4.heap.size = b := ⟨_, rfl⟩
  rw [hb7] at K7 ⊢
  have hb7b : B < b7 := by omega
  clear hb7
  replace op := op.mono (B' := B + 1) (by omega)
  replace oq := oq.mono (B' := B + 1) (by omega)
  replace ou := ou.mono (B' := B + 1) (by omega)
  replace ov := ov.mono (B' := B + 1) (by omega)
  obtain ⟨⟨x0, x1, x2⟩, -, -, -⟩ := id K6
  obtain ⟨⟨y0, y1, y2⟩, -, -, -⟩ := id K7
  go_region_with (first | (go_at_call 15; refine (draw_rat B a c xs _ w5.drew k5.drew HB.out hl hc).mono ?_; rintro e w6 ⟨x, y, a3, c3, b3, d3, s6, rfl, hQ3, lx, ly, ox, oy, k6, hw⟩; have K1' := Box3.wr (W := w5.drew) K1 hw (by omega); have K2' := Box3.wr (W := w5.drew) K2 hw (by omega); have K3' := Box3.wr (W := w5.drew) K3 hw (by omega); obtain ⟨⟨h10, h11, h12⟩, g10, g11, g12⟩ := K1'; obtain ⟨⟨h20, h21, h22⟩, g20, g21, g22⟩ := K2'; obtain ⟨⟨h30, h31, h32⟩, g30, g31, g32⟩ := K3'; have K6' := Box3.wr (W := w5.drew) K6 hw (by omega); have K7' := Box3.wr (W := w5.drew) K7 hw (by omega); obtain ⟨⟨x0', x1', x2'⟩, -, -, -⟩ := K6'; obtain ⟨⟨y0', y1', y2'⟩, -, -, -⟩ := K7'; have zq : w5.heap.size ≤ w6.heap.size := hw.size))
  all_goals
    have op' := Own.wr (w := w5.drew) op hw (Nat.le_refl _)
    have oq' := Own.wr (w := w5.drew) oq hw (Nat.le_refl _)
    have ou' := Own.wr (w := w5.drew) ou hw (Nat.le_refl _)
    have ov' := Own.wr (w := w5.drew) ov hw (Nat.le_refl _)
    have hz5 := K7.lt
    have hA6 := below_wr hA.drew hw (by omega) (by show w.heap.size ≤ w5.heap.size; omega)
    have t10 := far3 (r := w.heap.size + 1 + 1) (u := (.bool (sg x).1)) (v := (.slice a3 (sg x).2.length c3)) (x := (.slice b3 (limbs y).length d3)) (by omega) (far3 (r := w.heap.size + 1) (u := (.bool (sg u).1)) (v := (.slice a2 (sg u).2.length c2)) (x := (.slice b2 (limbs v).length d2)) (by omega) (set3_cell0 (u := (.bool (sg p).1)) (v := (.slice a1 (sg p).2.length c1)) (z := (.slice b1 (limbs q).length d1)) (h10)))
    have t11 := far3 (r := w.heap.size + 1 + 1) (u := (.bool (sg x).1)) (v := (.slice a3 (sg x).2.length c3)) (x := (.slice b3 (limbs y).length d3)) (by omega) (far3 (r := w.heap.size + 1) (u := (.bool (sg u).1)) (v := (.slice a2 (sg u).2.length c2)) (x := (.slice b2 (limbs v).length d2)) (by omega) (set3_cell1 (u := (.bool (sg p).1)) (v := (.slice a1 (sg p).2.length c1)) (z := (.slice b1 (limbs q).length d1)) (h11)))
    have t12 := far3 (r := w.heap.size + 1 + 1) (u := (.bool (sg x).1)) (v := (.slice a3 (sg x).2.length c3)) (x := (.slice b3 (limbs y).length d3)) (by omega) (far3 (r := w.heap.size + 1) (u := (.bool (sg u).1)) (v := (.slice a2 (sg u).2.length c2)) (x := (.slice b2 (limbs v).length d2)) (by omega) (set3_cell2 (u := (.bool (sg p).1)) (v := (.slice a1 (sg p).2.length c1)) (z := (.slice b1 (limbs q).length d1)) (h12)))
    have t20 := far3 (r := w.heap.size + 1 + 1) (u := (.bool (sg x).1)) (v := (.slice a3 (sg x).2.length c3)) (x := (.slice b3 (limbs y).length d3)) (by omega) (set3_cell0 (u := (.bool (sg u).1)) (v := (.slice a2 (sg u).2.length c2)) (z := (.slice b2 (limbs v).length d2)) (far3 (r := w.heap.size) (u := (.bool (sg p).1)) (v := (.slice a1 (sg p).2.length c1)) (x := (.slice b1 (limbs q).length d1)) (by omega) (h20)))
    have t21 := far3 (r := w.heap.size + 1 + 1) (u := (.bool (sg x).1)) (v := (.slice a3 (sg x).2.length c3)) (x := (.slice b3 (limbs y).length d3)) (by omega) (set3_cell1 (u := (.bool (sg u).1)) (v := (.slice a2 (sg u).2.length c2)) (z := (.slice b2 (limbs v).length d2)) (far3 (r := w.heap.size) (u := (.bool (sg p).1)) (v := (.slice a1 (sg p).2.length c1)) (x := (.slice b1 (limbs q).length d1)) (by omega) (h21)))
    have t22 := far3 (r := w.heap.size + 1 + 1) (u := (.bool (sg x).1)) (v := (.slice a3 (sg x).2.length c3)) (x := (.slice b3 (limbs y).length d3)) (by omega) (set3_cell2 (u := (.bool (sg u).1)) (v := (.slice a2 (sg u).2.length c2)) (z := (.slice b2 (limbs v).length d2)) (far3 (r := w.heap.size) (u := (.bool (sg p).1)) (v := (.slice a1 (sg p).2.length c1)) (x := (.slice b1 (limbs q).length d1)) (by omega) (h22)))
    have t30 := set3_cell0 (u := (.bool (sg x).1)) (v := (.slice a3 (sg x).2.length c3)) (z := (.slice b3 (limbs y).length d3)) (far3 (r := w.heap.size + 1) (u := (.bool (sg u).1)) (v := (.slice a2 (sg u).2.length c2)) (x := (.slice b2 (limbs v).length d2)) (by omega) (far3 (r := w.heap.size) (u := (.bool (sg p).1)) (v := (.slice a1 (sg p).2.length c1)) (x := (.slice b1 (limbs q).length d1)) (by omega) (h30)))
    have t31 := set3_cell1 (u := (.bool (sg x).1)) (v := (.slice a3 (sg x).2.length c3)) (z := (.slice b3 (limbs y).length d3)) (far3 (r := w.heap.size + 1) (u := (.bool (sg u).1)) (v := (.slice a2 (sg u).2.length c2)) (x := (.slice b2 (limbs v).length d2)) (by omega) (far3 (r := w.heap.size) (u := (.bool (sg p).1)) (v := (.slice a1 (sg p).2.length c1)) (x := (.slice b1 (limbs q).length d1)) (by omega) (h31)))
    have t32 := set3_cell2 (u := (.bool (sg x).1)) (v := (.slice a3 (sg x).2.length c3)) (z := (.slice b3 (limbs y).length d3)) (far3 (r := w.heap.size + 1) (u := (.bool (sg u).1)) (v := (.slice a2 (sg u).2.length c2)) (x := (.slice b2 (limbs v).length d2)) (by omega) (far3 (r := w.heap.size) (u := (.bool (sg p).1)) (v := (.slice a1 (sg p).2.length c1)) (x := (.slice b1 (limbs q).length d1)) (by omega) (h32)))
    go_wp2
    refine bodyPost_ret (v := .tuple #[.agg #[.bool (sg p).1, .slice a1 (sg p).2.length c1, .slice b1 (limbs q).length d1], .agg #[.bool (sg u).1, .slice a2 (sg u).2.length c2, .slice b2 (limbs v).length d2], .agg #[.bool (sg x).1, .slice a3 (sg x).2.length c3, .slice b3 (limbs y).length d3]]) (by simp [results, Tryz.results4, go_sem, t10, t11, t12, t20, t21, t22, t30, t31, t32]) rfl
      ⟨⟨p, u, x, q, v, y, a1, c1, b1, d1, a2, c2, b2, d2, a3, c3, b3, d3, rfl, ⟨hQ1, lp, lq⟩, ⟨hQ2, lu, lv⟩, ⟨hQ3, lx, ly⟩, ⟨?_, ?_⟩, ⟨?_, ?_⟩, ⟨?_, ?_⟩⟩, set3_below (set3_below (set3_below hA6 (by omega)) (by omega)) (by omega)⟩
    · exact (set3_own (set3_own (set3_own (B0 := B + 1) op' (by omega) (Nat.le_refl _)) (by omega) (Nat.le_refl _)) (by omega) (Nat.le_refl _)).inn (by omega)
    · exact (set3_own (set3_own (set3_own (B0 := B + 1) oq' (by omega) (Nat.le_refl _)) (by omega) (Nat.le_refl _)) (by omega) (Nat.le_refl _)).inn (by omega)
    · exact (set3_own (set3_own (set3_own (B0 := B + 1) ou' (by omega) (Nat.le_refl _)) (by omega) (Nat.le_refl _)) (by omega) (Nat.le_refl _)).inn (by omega)
    · exact (set3_own (set3_own (set3_own (B0 := B + 1) ov' (by omega) (Nat.le_refl _)) (by omega) (Nat.le_refl _)) (by omega) (Nat.le_refl _)).inn (by omega)
    · exact (set3_own (set3_own (set3_own (B0 := w5.heap.size) ox (by omega) (Nat.le_refl _)) (by omega) (Nat.le_refl _)) (by omega) (Nat.le_refl _)).inn (by omega)
    · exact (set3_own (set3_own (set3_own (B0 := w5.heap.size) oy (by omega) (Nat.le_refl _)) (by omega) (Nat.le_refl _)) (by omega) (Nat.le_refl _)).inn (by omega)
end Go.Proofs.YtogkonenejfgmaaGreatDoor
