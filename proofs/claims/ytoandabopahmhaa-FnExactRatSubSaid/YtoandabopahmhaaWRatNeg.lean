/- The walk of ratNeg and RatNeg (program). (Printed by gen_rat2.py.) -/
import Derived.Test.YtoandabopahmhaaWRatC
namespace Go.Proofs.Ytoandabopahmhaa
open Go.RowKit
set_option linter.unusedVariables false
set_option linter.unusedSimpArgs false in
set_option maxRecDepth 100000 in
set_option maxHeartbeats 40000000 in
theorem ratNeg_any (n1 : Bool) (a1 : Option Addr) (c1 : Nat) (xs : List Int) (b1 : Option Addr) (d1 : Nat) (ys : List Int) (w : World) (lx : xs.length ≤ 50) (ly : ys.length ≤ 50) (hx : In w a1 c1 xs) (hy : In w b1 d1 ys) :
    Calls Try.prog 77 #[.agg #[.bool n1, .slice a1 xs.length c1, .slice b1 ys.length d1]] w fun e w' => RatPost w ((!n1) && decide (0 < xs.length), xs, ys) e w' := by
  have hA := ((bel_alloc w (.cells #[.bool n1, .slice a1 xs.length c1, .slice b1 ys.length d1] 31)).trans ((bel_alloc _ (.cells #[.bool false, .slice none 0 0, .slice none 0 0] 31)).mono (by simp)))
  have hzA : w.heap.size + 2 ≤ (World.alloc (World.alloc w (.cells #[.bool n1, .slice a1 xs.length c1, .slice b1 ys.length d1] 31)) (.cells #[.bool false, .slice none 0 0, .slice none 0 0] 31)).heap.size := by simp only [World.size_alloc]; omega
  have Q1 := ((Box3.new w (.bool n1) (.slice a1 xs.length c1) (.slice b1 ys.length d1) 31 (w.heap.size) (by simp)).below (bel_alloc _ (.cells #[.bool false, .slice none 0 0, .slice none 0 0] 31)) (Nat.le_refl _))
  have hR := (Box3.new (World.alloc w (.cells #[.bool n1, .slice a1 xs.length c1, .slice b1 ys.length d1] 31)) (.bool false) (.slice none 0 0) (.slice none 0 0) 31 (w.heap.size + 1) (by simp))
  have HX := Lib.hid (hx.below hA (Nat.le_refl _))
  have HY := Lib.hid (hy.below hA (Nat.le_refl _))
  go_enter Try.func77, Try.ntmps77
  go_wp2_with fail
  obtain ⟨W0, hW0⟩ : ∃ x : World, x = (World.alloc (World.alloc w (.cells #[.bool n1, .slice a1 xs.length c1, .slice b1 ys.length d1] 31)) (.cells #[.bool false, .slice none 0 0, .slice none 0 0] 31)) := ⟨_, rfl⟩
  rw [← hW0] at Q1 hR hA hzA HX HY ⊢
  clear hW0
  go_wp2_with fail
  have nq0 : w.heap.size + 1 ≠ w.heap.size := by omega
  have hbq : Below W0.heap.size W0 (World.drew W0) := (Below.refl _ _).drew
  go_region_held3 (fun w' => w'.cell? ⟨w.heap.size, 0, none⟩ = some (.bool n1) ∧ w'.cell? ⟨w.heap.size, 1, none⟩ = some (.slice a1 xs.length c1) ∧ w'.cell? ⟨w.heap.size, 2, none⟩ = some (.slice b1 ys.length d1))
    (first | (with_reducible exact ⟨far3 nq0 (cell_keep hbq Q1.1.1 (Nat.le_refl _)), far3 nq0 (cell_keep hbq Q1.1.2.1 (Nat.le_refl _)), far3 nq0 (cell_keep hbq Q1.1.2.2 (Nat.le_refl _))⟩) | (exact ⟨cell_keep hbq Q1.1.1 (Nat.le_refl _), cell_keep hbq Q1.1.2.1 (Nat.le_refl _), cell_keep hbq Q1.1.2.2 (Nat.le_refl _)⟩) | (exact ⟨Q1.1.1, Q1.1.2.1, Q1.1.2.2⟩) | go_keep)
    (first | (go_at_call 98; refine (intNeg_any n1 a1 c1 xs _ (HX.out.below hbq (Nat.le_refl _))).mono ?_; rintro e qA ⟨⟨e1, g1, rfl, ho1⟩, hq⟩; have zpA := hbq.size; (try replace ho2 := ho2.below hq ho2.1); have zsA := hq.size; replace hbq := hbq.trans (hq.mono hbq.size); clear hq; have zq1 := hbq.size; replace ho1 := Slot.of ho1; have u1 := ho1.1; have hRq := hR.below hbq (Nat.le_refl _); obtain ⟨⟨hrc0, hrc1, hrc2⟩, hrf0, hrf1, hrf2⟩ := hRq) | (go_at_call 96; refine (natCopy_any b1 d1 ys _ (HY.out.below hbq (Nat.le_refl _)).1 (by omega)).mono ?_; rintro e qB ⟨⟨e2, g2, rfl, ho2⟩, hq⟩; have zpB := hbq.size; (try replace ho1 := ho1.below hq ho1.1); have zsB := hq.size; replace hbq := hbq.trans (hq.mono hbq.size); clear hq; have zq2 := hbq.size; replace ho2 := Slot.of ho2; have u2 := ho2.1; have hRq := hR.below hbq (Nat.le_refl _); obtain ⟨⟨hrc0, hrc1, hrc2⟩, hrf0, hrf1, hrf2⟩ := hRq))
  all_goals
    go_wp2
    refine bodyPost_ret (v := .agg #[.bool ((!n1) && decide (0 < xs.length)), .slice e1 xs.length g1, .slice e2 ys.length g2]) (by simp [results, Try.results77, go_sem, hrc0, hrc1, hrc2]) rfl ?_
    exact ratPost_set (F := ((!n1) && decide (0 < xs.length), xs, ys)) ho1 lx ho2 ly (by omega) (by omega) (by omega) (by omega) (hA.trans (hbq.mono hA.size))
set_option linter.unusedSimpArgs false in
set_option maxRecDepth 100000 in
set_option maxHeartbeats 40000000 in
theorem impl_RatNeg (n1 : Bool) (a1 : Option Addr) (c1 : Nat) (xs : List Int) (b1 : Option Addr) (d1 : Nat) (ys : List Int) (w : World) (hx : In w a1 c1 xs) (hy : In w b1 d1 ys) :
    Calls Try.prog 35 #[.agg #[.bool n1, .slice a1 xs.length c1, .slice b1 ys.length d1]] w fun e w' => RatPost2 w (fRatNeg n1 xs ys) e w' := by
  have hA := ((bel_alloc w (.cells #[.bool n1, .slice a1 xs.length c1, .slice b1 ys.length d1] 31)).trans ((bel_alloc _ (.cells #[.bool false, .slice none 0 0, .slice none 0 0] 31)).mono (by simp)))
  have hzA : w.heap.size + 2 ≤ (World.alloc (World.alloc w (.cells #[.bool n1, .slice a1 xs.length c1, .slice b1 ys.length d1] 31)) (.cells #[.bool false, .slice none 0 0, .slice none 0 0] 31)).heap.size := by simp only [World.size_alloc]; omega
  have Q1 := ((Box3.new w (.bool n1) (.slice a1 xs.length c1) (.slice b1 ys.length d1) 31 (w.heap.size) (by simp)).below (bel_alloc _ (.cells #[.bool false, .slice none 0 0, .slice none 0 0] 31)) (Nat.le_refl _))
  have hR := (Box3.new (World.alloc w (.cells #[.bool n1, .slice a1 xs.length c1, .slice b1 ys.length d1] 31)) (.bool false) (.slice none 0 0) (.slice none 0 0) 31 (w.heap.size + 1) (by simp))
  have HX := Lib.hid (hx.below hA (Nat.le_refl _))
  have HY := Lib.hid (hy.below hA (Nat.le_refl _))
  cases h1 : ratB n1 xs ys
  · have hF0 := Lib.hid (show fRatNeg n1 xs ys = ratZ by unfold fRatNeg; rw [h1]; rfl)
    go_enter Try.func35, Try.ntmps35
    go_wp2_with fail
    refine (impl_RatOk _ _ _ _ _ _ _ _ HX.out HY.out).mono ?_
    rintro e w1 ⟨rfl, hb⟩
    rw [h1]
    have zw1 := hb.size
    replace Q1 := Q1.below hb (Nat.le_refl _)
    replace hR := hR.below hb (Nat.le_refl _)
    replace HX := Lib.hid (HX.out.below hb (Nat.le_refl _))
    replace HY := Lib.hid (HY.out.below hb (Nat.le_refl _))
    have hB := hA.trans (hb.mono hA.size)
    clear hb
    have hRk := hR
    obtain ⟨⟨hrc0, hrc1, hrc2⟩, hrf0, hrf1, hrf2⟩ := hRk
    go_wp2
    refine bodyPost_ret (v := .tuple #[.agg #[.bool false, .slice none 0 0, .slice none 0 0], .bool false]) (by simp [results, Try.results35, go_sem, hrc0, hrc1, hrc2]) rfl ?_
    rw [hF0.out]
    exact ratPost2_zero (set3_below hB (by omega))
  have hF := Lib.hid (show fRatNeg n1 xs ys = (((!n1) && decide (0 < xs.length), xs, ys), true) by unfold fRatNeg; rw [h1]; rfl)
  have ⟨lx, ly⟩ := ratB_len h1
  go_enter Try.func35, Try.ntmps35
  go_wp2_with fail
  refine (impl_RatOk _ _ _ _ _ _ _ _ HX.out HY.out).mono ?_
  rintro e w1 ⟨rfl, hb⟩
  rw [h1]
  have zw1 := hb.size
  replace Q1 := Q1.below hb (Nat.le_refl _)
  replace hR := hR.below hb (Nat.le_refl _)
  replace HX := Lib.hid (HX.out.below hb (Nat.le_refl _))
  replace HY := Lib.hid (HY.out.below hb (Nat.le_refl _))
  have hB := hA.trans (hb.mono hA.size)
  clear hb
  have Q1k := Q1
  obtain ⟨⟨q1c0, q1c1, q1c2⟩, q1f0, q1f1, q1f2⟩ := Q1k
  go_wp2_with fail
  refine (ratNeg_any _ _ _ _ _ _ _ _ (by omega) (by omega) HX.out HY.out).mono ?_
  rintro e w3 ⟨⟨ea, ga, eb, gb, lo, up, lo2, up2, rfl, s1, l1, s2, l2, k1, k2, hd⟩, hb⟩
  clear q1c0 q1f0 q1c1 q1f1 q1c2 q1f2
  have zw3 := hb.size
  replace Q1 := Q1.below hb (Nat.le_refl _)
  replace hR := hR.below hb (Nat.le_refl _)
  replace HX := Lib.hid (HX.out.below hb (Nat.le_refl _))
  replace HY := Lib.hid (HY.out.below hb (Nat.le_refl _))
  replace hB := hB.trans (hb.mono hB.size)
  clear hb
  have hRk := hR
  obtain ⟨⟨hrc0, hrc1, hrc2⟩, hrf0, hrf1, hrf2⟩ := hRk
  go_wp2
  refine bodyPost_ret (v := .tuple #[.agg #[.bool ((!n1) && decide (0 < xs.length)), .slice ea xs.length ga, .slice eb ys.length gb], .bool true]) (by simp [results, Try.results35, go_sem, hrc0, hrc1, hrc2]) rfl ?_
  rw [hF.out]
  exact ⟨⟨ea, ga, eb, gb, lo, up, lo2, up2, rfl, s1.set3 (by omega), by dsimp only; omega, s2.set3 (by omega), by dsimp only; omega, by omega, by omega, hd⟩, set3_below hB (by omega)⟩
end Go.Proofs.Ytoandabopahmhaa
