/- The walk of RatMul (program). (Printed by gen_rat2.py.) The walk of ratNeg and RatNeg (program). (Printed by gen_rat2.py.) -/
import Derived.Test.YtogkonenejfgmaaGreatDoorM25
import Derived.Test.YtogkonenejfgmaaGreatDoorM26
namespace Go.Proofs.YtogkonenejfgmaaGreatDoor
open Go.RowKit
set_option linter.unusedVariables false
set_option linter.unusedSimpArgs false in
set_option maxRecDepth 100000 in
set_option maxHeartbeats 40000000 in
theorem impl_RatMul (n1 : Bool) (a1 : Option Addr) (c1 : Nat) (xs : List Int) (b1 : Option Addr) (d1 : Nat) (ys : List Int) (n2 : Bool) (a2 : Option Addr) (c2 : Nat) (us : List Int) (b2 : Option Addr) (d2 : Nat) (vs : List Int) (w : World) (hx : In w a1 c1 xs) (hy : In w b1 d1 ys) (hu : In w a2 c2 us) (hv : In w b2 d2 vs) :
    Calls Tryz.prog 6 #[.agg #[.bool n1, .slice a1 xs.length c1, .slice b1 ys.length d1], .agg #[.bool n2, .slice a2 us.length c2, .slice b2 vs.length d2]] w fun e w' => RatPost2 w (fRatMul n1 xs ys n2 us vs) e w' := by
  have hA := (((bel_alloc w (.cells #[.bool n1, .slice a1 xs.length c1, .slice b1 ys.length d1] 27)).trans ((bel_alloc _ (.cells #[.bool n2, .slice a2 us.length c2, .slice b2 vs.length d2] 27)).mono (by simp))).trans ((bel_alloc _ (.cells #[.bool false, .slice none 0 0, .slice none 0 0] 27)).mono (by simp; omega)))
  have hzA : w.heap.size + 3 ≤ (World.alloc (World.alloc (World.alloc w (.cells #[.bool n1, .slice a1 xs.length c1, .slice b1 ys.length d1] 27)) (.cells #[.bool n2, .slice a2 us.length c2, .slice b2 vs.length d2] 27)) (.cells #[.bool false, .slice none 0 0, .slice none 0 0] 27)).heap.size := by simp only [World.size_alloc]; omega
  have Q1 := (((Box3.new w (.bool n1) (.slice a1 xs.length c1) (.slice b1 ys.length d1) 27 (w.heap.size) (by simp)).below (bel_alloc _ (.cells #[.bool n2, .slice a2 us.length c2, .slice b2 vs.length d2] 27)) (Nat.le_refl _)).below (bel_alloc _ (.cells #[.bool false, .slice none 0 0, .slice none 0 0] 27)) (Nat.le_refl _))
  have Q2 := ((Box3.new (World.alloc w (.cells #[.bool n1, .slice a1 xs.length c1, .slice b1 ys.length d1] 27)) (.bool n2) (.slice a2 us.length c2) (.slice b2 vs.length d2) 27 (w.heap.size + 1) (by simp)).below (bel_alloc _ (.cells #[.bool false, .slice none 0 0, .slice none 0 0] 27)) (Nat.le_refl _))
  have hR := (Box3.new (World.alloc (World.alloc w (.cells #[.bool n1, .slice a1 xs.length c1, .slice b1 ys.length d1] 27)) (.cells #[.bool n2, .slice a2 us.length c2, .slice b2 vs.length d2] 27)) (.bool false) (.slice none 0 0) (.slice none 0 0) 27 (w.heap.size + 1 + 1) (by simp))
  have HX := Lib.hid (hx.below hA (Nat.le_refl _))
  have HY := Lib.hid (hy.below hA (Nat.le_refl _))
  have HU := Lib.hid (hu.below hA (Nat.le_refl _))
  have HV := Lib.hid (hv.below hA (Nat.le_refl _))
  cases h1 : ratB n1 xs ys
  · have hF0 := Lib.hid (show fRatMul n1 xs ys n2 us vs = ratZ by unfold fRatMul; rw [h1]; rfl)
    go_enter Tryz.func6, Tryz.ntmps6
    go_wp2_with fail
    refine (ratsOk_any _ _ _ _ _ _ _ _ _ _ _ _ _ _ _ HX.out HY.out HU.out HV.out).mono ?_
    rintro e w1 ⟨rfl, hb⟩
    rw [h1]
    have zw1 := hb.size
    replace Q1 := Q1.below hb (Nat.le_refl _)
    replace Q2 := Q2.below hb (Nat.le_refl _)
    replace hR := hR.below hb (Nat.le_refl _)
    replace HX := Lib.hid (HX.out.below hb (Nat.le_refl _))
    replace HY := Lib.hid (HY.out.below hb (Nat.le_refl _))
    replace HU := Lib.hid (HU.out.below hb (Nat.le_refl _))
    replace HV := Lib.hid (HV.out.below hb (Nat.le_refl _))
    have hB := hA.trans (hb.mono hA.size)
    clear hb
    have hRk := hR
    obtain ⟨⟨hrc0, hrc1, hrc2⟩, hrf0, hrf1, hrf2⟩ := hRk
    go_wp2
    refine bodyPost_ret (v := .tuple #[.agg #[.bool false, .slice none 0 0, .slice none 0 0], .bool false]) (by simp [results, Tryz.results6, go_sem, hrc0, hrc1, hrc2]) rfl ?_
    rw [hF0.out]
    exact ratPost2_zero (set3_below hB (by omega))
  cases h2 : ratB n2 us vs
  · have hF0 := Lib.hid (show fRatMul n1 xs ys n2 us vs = ratZ by unfold fRatMul; rw [h1, h2]; rfl)
    go_enter Tryz.func6, Tryz.ntmps6
    go_wp2_with fail
    refine (ratsOk_any _ _ _ _ _ _ _ _ _ _ _ _ _ _ _ HX.out HY.out HU.out HV.out).mono ?_
    rintro e w1 ⟨rfl, hb⟩
    rw [h1]
    rw [h2]
    have zw1 := hb.size
    replace Q1 := Q1.below hb (Nat.le_refl _)
    replace Q2 := Q2.below hb (Nat.le_refl _)
    replace hR := hR.below hb (Nat.le_refl _)
    replace HX := Lib.hid (HX.out.below hb (Nat.le_refl _))
    replace HY := Lib.hid (HY.out.below hb (Nat.le_refl _))
    replace HU := Lib.hid (HU.out.below hb (Nat.le_refl _))
    replace HV := Lib.hid (HV.out.below hb (Nat.le_refl _))
    have hB := hA.trans (hb.mono hA.size)
    clear hb
    have hRk := hR
    obtain ⟨⟨hrc0, hrc1, hrc2⟩, hrf0, hrf1, hrf2⟩ := hRk
    go_wp2
    refine bodyPost_ret (v := .tuple #[.agg #[.bool false, .slice none 0 0, .slice none 0 0], .bool false]) (by simp [results, Tryz.results6, go_sem, hrc0, hrc1, hrc2]) rfl ?_
    rw [hF0.out]
    exact ratPost2_zero (set3_below hB (by omega))
  obtain ⟨m, n, rfl, rfl, lm, ln, hn0, -, -, -, -, -, -⟩ := ratB_elim h1
  obtain ⟨k, l, rfl, rfl, lk, ll, hl0, -, -, -, -, -, -⟩ := ratB_elim h2
  have len_mk := len_mul m k
  have len_nl := len_mul n l
  have hnl : 0 < n * l := Nat.mul_pos hn0 hl0
  obtain ⟨FX, hFX⟩ : ∃ F, F = low (n1 != n2) (m * k) (n * l) := ⟨_, rfl⟩
  have hF := Lib.hid (show fRatMul n1 (limbs m) (limbs n) n2 (limbs k) (limbs l) = FX by unfold fRatMul; rw [h1, h2, nv_limbs, nv_limbs, nv_limbs, nv_limbs, hFX]; rfl)
  go_enter Tryz.func6, Tryz.ntmps6
  go_wp2_with fail
  refine (ratsOk_any _ _ _ _ _ _ _ _ _ _ _ _ _ _ _ HX.out HY.out HU.out HV.out).mono ?_
  rintro e w1 ⟨rfl, hb⟩
  rw [h1]
  rw [h2]
  have zw1 := hb.size
  replace Q1 := Q1.below hb (Nat.le_refl _)
  replace Q2 := Q2.below hb (Nat.le_refl _)
  replace hR := hR.below hb (Nat.le_refl _)
  replace HX := Lib.hid (HX.out.below hb (Nat.le_refl _))
  replace HY := Lib.hid (HY.out.below hb (Nat.le_refl _))
  replace HU := Lib.hid (HU.out.below hb (Nat.le_refl _))
  replace HV := Lib.hid (HV.out.below hb (Nat.le_refl _))
  have hB := hA.trans (hb.mono hA.size)
  clear hb
  replace hFX := Lib.hid hFX
  go_wp2_with fail
  have nq0 : w.heap.size + 1 + 1 ≠ w.heap.size := by omega
  have nq1 : w.heap.size + 1 + 1 ≠ w.heap.size + 1 := by omega
  have hbq : Below w1.heap.size w1 (World.drew w1) := (Below.refl _ _).drew
  go_region_held3 (fun w' => w'.cell? ⟨w.heap.size, 0, none⟩ = some (.bool n1) ∧ w'.cell? ⟨w.heap.size, 1, none⟩ = some (.slice a1 (limbs m).length c1) ∧ w'.cell? ⟨w.heap.size, 2, none⟩ = some (.slice b1 (limbs n).length d1) ∧ w'.cell? ⟨w.heap.size + 1, 0, none⟩ = some (.bool n2) ∧ w'.cell? ⟨w.heap.size + 1, 1, none⟩ = some (.slice a2 (limbs k).length c2) ∧ w'.cell? ⟨w.heap.size + 1, 2, none⟩ = some (.slice b2 (limbs l).length d2))
    (first | (with_reducible exact ⟨far3 nq0 (cell_keep hbq Q1.1.1 (Nat.le_refl _)), far3 nq0 (cell_keep hbq Q1.1.2.1 (Nat.le_refl _)), far3 nq0 (cell_keep hbq Q1.1.2.2 (Nat.le_refl _)), far3 nq1 (cell_keep hbq Q2.1.1 (Nat.le_refl _)), far3 nq1 (cell_keep hbq Q2.1.2.1 (Nat.le_refl _)), far3 nq1 (cell_keep hbq Q2.1.2.2 (Nat.le_refl _))⟩) | (exact ⟨cell_keep hbq Q1.1.1 (Nat.le_refl _), cell_keep hbq Q1.1.2.1 (Nat.le_refl _), cell_keep hbq Q1.1.2.2 (Nat.le_refl _), cell_keep hbq Q2.1.1 (Nat.le_refl _), cell_keep hbq Q2.1.2.1 (Nat.le_refl _), cell_keep hbq Q2.1.2.2 (Nat.le_refl _)⟩) | (exact ⟨Q1.1.1, Q1.1.2.1, Q1.1.2.2, Q2.1.1, Q2.1.2.1, Q2.1.2.2⟩) | go_keep)
    (first | (go_at_call 18; refine (reduce_F (n1 != n2) _ _ (m * k) _ _ (n * l) _ FX hFX.out ho1.1 ho2.1 (by omega) (by omega) hnl).mono ?_; rintro e qL ⟨⟨ea, ga, eb, gb, lo, up, lo2, up2, rfl, s1, l1, s2, l2, k1, k2, hd⟩, hq⟩; have zpL := hbq.size; have zsL := hq.size; replace hbq := hbq.trans (hq.mono hbq.size); clear hq; have hRq := hR.below hbq (Nat.le_refl _); obtain ⟨⟨hrc0, hrc1, hrc2⟩, hrf0, hrf1, hrf2⟩ := hRq) | (go_at_call 21; refine (intMul_n n1 n2 a1 a2 c1 c2 m k _ (HX.out.below hbq (Nat.le_refl _)) (HU.out.below hbq (Nat.le_refl _)) (by omega) (by omega)).mono ?_; rintro e qA ⟨⟨e1, g1, rfl, ho1⟩, hq⟩; have zpA := hbq.size; (try replace ho2 := ho2.below hq (Nat.le_refl _)); have zsA := hq.size; replace hbq := hbq.trans (hq.mono hbq.size); clear hq) | (go_at_call 20; refine (natMul_n b1 b2 d1 d2 n l _ (HY.out.below hbq (Nat.le_refl _)) (HV.out.below hbq (Nat.le_refl _)) (by omega) (by omega)).mono ?_; rintro e qB ⟨⟨e2, g2, rfl, ho2⟩, hq⟩; have zpB := hbq.size; (try replace ho1 := ho1.below hq (Nat.le_refl _)); have zsB := hq.size; replace hbq := hbq.trans (hq.mono hbq.size); clear hq))
  all_goals
    go_wp2
    refine bodyPost_ret (v := .tuple #[.agg #[.bool FX.1.1, .slice ea FX.1.2.1.length ga, .slice eb FX.1.2.2.length gb], .bool FX.2]) (by simp [results, Tryz.results6, go_sem, hrc0, hrc1, hrc2]) rfl ?_
    rw [hF.out]
    exact ⟨⟨ea, ga, eb, gb, lo, up, lo2, up2, rfl, s1.set3 (by omega), l1, s2.set3 (by omega), l2, by omega, by omega, hd⟩, set3_below (hB.trans (hbq.mono hB.size)) (by omega)⟩
end Go.Proofs.YtogkonenejfgmaaGreatDoor
namespace Go.Proofs.YtogkonenejfgmaaGreatDoor
open Go.RowKit
set_option linter.unusedVariables false
set_option linter.unusedSimpArgs false in
set_option maxRecDepth 100000 in
set_option maxHeartbeats 40000000 in
theorem ratNeg_any (n1 : Bool) (a1 : Option Addr) (c1 : Nat) (xs : List Int) (b1 : Option Addr) (d1 : Nat) (ys : List Int) (w : World) (lx : xs.length ≤ 50) (ly : ys.length ≤ 50) (hx : In w a1 c1 xs) (hy : In w b1 d1 ys) :
    Calls Tryz.prog 23 #[.agg #[.bool n1, .slice a1 xs.length c1, .slice b1 ys.length d1]] w fun e w' => RatPost w ((!n1) && decide (0 < xs.length), xs, ys) e w' := by
  have hA := ((bel_alloc w (.cells #[.bool n1, .slice a1 xs.length c1, .slice b1 ys.length d1] 27)).trans ((bel_alloc _ (.cells #[.bool false, .slice none 0 0, .slice none 0 0] 27)).mono (by simp)))
  have hzA : w.heap.size + 2 ≤ (World.alloc (World.alloc w (.cells #[.bool n1, .slice a1 xs.length c1, .slice b1 ys.length d1] 27)) (.cells #[.bool false, .slice none 0 0, .slice none 0 0] 27)).heap.size := by simp only [World.size_alloc]; omega
  have Q1 := ((Box3.new w (.bool n1) (.slice a1 xs.length c1) (.slice b1 ys.length d1) 27 (w.heap.size) (by simp)).below (bel_alloc _ (.cells #[.bool false, .slice none 0 0, .slice none 0 0] 27)) (Nat.le_refl _))
  have hR := (Box3.new (World.alloc w (.cells #[.bool n1, .slice a1 xs.length c1, .slice b1 ys.length d1] 27)) (.bool false) (.slice none 0 0) (.slice none 0 0) 27 (w.heap.size + 1) (by simp))
  have HX := Lib.hid (hx.below hA (Nat.le_refl _))
  have HY := Lib.hid (hy.below hA (Nat.le_refl _))
  go_enter Tryz.func23, Tryz.ntmps23
  go_wp2_with fail
  obtain ⟨W0, hW0⟩ : ∃ x : World, x = (World.alloc (World.alloc w (.cells #[.bool n1, .slice a1 xs.length c1, .slice b1 ys.length d1] 27)) (.cells #[.bool false, .slice none 0 0, .slice none 0 0] 27)) := ⟨_, rfl⟩
  rw [← hW0] at Q1 hR hA hzA HX HY ⊢
  clear hW0
  go_wp2_with fail
  have nq0 : w.heap.size + 1 ≠ w.heap.size := by omega
  have hbq : Below W0.heap.size W0 (World.drew W0) := (Below.refl _ _).drew
  go_region_held3 (fun w' => w'.cell? ⟨w.heap.size, 0, none⟩ = some (.bool n1) ∧ w'.cell? ⟨w.heap.size, 1, none⟩ = some (.slice a1 xs.length c1) ∧ w'.cell? ⟨w.heap.size, 2, none⟩ = some (.slice b1 ys.length d1))
    (first | (with_reducible exact ⟨far3 nq0 (cell_keep hbq Q1.1.1 (Nat.le_refl _)), far3 nq0 (cell_keep hbq Q1.1.2.1 (Nat.le_refl _)), far3 nq0 (cell_keep hbq Q1.1.2.2 (Nat.le_refl _))⟩) | (exact ⟨cell_keep hbq Q1.1.1 (Nat.le_refl _), cell_keep hbq Q1.1.2.1 (Nat.le_refl _), cell_keep hbq Q1.1.2.2 (Nat.le_refl _)⟩) | (exact ⟨Q1.1.1, Q1.1.2.1, Q1.1.2.2⟩) | go_keep)
    (first | (go_at_call 46; refine (intNeg_any n1 a1 c1 xs _ (HX.out.below hbq (Nat.le_refl _))).mono ?_; rintro e qA ⟨⟨e1, g1, rfl, ho1⟩, hq⟩; have zpA := hbq.size; (try replace ho2 := ho2.below hq ho2.1); have zsA := hq.size; replace hbq := hbq.trans (hq.mono hbq.size); clear hq; have zq1 := hbq.size; replace ho1 := Slot.of ho1; have u1 := ho1.1; have hRq := hR.below hbq (Nat.le_refl _); obtain ⟨⟨hrc0, hrc1, hrc2⟩, hrf0, hrf1, hrf2⟩ := hRq) | (go_at_call 47; refine (natCopy_any b1 d1 ys _ (HY.out.below hbq (Nat.le_refl _)).1 (by omega)).mono ?_; rintro e qB ⟨⟨e2, g2, rfl, ho2⟩, hq⟩; have zpB := hbq.size; (try replace ho1 := ho1.below hq ho1.1); have zsB := hq.size; replace hbq := hbq.trans (hq.mono hbq.size); clear hq; have zq2 := hbq.size; replace ho2 := Slot.of ho2; have u2 := ho2.1; have hRq := hR.below hbq (Nat.le_refl _); obtain ⟨⟨hrc0, hrc1, hrc2⟩, hrf0, hrf1, hrf2⟩ := hRq))
  all_goals
    go_wp2
    refine bodyPost_ret (v := .agg #[.bool ((!n1) && decide (0 < xs.length)), .slice e1 xs.length g1, .slice e2 ys.length g2]) (by simp [results, Tryz.results23, go_sem, hrc0, hrc1, hrc2]) rfl ?_
    exact ratPost_set (F := ((!n1) && decide (0 < xs.length), xs, ys)) ho1 lx ho2 ly (by omega) (by omega) (by omega) (by omega) (hA.trans (hbq.mono hA.size))
end Go.Proofs.YtogkonenejfgmaaGreatDoor
