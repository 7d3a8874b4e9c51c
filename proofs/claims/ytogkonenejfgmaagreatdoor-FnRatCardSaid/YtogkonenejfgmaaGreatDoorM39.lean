/- The walk of RatDiv (program). (Printed by gen_rat2.py.) The walk of RatCmp (program). (Printed by gen_rat2.py.) -/
import Derived.Test.YtogkonenejfgmaaGreatDoorM25
import Derived.Test.YtogkonenejfgmaaGreatDoorM26
namespace Go.Proofs.YtogkonenejfgmaaGreatDoor
open Go.RowKit
set_option linter.unusedVariables false
set_option linter.unusedSimpArgs false in
set_option maxRecDepth 100000 in
set_option maxHeartbeats 40000000 in
theorem impl_RatDiv (n1 : Bool) (a1 : Option Addr) (c1 : Nat) (xs : List Int) (b1 : Option Addr) (d1 : Nat) (ys : List Int) (n2 : Bool) (a2 : Option Addr) (c2 : Nat) (us : List Int) (b2 : Option Addr) (d2 : Nat) (vs : List Int) (w : World) (hx : In w a1 c1 xs) (hy : In w b1 d1 ys) (hu : In w a2 c2 us) (hv : In w b2 d2 vs) :
    Calls Tryz.prog 11 #[.agg #[.bool n1, .slice a1 xs.length c1, .slice b1 ys.length d1], .agg #[.bool n2, .slice a2 us.length c2, .slice b2 vs.length d2]] w fun e w' => RatPost2 w (fRatDiv n1 xs ys n2 us vs) e w' := by
  have hA := (((bel_alloc w (.cells #[.bool n1, .slice a1 xs.length c1, .slice b1 ys.length d1] 27)).trans ((bel_alloc _ (.cells #[.bool n2, .slice a2 us.length c2, .slice b2 vs.length d2] 27)).mono (by simp))).trans ((bel_alloc _ (.cells #[.bool false, .slice none 0 0, .slice none 0 0] 27)).mono (by simp; omega)))
  have hzA : w.heap.size + 3 ≤ (World.alloc (World.alloc (World.alloc w (.cells #[.bool n1, .slice a1 xs.length c1, .slice b1 ys.length d1] 27)) (.cells #[.bool n2, .slice a2 us.length c2, .slice b2 vs.length d2] 27)) (.cells #[.bool false, .slice none 0 0, .slice none 0 0] 27)).heap.size := by simp only [World.size_alloc]; omega
  have Q1 := (((Box3.new w (.bool n1) (.slice a1 xs.length c1) (.slice b1 ys.length d1) 27 (w.heap.size) (by simp)).below (bel_alloc _ (.cells #[.bool n2, .slice a2 us.length c2, .slice b2 vs.length d2] 27)) (Nat.le_refl _)).below (bel_alloc _ (.cells #[.bool false, .slice none 0 0, .slice none 0 0] 27)) (Nat.le_refl _))
  have Q2 := ((Box3.new (World.alloc w (.cells #[.bool n1, .slice a1 xs.length c1, .slice b1 ys.length d1] 27)) (.bool n2) (.slice a2 us.length c2) (.slice b2 vs.length d2) 27 (w.heap.size + 1) (by simp)).below (bel_alloc _ (.cells #[.bool false, .slice none 0 0, .slice none 0 0] 27)) (Nat.le_refl _))
  have hR := (Box3.new (World.alloc (World.alloc w (.cells #[.bool n1, .slice a1 xs.length c1, .slice b1 ys.length d1] 27)) (.cells #[.bool n2, .slice a2 us.length c2, .slice b2 vs.length d2] 27)) (.bool false) (.slice none 0 0) (.slice none 0 0) 27 (w.heap.size + 1 + 1) (by simp))
  have HX := Lib.hid (hx.below hA (Nat.le_refl _))
  have HY := Lib.hid (hy.below hA (Nat.le_refl _))
  have HU := Lib.hid (hu.below hA (Nat.le_refl _))
  have HV := Lib.hid (hv.below hA (Nat.le_refl _))
  cases h1 : ratB n1 xs ys
  · have hF0 := Lib.hid (show fRatDiv n1 xs ys n2 us vs = ratZ by unfold fRatDiv; rw [h1]; rfl)
    go_enter Tryz.func11, Tryz.ntmps11
    go_wp2_with fail
    refine (ratsOk_any _ _ _ _ _ _ _ _ _ _ _ _ _ _ _ HX.out HY.out HU.out HV.out).mono ?_
    rintro e w1 ⟨rfl, hb⟩
    rw [h1]
    have zw1 := hb.size
    replace Q1 := Q1.below hb (Nat.le_refl _)
    replace Q2 := Q2.below hb (Nat.le_refl _)
    replace hR := hR.below hb (Nat.le_refl _)
    replace HX := Lib.hid (HX.out.below hb (Nat.le_refl _))
    replace HY := Lib.hid (HY.out.below hb (Nat.le_refl _))
    replace HU := Lib.hid (HU.out.below hb (Nat.le_refl _))
    replace HV := Lib.hid (HV.out.below hb (Nat.le_refl _))
    have hB := hA.trans (hb.mono hA.size)
    clear hb
    have hRk := hR
    obtain ⟨⟨hrc0, hrc1, hrc2⟩, hrf0, hrf1, hrf2⟩ := hRk
    go_wp2
    refine bodyPost_ret (v := .tuple #[.agg #[.bool false, .slice none 0 0, .slice none 0 0], .bool false]) (by simp [results, Tryz.results11, go_sem, hrc0, hrc1, hrc2]) rfl ?_
    rw [hF0.out]
    exact ratPost2_zero (set3_below hB (by omega))
  cases h2 : ratB n2 us vs
  · have hF0 := Lib.hid (show fRatDiv n1 xs ys n2 us vs = ratZ by unfold fRatDiv; rw [h1, h2]; rfl)
    go_enter Tryz.func11, Tryz.ntmps11
    go_wp2_with fail
    refine (ratsOk_any _ _ _ _ _ _ _ _ _ _ _ _ _ _ _ HX.out HY.out HU.out HV.out).mono ?_
    rintro e w1 ⟨rfl, hb⟩
    rw [h1]
    rw [h2]
    have zw1 := hb.size
    replace Q1 := Q1.below hb (Nat.le_refl _)
    replace Q2 := Q2.below hb (Nat.le_refl _)
    replace hR := hR.below hb (Nat.le_refl _)
    replace HX := Lib.hid (HX.out.below hb (Nat.le_refl _))
    replace HY := Lib.hid (HY.out.below hb (Nat.le_refl _))
    replace HU := Lib.hid (HU.out.below hb (Nat.le_refl _))
    replace HV := Lib.hid (HV.out.below hb (Nat.le_refl _))
    have hB := hA.trans (hb.mono hA.size)
    clear hb
    have hRk := hR
    obtain ⟨⟨hrc0, hrc1, hrc2⟩, hrf0, hrf1, hrf2⟩ := hRk
    go_wp2
    refine bodyPost_ret (v := .tuple #[.agg #[.bool false, .slice none 0 0, .slice none 0 0], .bool false]) (by simp [results, Tryz.results11, go_sem, hrc0, hrc1, hrc2]) rfl ?_
    rw [hF0.out]
    exact ratPost2_zero (set3_below hB (by omega))
  obtain ⟨m, n, rfl, rfl, lm, ln, hn0, -, -, -, -, -, -⟩ := ratB_elim h1
  obtain ⟨k, l, rfl, rfl, lk, ll, hl0, -, -, -, -, -, -⟩ := ratB_elim h2
  by_cases hk : k = 0
  · subst hk
    have hF0 := Lib.hid (show fRatDiv n1 (limbs m) (limbs n) n2 (limbs 0) (limbs l) = ratZ by unfold fRatDiv; rw [limbs_zero]; simp)
    have z3 : (((limbs 0).length : Int) == 0) = true := by rw [limbs_zero]; rfl
    go_enter Tryz.func11, Tryz.ntmps11
    go_wp2_with fail
    refine (ratsOk_any _ _ _ _ _ _ _ _ _ _ _ _ _ _ _ HX.out HY.out HU.out HV.out).mono ?_
    rintro e w1 ⟨rfl, hb⟩
    rw [h1]
    rw [h2]
    have zw1 := hb.size
    replace Q1 := Q1.below hb (Nat.le_refl _)
    replace Q2 := Q2.below hb (Nat.le_refl _)
    replace hR := hR.below hb (Nat.le_refl _)
    replace HX := Lib.hid (HX.out.below hb (Nat.le_refl _))
    replace HY := Lib.hid (HY.out.below hb (Nat.le_refl _))
    replace HU := Lib.hid (HU.out.below hb (Nat.le_refl _))
    replace HV := Lib.hid (HV.out.below hb (Nat.le_refl _))
    have hB := hA.trans (hb.mono hA.size)
    clear hb
    have hRk := hR
    obtain ⟨⟨hrc0, hrc1, hrc2⟩, hrf0, hrf1, hrf2⟩ := hRk
    have Q2k := Q2
    obtain ⟨⟨q2c0, q2c1, q2c2⟩, q2f0, q2f1, q2f2⟩ := Q2k
    go_wp2
    refine bodyPost_ret (v := .tuple #[.agg #[.bool false, .slice none 0 0, .slice none 0 0], .bool false]) (by simp [results, Tryz.results11, go_sem, hrc0, hrc1, hrc2]) rfl ?_
    rw [hF0.out]
    exact ratPost2_zero (set3_below hB (by omega))
  have hk0 : 0 < k := Nat.pos_of_ne_zero hk
  have len_ml := len_mul m l
  have len_nk := len_mul n k
  have hnl : 0 < n * k := Nat.mul_pos hn0 hk0
  have hkl : decide (0 < (limbs k).length) = true := decide_eq_true (limbs_pos_iff.2 hk0)
  obtain ⟨FX, hFX⟩ : ∃ F, F = low (n1 != n2) (m * l) (n * k) := ⟨_, rfl⟩
  have hF := Lib.hid (show fRatDiv n1 (limbs m) (limbs n) n2 (limbs k) (limbs l) = FX by unfold fRatDiv; rw [h1, h2, hkl, nv_limbs, nv_limbs, nv_limbs, nv_limbs, hFX]; rfl)
  clear hkl
  have z3 : (((limbs k).length : Int) == 0) = false := by rw [beq_eq_false_iff_ne]; have := limbs_pos_iff.2 hk0; omega
  go_enter Tryz.func11, Tryz.ntmps11
  go_wp2_with fail
  refine (ratsOk_any _ _ _ _ _ _ _ _ _ _ _ _ _ _ _ HX.out HY.out HU.out HV.out).mono ?_
  rintro e w1 ⟨rfl, hb⟩
  rw [h1]
  rw [h2]
  have zw1 := hb.size
  replace Q1 := Q1.below hb (Nat.le_refl _)
  replace Q2 := Q2.below hb (Nat.le_refl _)
  replace hR := hR.below hb (Nat.le_refl _)
  replace HX := Lib.hid (HX.out.below hb (Nat.le_refl _))
  replace HY := Lib.hid (HY.out.below hb (Nat.le_refl _))
  replace HU := Lib.hid (HU.out.below hb (Nat.le_refl _))
  replace HV := Lib.hid (HV.out.below hb (Nat.le_refl _))
  have hB := hA.trans (hb.mono hA.size)
  clear hb
  replace hFX := Lib.hid hFX
  have Q2k := Q2
  obtain ⟨⟨q2c0, q2c1, q2c2⟩, q2f0, q2f1, q2f2⟩ := Q2k
  go_wp2_with fail
  clear q2c0 q2f0 q2c1 q2f1 q2c2 q2f2
  go_wp2_with fail
  have nq0 : w.heap.size + 1 + 1 ≠ w.heap.size := by omega
  have nq1 : w.heap.size + 1 + 1 ≠ w.heap.size + 1 := by omega
  have hbq : Below w1.heap.size w1 (World.drew w1) := (Below.refl _ _).drew
  go_region_held3 (fun w' => w'.cell? ⟨w.heap.size, 0, none⟩ = some (.bool n1) ∧ w'.cell? ⟨w.heap.size, 1, none⟩ = some (.slice a1 (limbs m).length c1) ∧ w'.cell? ⟨w.heap.size, 2, none⟩ = some (.slice b1 (limbs n).length d1) ∧ w'.cell? ⟨w.heap.size + 1, 0, none⟩ = some (.bool n2) ∧ w'.cell? ⟨w.heap.size + 1, 1, none⟩ = some (.slice a2 (limbs k).length c2) ∧ w'.cell? ⟨w.heap.size + 1, 2, none⟩ = some (.slice b2 (limbs l).length d2))
    (first | (with_reducible exact ⟨far3 nq0 (cell_keep hbq Q1.1.1 (Nat.le_refl _)), far3 nq0 (cell_keep hbq Q1.1.2.1 (Nat.le_refl _)), far3 nq0 (cell_keep hbq Q1.1.2.2 (Nat.le_refl _)), far3 nq1 (cell_keep hbq Q2.1.1 (Nat.le_refl _)), far3 nq1 (cell_keep hbq Q2.1.2.1 (Nat.le_refl _)), far3 nq1 (cell_keep hbq Q2.1.2.2 (Nat.le_refl _))⟩) | (exact ⟨cell_keep hbq Q1.1.1 (Nat.le_refl _), cell_keep hbq Q1.1.2.1 (Nat.le_refl _), cell_keep hbq Q1.1.2.2 (Nat.le_refl _), cell_keep hbq Q2.1.1 (Nat.le_refl _), cell_keep hbq Q2.1.2.1 (Nat.le_refl _), cell_keep hbq Q2.1.2.2 (Nat.le_refl _)⟩) | (exact ⟨Q1.1.1, Q1.1.2.1, Q1.1.2.2, Q2.1.1, Q2.1.2.1, Q2.1.2.2⟩) | go_keep)
    (first | (go_at_call 18; refine (reduce_F (n1 != n2) _ _ (m * l) _ _ (n * k) _ FX hFX.out ho1.1 ho2.1 (by omega) (by omega) hnl).mono ?_; rintro e qL ⟨⟨ea, ga, eb, gb, lo, up, lo2, up2, rfl, s1, l1, s2, l2, k1, k2, hd⟩, hq⟩; have zpL := hbq.size; have zsL := hq.size; replace hbq := hbq.trans (hq.mono hbq.size); clear hq; have hRq := hR.below hbq (Nat.le_refl _); obtain ⟨⟨hrc0, hrc1, hrc2⟩, hrf0, hrf1, hrf2⟩ := hRq) | (go_at_call 20; with_reducible (show Calls _ _ #[Value.slice a1 _ _, Value.slice b2 _ _] _ _); refine (natMul_n a1 b2 c1 d2 m l _ (HX.out.below hbq (Nat.le_refl _)) (HV.out.below hbq (Nat.le_refl _)) (by omega) (by omega)).mono ?_; rintro e qA ⟨⟨e1, g1, rfl, ho1⟩, hq⟩; have zpA := hbq.size; (try replace ho2 := ho2.below hq (Nat.le_refl _)); have zsA := hq.size; replace hbq := hbq.trans (hq.mono hbq.size); clear hq) | (go_at_call 20; with_reducible (show Calls _ _ #[Value.slice b1 _ _, Value.slice a2 _ _] _ _); refine (natMul_n b1 a2 d1 c2 n k _ (HY.out.below hbq (Nat.le_refl _)) (HU.out.below hbq (Nat.le_refl _)) (by omega) (by omega)).mono ?_; rintro e qB ⟨⟨e2, g2, rfl, ho2⟩, hq⟩; have zpB := hbq.size; (try replace ho1 := ho1.below hq (Nat.le_refl _)); have zsB := hq.size; replace hbq := hbq.trans (hq.mono hbq.size); clear hq) | (go_at_call 31; refine (signed_any (n1 != n2) _ _ (limbs (m * l)) _ (by omega)).mono ?_; rintro e qS ⟨rfl, hq⟩; have zpS := hbq.size; (try replace ho1 := ho1.below hq (Nat.le_refl _)); (try replace ho2 := ho2.below hq (Nat.le_refl _)); have zsS := hq.size; replace hbq := hbq.trans (hq.mono hbq.size); clear hq))
  all_goals
    go_wp2
    refine bodyPost_ret (v := .tuple #[.agg #[.bool FX.1.1, .slice ea FX.1.2.1.length ga, .slice eb FX.1.2.2.length gb], .bool FX.2]) (by simp [results, Tryz.results11, go_sem, hrc0, hrc1, hrc2]) rfl ?_
    rw [hF.out]
    exact ⟨⟨ea, ga, eb, gb, lo, up, lo2, up2, rfl, s1.set3 (by omega), l1, s2.set3 (by omega), l2, by omega, by omega, hd⟩, set3_below (hB.trans (hbq.mono hB.size)) (by omega)⟩
end Go.Proofs.YtogkonenejfgmaaGreatDoor
namespace Go.Proofs.YtogkonenejfgmaaGreatDoor
open Go.RowKit
set_option linter.unusedVariables false
set_option linter.unusedSimpArgs false in
set_option maxRecDepth 100000 in
set_option maxHeartbeats 40000000 in
theorem impl_RatCmp (n1 : Bool) (a1 : Option Addr) (c1 : Nat) (xs : List Int) (b1 : Option Addr) (d1 : Nat) (ys : List Int) (n2 : Bool) (a2 : Option Addr) (c2 : Nat) (us : List Int) (b2 : Option Addr) (d2 : Nat) (vs : List Int) (w : World) (hx : In w a1 c1 xs) (hy : In w b1 d1 ys) (hu : In w a2 c2 us) (hv : In w b2 d2 vs) :
    Calls Tryz.prog 7 #[.agg #[.bool n1, .slice a1 xs.length c1, .slice b1 ys.length d1], .agg #[.bool n2, .slice a2 us.length c2, .slice b2 vs.length d2]] w fun e w' => e = .returned (.int .i64 (fRatCmp n1 xs ys n2 us vs)) ∧ Below w.heap.size w w' := by
  have hA := ((bel_alloc w (.cells #[.bool n1, .slice a1 xs.length c1, .slice b1 ys.length d1] 27)).trans ((bel_alloc _ (.cells #[.bool n2, .slice a2 us.length c2, .slice b2 vs.length d2] 27)).mono (by simp)))
  have hzA : w.heap.size + 2 ≤ (World.alloc (World.alloc w (.cells #[.bool n1, .slice a1 xs.length c1, .slice b1 ys.length d1] 27)) (.cells #[.bool n2, .slice a2 us.length c2, .slice b2 vs.length d2] 27)).heap.size := by simp only [World.size_alloc]; omega
  have Q1 := ((Box3.new w (.bool n1) (.slice a1 xs.length c1) (.slice b1 ys.length d1) 27 (w.heap.size) (by simp)).below (bel_alloc _ (.cells #[.bool n2, .slice a2 us.length c2, .slice b2 vs.length d2] 27)) (Nat.le_refl _))
  have Q2 := (Box3.new (World.alloc w (.cells #[.bool n1, .slice a1 xs.length c1, .slice b1 ys.length d1] 27)) (.bool n2) (.slice a2 us.length c2) (.slice b2 vs.length d2) 27 (w.heap.size + 1) (by simp))
  have HX := Lib.hid (hx.below hA (Nat.le_refl _))
  have HY := Lib.hid (hy.below hA (Nat.le_refl _))
  have HU := Lib.hid (hu.below hA (Nat.le_refl _))
  have HV := Lib.hid (hv.below hA (Nat.le_refl _))
  cases h1 : ratB n1 xs ys
  · have hF0 := Lib.hid (show fRatCmp n1 xs ys n2 us vs = 0 by unfold fRatCmp; rw [h1]; rfl)
    go_enter Tryz.func7, Tryz.ntmps7
    go_wp2_with fail
    refine (ratsOk_any _ _ _ _ _ _ _ _ _ _ _ _ _ _ _ HX.out HY.out HU.out HV.out).mono ?_
    rintro e w1 ⟨rfl, hb⟩
    rw [h1]
    have zw1 := hb.size
    replace Q1 := Q1.below hb (Nat.le_refl _)
    replace Q2 := Q2.below hb (Nat.le_refl _)
    replace HX := Lib.hid (HX.out.below hb (Nat.le_refl _))
    replace HY := Lib.hid (HY.out.below hb (Nat.le_refl _))
    replace HU := Lib.hid (HU.out.below hb (Nat.le_refl _))
    replace HV := Lib.hid (HV.out.below hb (Nat.le_refl _))
    have hB := hA.trans (hb.mono hA.size)
    clear hb
    go_wp2
    go_ret
    exact ⟨by rw [hF0.out]; rfl, hB⟩
  cases h2 : ratB n2 us vs
  · have hF0 := Lib.hid (show fRatCmp n1 xs ys n2 us vs = 0 by unfold fRatCmp; rw [h1, h2]; rfl)
    go_enter Tryz.func7, Tryz.ntmps7
    go_wp2_with fail
    refine (ratsOk_any _ _ _ _ _ _ _ _ _ _ _ _ _ _ _ HX.out HY.out HU.out HV.out).mono ?_
    rintro e w1 ⟨rfl, hb⟩
    rw [h1]
    rw [h2]
    have zw1 := hb.size
    replace Q1 := Q1.below hb (Nat.le_refl _)
    replace Q2 := Q2.below hb (Nat.le_refl _)
    replace HX := Lib.hid (HX.out.below hb (Nat.le_refl _))
    replace HY := Lib.hid (HY.out.below hb (Nat.le_refl _))
    replace HU := Lib.hid (HU.out.below hb (Nat.le_refl _))
    replace HV := Lib.hid (HV.out.below hb (Nat.le_refl _))
    have hB := hA.trans (hb.mono hA.size)
    clear hb
    go_wp2
    go_ret
    exact ⟨by rw [hF0.out]; rfl, hB⟩
  obtain ⟨m, n, rfl, rfl, lm, ln, hn0, -, -, -, -, -, -⟩ := ratB_elim h1
  obtain ⟨k, l, rfl, rfl, lk, ll, hl0, -, -, -, -, -, -⟩ := ratB_elim h2
  have len_ml := len_mul m l
  have len_kn := len_mul k n
  have hF := Lib.hid (show fRatCmp n1 (limbs m) (limbs n) n2 (limbs k) (limbs l) = sgnZ (zOf n1 (m * l) - zOf n2 (k * n)) by unfold fRatCmp; rw [h1, h2, nv_limbs, nv_limbs, nv_limbs, nv_limbs]; rfl)
  go_enter Tryz.func7, Tryz.ntmps7
  go_wp2_with fail
  refine (ratsOk_any _ _ _ _ _ _ _ _ _ _ _ _ _ _ _ HX.out HY.out HU.out HV.out).mono ?_
  rintro e w1 ⟨rfl, hb⟩
  rw [h1]
  rw [h2]
  have zw1 := hb.size
  replace Q1 := Q1.below hb (Nat.le_refl _)
  replace Q2 := Q2.below hb (Nat.le_refl _)
  replace HX := Lib.hid (HX.out.below hb (Nat.le_refl _))
  replace HY := Lib.hid (HY.out.below hb (Nat.le_refl _))
  replace HU := Lib.hid (HU.out.below hb (Nat.le_refl _))
  replace HV := Lib.hid (HV.out.below hb (Nat.le_refl _))
  have hB := hA.trans (hb.mono hA.size)
  clear hb
  go_wp2_with fail
  have hbq : Below w1.heap.size w1 (World.drew w1) := (Below.refl _ _).drew
  go_region_held3 (fun w' => w'.cell? ⟨w.heap.size, 0, none⟩ = some (.bool n1) ∧ w'.cell? ⟨w.heap.size, 1, none⟩ = some (.slice a1 (limbs m).length c1) ∧ w'.cell? ⟨w.heap.size, 2, none⟩ = some (.slice b1 (limbs n).length d1) ∧ w'.cell? ⟨w.heap.size + 1, 0, none⟩ = some (.bool n2) ∧ w'.cell? ⟨w.heap.size + 1, 1, none⟩ = some (.slice a2 (limbs k).length c2) ∧ w'.cell? ⟨w.heap.size + 1, 2, none⟩ = some (.slice b2 (limbs l).length d2))
    (first | (exact ⟨cell_keep hbq Q1.1.1 (Nat.le_refl _), cell_keep hbq Q1.1.2.1 (Nat.le_refl _), cell_keep hbq Q1.1.2.2 (Nat.le_refl _), cell_keep hbq Q2.1.1 (Nat.le_refl _), cell_keep hbq Q2.1.2.1 (Nat.le_refl _), cell_keep hbq Q2.1.2.2 (Nat.le_refl _)⟩) | (exact ⟨Q1.1.1, Q1.1.2.1, Q1.1.2.2, Q2.1.1, Q2.1.2.1, Q2.1.2.2⟩) | go_keep)
    (first | (go_at_call 22; refine (intCmp_n n1 n2 _ _ _ _ (m * l) (k * n) _ ho1 ho2 (by omega) (by omega)).mono ?_; rintro e qL ⟨rfl, hq⟩; have zpL := hbq.size; have zsL := hq.size; replace hbq := hbq.trans (hq.mono hbq.size); clear hq) | (go_at_call 17; with_reducible (show Calls _ _ #[Value.agg #[Value.bool n1, _, _], _] _ _); refine (num_any n1 a1 c1 m b1 d1 (limbs n) b2 d2 l _ (HX.out.below hbq (Nat.le_refl _)) (HV.out.below hbq (Nat.le_refl _)) (by omega) (by omega)).mono ?_; rintro e qA ⟨⟨e1, g1, rfl, ho1⟩, hq⟩; have zpA := hbq.size; (try replace ho2 := ho2.below hq (Nat.le_refl _)); have zsA := hq.size; replace hbq := hbq.trans (hq.mono hbq.size); clear hq) | (go_at_call 17; with_reducible (show Calls _ _ #[Value.agg #[Value.bool n2, _, _], _] _ _); refine (num_any n2 a2 c2 k b2 d2 (limbs l) b1 d1 n _ (HU.out.below hbq (Nat.le_refl _)) (HY.out.below hbq (Nat.le_refl _)) (by omega) (by omega)).mono ?_; rintro e qB ⟨⟨e2, g2, rfl, ho2⟩, hq⟩; have zpB := hbq.size; (try replace ho1 := ho1.below hq (Nat.le_refl _)); have zsB := hq.size; replace hbq := hbq.trans (hq.mono hbq.size); clear hq))
  all_goals
    go_wp2
    go_ret
    exact ⟨by rw [hF.out]; rfl, hB.trans (hbq.mono hB.size)⟩
end Go.Proofs.YtogkonenejfgmaaGreatDoor
