/- The walk of RatMake (program). (Printed by gen_rat2.py.) -/
import Derived.Test.YtoandabopahmhaaWRatB
namespace Go.Proofs.Ytoandabopahmhaa
open Go.RowKit
set_option linter.unusedVariables false
set_option linter.unusedSimpArgs false in
set_option maxRecDepth 100000 in
set_option maxHeartbeats 40000000 in
theorem impl_RatMake (n1 : Bool) (a1 : Option Addr) (c1 : Nat) (xs : List Int) (n2 : Bool) (a2 : Option Addr) (c2 : Nat) (us : List Int) (w : World) (hx : In w a1 c1 xs) (hu : In w a2 c2 us) :
    Calls Try.prog 27 #[.agg #[.bool n1, .slice a1 xs.length c1], .agg #[.bool n2, .slice a2 us.length c2]] w fun e w' => RatPost2 w (fRatMake n1 xs n2 us) e w' := by
  have hA := (((bel_alloc w (.cells #[.bool n1, .slice a1 xs.length c1] 29)).trans ((bel_alloc _ (.cells #[.bool n2, .slice a2 us.length c2] 29)).mono (by simp))).trans ((bel_alloc _ (.cells #[.bool false, .slice none 0 0, .slice none 0 0] 31)).mono (by simp; omega)))
  have hzA : w.heap.size + 3 ≤ (World.alloc (World.alloc (World.alloc w (.cells #[.bool n1, .slice a1 xs.length c1] 29)) (.cells #[.bool n2, .slice a2 us.length c2] 29)) (.cells #[.bool false, .slice none 0 0, .slice none 0 0] 31)).heap.size := by simp only [World.size_alloc]; omega
  have Q1 := (((Box2.new w (.bool n1) (.slice a1 xs.length c1) 29 (w.heap.size) (by simp)).below (bel_alloc _ (.cells #[.bool n2, .slice a2 us.length c2] 29)) (Nat.le_refl _)).below (bel_alloc _ (.cells #[.bool false, .slice none 0 0, .slice none 0 0] 31)) (Nat.le_refl _))
  have Q2 := ((Box2.new (World.alloc w (.cells #[.bool n1, .slice a1 xs.length c1] 29)) (.bool n2) (.slice a2 us.length c2) 29 (w.heap.size + 1) (by simp)).below (bel_alloc _ (.cells #[.bool false, .slice none 0 0, .slice none 0 0] 31)) (Nat.le_refl _))
  have hR := (Box3.new (World.alloc (World.alloc w (.cells #[.bool n1, .slice a1 xs.length c1] 29)) (.cells #[.bool n2, .slice a2 us.length c2] 29)) (.bool false) (.slice none 0 0) (.slice none 0 0) 31 (w.heap.size + 1 + 1) (by simp))
  have HX := Lib.hid (hx.below hA (Nat.le_refl _))
  have HU := Lib.hid (hu.below hA (Nat.le_refl _))
  cases h1 : intB n1 xs
  · have hF0 := Lib.hid (show fRatMake n1 xs n2 us = ratZ by unfold fRatMake; rw [h1]; rfl)
    go_enter Try.func27, Try.ntmps27
    go_wp2_with fail
    refine (intsOk_any _ _ _ _ _ _ _ _ _ HX.out HU.out).mono ?_
    rintro e w1 ⟨rfl, hb⟩
    rw [h1]
    have zw1 := hb.size
    replace Q1 := Q1.below hb (Nat.le_refl _)
    replace Q2 := Q2.below hb (Nat.le_refl _)
    replace hR := hR.below hb (Nat.le_refl _)
    replace HX := Lib.hid (HX.out.below hb (Nat.le_refl _))
    replace HU := Lib.hid (HU.out.below hb (Nat.le_refl _))
    have hB := hA.trans (hb.mono hA.size)
    clear hb
    have hRk := hR
    obtain ⟨⟨hrc0, hrc1, hrc2⟩, hrf0, hrf1, hrf2⟩ := hRk
    go_wp2
    refine bodyPost_ret (v := .tuple #[.agg #[.bool false, .slice none 0 0, .slice none 0 0], .bool false]) (by simp [results, Try.results27, go_sem, hrc0, hrc1, hrc2]) rfl ?_
    rw [hF0.out]
    exact ratPost2_zero (set3_below hB (by omega))
  cases h2 : intB n2 us
  · have hF0 := Lib.hid (show fRatMake n1 xs n2 us = ratZ by unfold fRatMake; rw [h1, h2]; rfl)
    go_enter Try.func27, Try.ntmps27
    go_wp2_with fail
    refine (intsOk_any _ _ _ _ _ _ _ _ _ HX.out HU.out).mono ?_
    rintro e w1 ⟨rfl, hb⟩
    rw [h1]
    rw [h2]
    have zw1 := hb.size
    replace Q1 := Q1.below hb (Nat.le_refl _)
    replace Q2 := Q2.below hb (Nat.le_refl _)
    replace hR := hR.below hb (Nat.le_refl _)
    replace HX := Lib.hid (HX.out.below hb (Nat.le_refl _))
    replace HU := Lib.hid (HU.out.below hb (Nat.le_refl _))
    have hB := hA.trans (hb.mono hA.size)
    clear hb
    have hRk := hR
    obtain ⟨⟨hrc0, hrc1, hrc2⟩, hrf0, hrf1, hrf2⟩ := hRk
    go_wp2
    refine bodyPost_ret (v := .tuple #[.agg #[.bool false, .slice none 0 0, .slice none 0 0], .bool false]) (by simp [results, Try.results27, go_sem, hrc0, hrc1, hrc2]) rfl ?_
    rw [hF0.out]
    exact ratPost2_zero (set3_below hB (by omega))
  obtain ⟨m, rfl, lm, -, -, -⟩ := intB_elim h1
  obtain ⟨k, rfl, lk, -, -, -⟩ := intB_elim h2
  by_cases hk : k = 0
  · subst hk
    have hF0 := Lib.hid (show fRatMake n1 (limbs m) n2 (limbs 0) = ratZ by unfold fRatMake; rw [limbs_zero]; simp)
    have z3 : (((limbs 0).length : Int) == 0) = true := by rw [limbs_zero]; rfl
    go_enter Try.func27, Try.ntmps27
    go_wp2_with fail
    refine (intsOk_any _ _ _ _ _ _ _ _ _ HX.out HU.out).mono ?_
    rintro e w1 ⟨rfl, hb⟩
    rw [h1]
    rw [h2]
    have zw1 := hb.size
    replace Q1 := Q1.below hb (Nat.le_refl _)
    replace Q2 := Q2.below hb (Nat.le_refl _)
    replace hR := hR.below hb (Nat.le_refl _)
    replace HX := Lib.hid (HX.out.below hb (Nat.le_refl _))
    replace HU := Lib.hid (HU.out.below hb (Nat.le_refl _))
    have hB := hA.trans (hb.mono hA.size)
    clear hb
    have hRk := hR
    obtain ⟨⟨hrc0, hrc1, hrc2⟩, hrf0, hrf1, hrf2⟩ := hRk
    have Q2k := Q2
    obtain ⟨⟨q2c0, q2c1⟩, q2f0, q2f1⟩ := Q2k
    go_wp2
    refine bodyPost_ret (v := .tuple #[.agg #[.bool false, .slice none 0 0, .slice none 0 0], .bool false]) (by simp [results, Try.results27, go_sem, hrc0, hrc1, hrc2]) rfl ?_
    rw [hF0.out]
    exact ratPost2_zero (set3_below hB (by omega))
  have hk0 : 0 < k := Nat.pos_of_ne_zero hk
  have hkl : decide (0 < (limbs k).length) = true := decide_eq_true (limbs_pos_iff.2 hk0)
  obtain ⟨FX, hFX⟩ : ∃ F, F = low (n1 != n2) m k := ⟨_, rfl⟩
  have hF := Lib.hid (show fRatMake n1 (limbs m) n2 (limbs k) = FX by unfold fRatMake; rw [h1, h2, hkl, nv_limbs, nv_limbs, hFX]; rfl)
  clear hkl
  have z3 : (((limbs k).length : Int) == 0) = false := by rw [beq_eq_false_iff_ne]; have := limbs_pos_iff.2 hk0; omega
  go_enter Try.func27, Try.ntmps27
  go_wp2_with fail
  refine (intsOk_any _ _ _ _ _ _ _ _ _ HX.out HU.out).mono ?_
  rintro e w1 ⟨rfl, hb⟩
  rw [h1]
  rw [h2]
  have zw1 := hb.size
  replace Q1 := Q1.below hb (Nat.le_refl _)
  replace Q2 := Q2.below hb (Nat.le_refl _)
  replace hR := hR.below hb (Nat.le_refl _)
  replace HX := Lib.hid (HX.out.below hb (Nat.le_refl _))
  replace HU := Lib.hid (HU.out.below hb (Nat.le_refl _))
  have hB := hA.trans (hb.mono hA.size)
  clear hb
  replace hFX := Lib.hid hFX
  have Q2k := Q2
  obtain ⟨⟨q2c0, q2c1⟩, q2f0, q2f1⟩ := Q2k
  go_wp2_with fail
  clear q2c0 q2f0 q2c1 q2f1
  go_wp2_with fail
  have nq0 : w.heap.size + 1 + 1 ≠ w.heap.size := by omega
  have nq1 : w.heap.size + 1 + 1 ≠ w.heap.size + 1 := by omega
  have hbq : Below w1.heap.size w1 (World.drew w1) := (Below.refl _ _).drew
  go_region_held3 (fun w' => w'.cell? ⟨w.heap.size, 0, none⟩ = some (.bool n1) ∧ w'.cell? ⟨w.heap.size, 1, none⟩ = some (.slice a1 (limbs m).length c1) ∧ w'.cell? ⟨w.heap.size + 1, 0, none⟩ = some (.bool n2) ∧ w'.cell? ⟨w.heap.size + 1, 1, none⟩ = some (.slice a2 (limbs k).length c2))
    (first | (with_reducible exact ⟨far3 nq0 (cell_keep hbq Q1.1.1 (Nat.le_refl _)), far3 nq0 (cell_keep hbq Q1.1.2 (Nat.le_refl _)), far3 nq1 (cell_keep hbq Q2.1.1 (Nat.le_refl _)), far3 nq1 (cell_keep hbq Q2.1.2 (Nat.le_refl _))⟩) | (exact ⟨cell_keep hbq Q1.1.1 (Nat.le_refl _), cell_keep hbq Q1.1.2 (Nat.le_refl _), cell_keep hbq Q2.1.1 (Nat.le_refl _), cell_keep hbq Q2.1.2 (Nat.le_refl _)⟩) | (exact ⟨Q1.1.1, Q1.1.2, Q2.1.1, Q2.1.2⟩) | go_keep)
    (first | (go_at_call 70; refine (reduce_F (n1 != n2) _ _ m _ _ k _ FX hFX.out (HX.out.below hbq (Nat.le_refl _)).1 (HU.out.below hbq (Nat.le_refl _)).1 (by omega) (by omega) hk0).mono ?_; rintro e qL ⟨⟨ea, ga, eb, gb, lo, up, lo2, up2, rfl, s1, l1, s2, l2, k1, k2, hd⟩, hq⟩; have zpL := hbq.size; have zsL := hq.size; replace hbq := hbq.trans (hq.mono hbq.size); clear hq; have hRq := hR.below hbq (Nat.le_refl _); obtain ⟨⟨hrc0, hrc1, hrc2⟩, hrf0, hrf1, hrf2⟩ := hRq) | (go_at_call 71; refine (signed_any (n1 != n2) _ _ (limbs m) _ (by omega)).mono ?_; rintro e qS ⟨rfl, hq⟩; have zpS := hbq.size; have zsS := hq.size; replace hbq := hbq.trans (hq.mono hbq.size); clear hq))
  all_goals
    go_wp2
    refine bodyPost_ret (v := .tuple #[.agg #[.bool FX.1.1, .slice ea FX.1.2.1.length ga, .slice eb FX.1.2.2.length gb], .bool FX.2]) (by simp [results, Try.results27, go_sem, hrc0, hrc1, hrc2]) rfl ?_
    rw [hF.out]
    exact ⟨⟨ea, ga, eb, gb, lo, up, lo2, up2, rfl, s1.set3 (by omega), l1, s2.set3 (by omega), l2, by omega, by omega, hd⟩, set3_below (hB.trans (hbq.mono hB.size)) (by omega)⟩
end Go.Proofs.Ytoandabopahmhaa
