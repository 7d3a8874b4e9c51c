/- The walk of RatSub (reference). (Printed by gen_rat2.py.) -/
import Derived.Test.YtoandabopahmhaaWRatAddS
import Derived.Test.YtoandabopahmhaaWRatNegS
namespace Go.Proofs.Ytoandabopahmhaa
open Go.RowKit
set_option linter.unusedVariables false
theorem spec_RatAdd_F (n1 : Bool) (a1 : Option Addr) (c1 : Nat) (xs : List Int) (b1 : Option Addr) (d1 : Nat) (ys : List Int) (n2 : Bool) (a2 : Option Addr) (c2 : Nat) (us : List Int) (b2 : Option Addr) (d2 : Nat) (vs : List Int) (w : World) (FX : (Bool × List Int × List Int) × Bool) (hF : FX = fRatAdd n1 xs ys n2 us vs) (hx : In w a1 c1 xs) (hy : In w b1 d1 ys) (hu : In w a2 c2 us) (hv : In w b2 d2 vs) :
    Calls Try.prog 42 #[.agg #[.bool n1, .slice a1 xs.length c1, .slice b1 ys.length d1], .agg #[.bool n2, .slice a2 us.length c2, .slice b2 vs.length d2]] w fun e w' => SRatPost2 w FX e w' := by
  rw [hF]; exact spec_RatAdd _ _ _ _ _ _ _ _ _ _ _ _ _ _ _ hx hy hu hv
set_option linter.unusedSimpArgs false in
set_option maxRecDepth 100000 in
set_option maxHeartbeats 40000000 in
theorem spec_RatSub (n1 : Bool) (a1 : Option Addr) (c1 : Nat) (xs : List Int) (b1 : Option Addr) (d1 : Nat) (ys : List Int) (n2 : Bool) (a2 : Option Addr) (c2 : Nat) (us : List Int) (b2 : Option Addr) (d2 : Nat) (vs : List Int) (w : World) (hx : In w a1 c1 xs) (hy : In w b1 d1 ys) (hu : In w a2 c2 us) (hv : In w b2 d2 vs) :
    Calls Try.prog 44 #[.agg #[.bool n1, .slice a1 xs.length c1, .slice b1 ys.length d1], .agg #[.bool n2, .slice a2 us.length c2, .slice b2 vs.length d2]] w fun e w' => SRatPost2 w (fRatSub n1 xs ys n2 us vs) e w' := by
  have hA := (((bel_alloc w (.cells #[.bool n1, .slice a1 xs.length c1, .slice b1 ys.length d1] 31)).trans ((bel_alloc _ (.cells #[.bool n2, .slice a2 us.length c2, .slice b2 vs.length d2] 31)).mono (by simp))).trans ((bel_alloc _ (.cells #[.bool false, .slice none 0 0, .slice none 0 0] 31)).mono (by simp; omega)))
  have hzA : w.heap.size + 3 ≤ (World.alloc (World.alloc (World.alloc w (.cells #[.bool n1, .slice a1 xs.length c1, .slice b1 ys.length d1] 31)) (.cells #[.bool n2, .slice a2 us.length c2, .slice b2 vs.length d2] 31)) (.cells #[.bool false, .slice none 0 0, .slice none 0 0] 31)).heap.size := by simp only [World.size_alloc]; omega
  have Q1 := (((Box3.new w (.bool n1) (.slice a1 xs.length c1) (.slice b1 ys.length d1) 31 (w.heap.size) (by simp)).below (bel_alloc _ (.cells #[.bool n2, .slice a2 us.length c2, .slice b2 vs.length d2] 31)) (Nat.le_refl _)).below (bel_alloc _ (.cells #[.bool false, .slice none 0 0, .slice none 0 0] 31)) (Nat.le_refl _))
  have Q2 := ((Box3.new (World.alloc w (.cells #[.bool n1, .slice a1 xs.length c1, .slice b1 ys.length d1] 31)) (.bool n2) (.slice a2 us.length c2) (.slice b2 vs.length d2) 31 (w.heap.size + 1) (by simp)).below (bel_alloc _ (.cells #[.bool false, .slice none 0 0, .slice none 0 0] 31)) (Nat.le_refl _))
  have hR := (Box3.new (World.alloc (World.alloc w (.cells #[.bool n1, .slice a1 xs.length c1, .slice b1 ys.length d1] 31)) (.cells #[.bool n2, .slice a2 us.length c2, .slice b2 vs.length d2] 31)) (.bool false) (.slice none 0 0) (.slice none 0 0) 31 (w.heap.size + 1 + 1) (by simp))
  have HX := Lib.hid (hx.below hA (Nat.le_refl _))
  have HY := Lib.hid (hy.below hA (Nat.le_refl _))
  have HU := Lib.hid (hu.below hA (Nat.le_refl _))
  have HV := Lib.hid (hv.below hA (Nat.le_refl _))
  have hA2 := hA
  cases h2 : ratB n2 us vs
  · have hF0 := Lib.hid (show fRatSub n1 xs ys n2 us vs = ratZ by unfold fRatSub; rw [h2]; simp)
    have hN := Lib.hid (show fRatNeg n2 us vs = ((false, [], []), false) by unfold fRatNeg; rw [h2]; rfl)
    go_enter Try.func44, Try.ntmps44
    go_wp2_with fail
    refine (spec_RatNeg _ _ _ _ _ _ _ _ HU.out HV.out).mono ?_
    rintro e w1 ⟨⟨e1, g1, e2, g2, rfl, o1, l1, o2, l2⟩, hb⟩
    have zw1 := hb.size
    replace Q1 := Q1.below hb (Nat.le_refl _)
    replace Q2 := Q2.below hb (Nat.le_refl _)
    replace hR := hR.below hb (Nat.le_refl _)
    replace HX := Lib.hid (HX.out.below hb (Nat.le_refl _))
    replace HY := Lib.hid (HY.out.below hb (Nat.le_refl _))
    replace HU := Lib.hid (HU.out.below hb (Nat.le_refl _))
    replace HV := Lib.hid (HV.out.below hb (Nat.le_refl _))
    have hB := hA.trans (hb.mono hA.size)
    clear hb
    clear o1 o2 l1 l2
    rw [hN.out]
    have hb := bel_alloc w1 (.cells #[.bool false, .slice e1 0 g1, .slice e2 0 g2] 31)
    have zx := hb.size
    replace hR := hR.below hb (Nat.le_refl _)
    replace HX := Lib.hid (HX.out.below hb (Nat.le_refl _))
    replace HY := Lib.hid (HY.out.below hb (Nat.le_refl _))
    replace HU := Lib.hid (HU.out.below hb (Nat.le_refl _))
    replace HV := Lib.hid (HV.out.below hb (Nat.le_refl _))
    replace hB := hB.trans (hb.mono hB.size)
    clear hb
    have hRk := hR
    obtain ⟨⟨hrc0, hrc1, hrc2⟩, hrf0, hrf1, hrf2⟩ := hRk
    go_wp2
    refine bodyPost_ret (v := .tuple #[.agg #[.bool false, .slice none 0 0, .slice none 0 0], .bool false]) (by simp [results, Try.results44, go_sem, hrc0, hrc1, hrc2]) rfl ?_
    rw [hF0.out]
    exact sratPost2_zero (set3_below hB (by omega))
  obtain ⟨FX, hFX⟩ : ∃ F, F = fRatAdd n1 xs ys ((!n2) && decide (0 < us.length)) us vs := ⟨_, rfl⟩
  have hF := Lib.hid (show fRatSub n1 xs ys n2 us vs = FX by unfold fRatSub; rw [h2, hFX]; cases h1 : ratB n1 xs ys <;> simp [fRatAdd, h1])
  have hN := Lib.hid (show fRatNeg n2 us vs = ((((!n2) && decide (0 < us.length)), us, vs), true) by unfold fRatNeg; rw [h2]; rfl)
  go_enter Try.func44, Try.ntmps44
  go_wp2_with fail
  refine (spec_RatNeg _ _ _ _ _ _ _ _ HU.out HV.out).mono ?_
  rintro e w1 ⟨⟨e1, g1, e2, g2, rfl, o1, l1, o2, l2⟩, hb⟩
  have zw1 := hb.size
  replace Q1 := Q1.below hb (Nat.le_refl _)
  replace Q2 := Q2.below hb (Nat.le_refl _)
  replace hR := hR.below hb (Nat.le_refl _)
  replace HX := Lib.hid (HX.out.below hb (Nat.le_refl _))
  replace HY := Lib.hid (HY.out.below hb (Nat.le_refl _))
  replace HU := Lib.hid (HU.out.below hb (Nat.le_refl _))
  replace HV := Lib.hid (HV.out.below hb (Nat.le_refl _))
  have hB := hA.trans (hb.mono hA.size)
  clear hb
  rw [hN.out]
  rw [hN.out] at o1 o2 l1 l2
  dsimp only at l1 l2
  have o1' := Lib.hid (own_in o1 (by dsimp only; omega))
  have o2' := Lib.hid (own_in o2 (by dsimp only; omega))
  clear o1 o2
  dsimp only at o1' o2'
  replace hFX := Lib.hid hFX
  have hb := bel_alloc w1 (.cells #[.bool ((!n2) && decide (0 < us.length)), .slice e1 us.length g1, .slice e2 vs.length g2] 31)
  have i1 := Lib.hid (o1'.out.below hb (Nat.le_refl _))
  have i2 := Lib.hid (o2'.out.below hb (Nat.le_refl _))
  clear o1' o2'
  have zx := hb.size
  replace Q1 := Q1.below hb (Nat.le_refl _)
  replace hR := hR.below hb (Nat.le_refl _)
  replace HX := Lib.hid (HX.out.below hb (Nat.le_refl _))
  replace HY := Lib.hid (HY.out.below hb (Nat.le_refl _))
  replace HU := Lib.hid (HU.out.below hb (Nat.le_refl _))
  replace HV := Lib.hid (HV.out.below hb (Nat.le_refl _))
  replace hB := hB.trans (hb.mono hB.size)
  clear hb
  have Q1k := Q1
  obtain ⟨⟨q1c0, q1c1, q1c2⟩, q1f0, q1f1, q1f2⟩ := Q1k
  go_wp2_with fail
  refine (spec_RatAdd_F n1 _ _ xs _ _ ys ((!n2) && decide (0 < us.length)) _ _ us _ _ vs _ FX hFX.out HX.out HY.out i1.out i2.out).mono ?_
  rintro e w3 ⟨⟨ea, ga, eb, gb, rfl, s1, l1, s2, l2⟩, hb⟩
  clear q1c0 q1f0 q1c1 q1f1 q1c2 q1f2
  have zw3 := hb.size
  replace Q1 := Q1.below hb (Nat.le_refl _)
  replace hR := hR.below hb (Nat.le_refl _)
  replace HX := Lib.hid (HX.out.below hb (Nat.le_refl _))
  replace HY := Lib.hid (HY.out.below hb (Nat.le_refl _))
  replace HU := Lib.hid (HU.out.below hb (Nat.le_refl _))
  replace HV := Lib.hid (HV.out.below hb (Nat.le_refl _))
  replace hB := hB.trans (hb.mono hB.size)
  clear hb
  have hRk := hR
  obtain ⟨⟨hrc0, hrc1, hrc2⟩, hrf0, hrf1, hrf2⟩ := hRk
  go_wp2
  refine bodyPost_ret (v := .tuple #[.agg #[.bool FX.1.1, .slice ea FX.1.2.1.length ga, .slice eb FX.1.2.2.length gb], .bool FX.2]) (by simp [results, Try.results44, go_sem, hrc0, hrc1, hrc2]) rfl ?_
  rw [hF.out]
  exact ⟨⟨ea, ga, eb, gb, rfl, set3_own s1 (by omega) (by omega), l1, set3_own s2 (by omega) (by omega), l2⟩, set3_below (hB) (by omega)⟩
end Go.Proofs.Ytoandabopahmhaa
