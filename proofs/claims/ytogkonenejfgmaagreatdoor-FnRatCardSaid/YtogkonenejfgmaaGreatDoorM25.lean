/- Boxes; products of numbers that are read. (Printed by gen_rat2.py.) The walk of RatMake (reference). (Printed by gen_rat2.py.) The walks of intSign, intCmp, IntSign, IntCmp (program and reference). For every two integers within the reach. The walks of the exported functions of one or two integers (IntCmp). Printed by gen_if.py. -/
import Derived.Deep.RegionHeld3
import Derived.Deep.DeepCutAuto
import Derived.Test.YtogkonenejfgmaaGreatDoorM24
import Derived.Test.YtogkonenejfgmaaGreatDoorM11
import Derived.Test.YtogkonenejfgmaaGreatDoorM04
import Derived.Test.YtogkonenejfgmaaGreatDoorM13
namespace Go.Proofs.YtogkonenejfgmaaGreatDoor
open Go.RowKit
set_option linter.unusedVariables false
theorem far3 {W : World} {r p o : Nat} {u v x z : Value} (h : r ≠ p) (hc : W.cell? ⟨p, o, none⟩ = some z) : (((W.setCell ⟨r, 0, none⟩ u).setCell ⟨r, 1, none⟩ v).setCell ⟨r, 2, none⟩ x).cell? ⟨p, o, none⟩ = some z := by
  rw [World.cell?_setCell_other _ _ _ _ (addr_ne (by omega)), World.cell?_setCell_other _ _ _ _ (addr_ne (by omega)), World.cell?_setCell_other _ _ _ _ (addr_ne (by omega))]
  exact hc
theorem own_in {w : World} {B : Nat} {a : Option Addr} {c : Nat} {xs : List Int} (h : Own w B a c xs) (hl : xs.length ≤ 1099511627776) : In w a c xs := h.inn hl
theorem intMul_n (b1 b2 : Bool) (a b : Option Addr) (ca cb m n : Nat) (w : World) (hx : In w a ca (limbs m)) (hy : In w b cb (limbs n)) (lm : (limbs m).length ≤ 400) (ln : (limbs n).length ≤ 400) :
    Calls Tryz.prog 21 #[.agg #[.bool b1, .slice a (limbs m).length ca], .agg #[.bool b2, .slice b (limbs n).length cb]] w fun e w' => (∃ a' c', e = .returned (.agg #[.bool (b1 != b2 && decide (0 < (limbs (m * n)).length)), .slice a' (limbs (m * n)).length c']) ∧ In w' a' c' (limbs (m * n))) ∧ Below w.heap.size w w' := by
  have hl := len_mul m n
  refine (intMul_any b1 b2 a b ca cb m n w hx hy (by omega) (by omega)).mono ?_
  rw [zOf_mul, sg_zOf]
  rintro e w1 ⟨⟨a1, c1, h, ho⟩, hb⟩
  exact ⟨⟨a1, c1, h, ho.inn (by show (limbs (m * n)).length ≤ _; omega)⟩, hb⟩
theorem natMul_n (a b : Option Addr) (ca cb m n : Nat) (w : World) (hx : In w a ca (limbs m)) (hy : In w b cb (limbs n)) (lm : (limbs m).length ≤ 400) (ln : (limbs n).length ≤ 400) :
    Calls Tryz.prog 20 #[.slice a (limbs m).length ca, .slice b (limbs n).length cb] w fun e w' => (∃ a' c', e = .returned (.slice a' (limbs (m * n)).length c') ∧ In w' a' c' (limbs (m * n))) ∧ Below w.heap.size w w' := by
  have hl := len_mul m n
  refine (natMul_any a b ca cb m n w hx.1 hy.1 (by omega) (by omega)).mono ?_
  rintro e w1 ⟨⟨a1, c1, h, ho⟩, hb⟩
  exact ⟨⟨a1, c1, h, ho.inn (by omega)⟩, hb⟩
theorem l02Mul_n (a b : Option Addr) (ca cb m n : Nat) (w : World) (hx : In w a ca (limbs m)) (hy : In w b cb (limbs n)) (lm : (limbs m).length ≤ 400) (ln : (limbs n).length ≤ 400) :
    Calls Tryz.prog 82 #[.slice a (limbs m).length ca, .slice b (limbs n).length cb] w fun e w' => (∃ a' c', e = .returned (.slice a' (limbs (m * n)).length c') ∧ In w' a' c' (limbs (m * n))) ∧ Below w.heap.size w w' := by
  have hl := len_mul m n
  refine (l02Mul_all a b ca cb m n w hx.1 hy.1 (by omega) (by omega)).mono ?_
  rintro e w1 ⟨⟨a1, c1, h, ho⟩, hb⟩
  exact ⟨⟨a1, c1, h, ho.inn (by omega)⟩, hb⟩
theorem reduce_F (neg : Bool) (a : Option Addr) (c m : Nat) (b : Option Addr) (d n : Nat) (w : World) (FX : (Bool × List Int × List Int) × Bool) (hF : FX = low neg m n) (hx : Rd w a (limbs m)) (hy : Rd w b (limbs n)) (lx : (limbs m).length ≤ 1000) (ly : (limbs n).length ≤ 1000) (hn : 0 < n) :
    Calls Tryz.prog 18 #[.agg #[.bool (neg && decide (0 < (limbs m).length)), .slice a (limbs m).length c], .slice b (limbs n).length d] w fun e w' => RatPost2 w FX e w' := by
  rw [hF, ← low_and]
  exact reduce_any _ a c m b d n w hx hy lx ly hn
theorem low_F (neg : Bool) (a : Option Addr) (c m : Nat) (b : Option Addr) (d n : Nat) (w : World) (FX : (Bool × List Int × List Int) × Bool) (hF : FX = low neg m n) (hx : In w a c (limbs m)) (hy : In w b d (limbs n)) (lx : (limbs m).length ≤ 800) (ly : (limbs n).length ≤ 800) (hn : 0 < n) :
    Calls Tryz.prog 59 #[.bool neg, .slice a (limbs m).length c, .slice b (limbs n).length d] w fun e w' => SRatPost2 w FX e w' := by
  rw [hF]
  exact l05Low_any _ a c m b d n w hx hy lx ly hn
end Go.Proofs.YtogkonenejfgmaaGreatDoor
namespace Go.Proofs.YtogkonenejfgmaaGreatDoor
open Go.RowKit
set_option linter.unusedVariables false
set_option linter.unusedSimpArgs false in
set_option maxRecDepth 100000 in
set_option maxHeartbeats 40000000 in
theorem spec_RatMake (n1 : Bool) (a1 : Option Addr) (c1 : Nat) (xs : List Int) (n2 : Bool) (a2 : Option Addr) (c2 : Nat) (us : List Int) (w : World) (hx : In w a1 c1 xs) (hu : In w a2 c2 us) :
    Calls Tryz.prog 38 #[.agg #[.bool n1, .slice a1 xs.length c1], .agg #[.bool n2, .slice a2 us.length c2]] w fun e w' => SRatPost2 w (fRatMake n1 xs n2 us) e w' := by
  have hA := (((bel_alloc w (.cells #[.bool n1, .slice a1 xs.length c1] 25)).trans ((bel_alloc _ (.cells #[.bool n2, .slice a2 us.length c2] 25)).mono (by simp))).trans ((bel_alloc _ (.cells #[.bool false, .slice none 0 0, .slice none 0 0] 27)).mono (by simp; omega)))
  have hzA : w.heap.size + 3 ≤ (World.alloc (World.alloc (World.alloc w (.cells #[.bool n1, .slice a1 xs.length c1] 25)) (.cells #[.bool n2, .slice a2 us.length c2] 25)) (.cells #[.bool false, .slice none 0 0, .slice none 0 0] 27)).heap.size := by simp only [World.size_alloc]; omega
  have Q1 := (((Box2.new w (.bool n1) (.slice a1 xs.length c1) 25 (w.heap.size) (by simp)).below (bel_alloc _ (.cells #[.bool n2, .slice a2 us.length c2] 25)) (Nat.le_refl _)).below (bel_alloc _ (.cells #[.bool false, .slice none 0 0, .slice none 0 0] 27)) (Nat.le_refl _))
  have Q2 := ((Box2.new (World.alloc w (.cells #[.bool n1, .slice a1 xs.length c1] 25)) (.bool n2) (.slice a2 us.length c2) 25 (w.heap.size + 1) (by simp)).below (bel_alloc _ (.cells #[.bool false, .slice none 0 0, .slice none 0 0] 27)) (Nat.le_refl _))
  have hR := (Box3.new (World.alloc (World.alloc w (.cells #[.bool n1, .slice a1 xs.length c1] 25)) (.cells #[.bool n2, .slice a2 us.length c2] 25)) (.bool false) (.slice none 0 0) (.slice none 0 0) 27 (w.heap.size + 1 + 1) (by simp))
  have HX := Lib.hid (hx.below hA (Nat.le_refl _))
  have HU := Lib.hid (hu.below hA (Nat.le_refl _))
  cases h1 : intB n1 xs
  · have hF0 := Lib.hid (show fRatMake n1 xs n2 us = ratZ by unfold fRatMake; rw [h1]; rfl)
    go_enter Tryz.func38, Tryz.ntmps38
    go_wp2_with fail
    refine (spec_IntOk _ _ _ _ _ HX.out).mono ?_
    rintro e w1 ⟨rfl, hb⟩
    rw [h1]
    have zw1 := hb.size
    replace Q1 := Q1.below hb (Nat.le_refl _)
    replace Q2 := Q2.below hb (Nat.le_refl _)
    replace hR := hR.below hb (Nat.le_refl _)
    replace HX := Lib.hid (HX.out.below hb (Nat.le_refl _))
    replace HU := Lib.hid (HU.out.below hb (Nat.le_refl _))
    have hB := hA.trans (hb.mono hA.size)
    clear hb
    have hRk := hR
    obtain ⟨⟨hrc0, hrc1, hrc2⟩, hrf0, hrf1, hrf2⟩ := hRk
    go_wp2
    refine bodyPost_ret (v := .tuple #[.agg #[.bool false, .slice none 0 0, .slice none 0 0], .bool false]) (by simp [results, Tryz.results38, go_sem, hrc0, hrc1, hrc2]) rfl ?_
    rw [hF0.out]
    exact sratPost2_zero (set3_below hB (by omega))
  cases h2 : intB n2 us
  · have hF0 := Lib.hid (show fRatMake n1 xs n2 us = ratZ by unfold fRatMake; rw [h1, h2]; rfl)
    go_enter Tryz.func38, Tryz.ntmps38
    go_wp2_with fail
    refine (spec_IntOk _ _ _ _ _ HX.out).mono ?_
    rintro e w1 ⟨rfl, hb⟩
    rw [h1]
    have zw1 := hb.size
    replace Q1 := Q1.below hb (Nat.le_refl _)
    replace Q2 := Q2.below hb (Nat.le_refl _)
    replace hR := hR.below hb (Nat.le_refl _)
    replace HX := Lib.hid (HX.out.below hb (Nat.le_refl _))
    replace HU := Lib.hid (HU.out.below hb (Nat.le_refl _))
    have hB := hA.trans (hb.mono hA.size)
    clear hb
    have Q2k := Q2
    obtain ⟨⟨q2c0, q2c1⟩, q2f0, q2f1⟩ := Q2k
    go_wp2_with fail
    refine (spec_IntOk _ _ _ _ _ HU.out).mono ?_
    rintro e w2 ⟨rfl, hb⟩
    rw [h2]
    clear q2c0 q2f0 q2c1 q2f1
    have zw2 := hb.size
    replace Q1 := Q1.below hb (Nat.le_refl _)
    replace Q2 := Q2.below hb (Nat.le_refl _)
    replace hR := hR.below hb (Nat.le_refl _)
    replace HX := Lib.hid (HX.out.below hb (Nat.le_refl _))
    replace HU := Lib.hid (HU.out.below hb (Nat.le_refl _))
    replace hB := hB.trans (hb.mono hB.size)
    clear hb
    have hRk := hR
    obtain ⟨⟨hrc0, hrc1, hrc2⟩, hrf0, hrf1, hrf2⟩ := hRk
    go_wp2
    refine bodyPost_ret (v := .tuple #[.agg #[.bool false, .slice none 0 0, .slice none 0 0], .bool false]) (by simp [results, Tryz.results38, go_sem, hrc0, hrc1, hrc2]) rfl ?_
    rw [hF0.out]
    exact sratPost2_zero (set3_below hB (by omega))
  obtain ⟨m, rfl, lm, -, -, -⟩ := intB_elim h1
  obtain ⟨k, rfl, lk, -, -, -⟩ := intB_elim h2
  by_cases hk : k = 0
  · subst hk
    have hF0 := Lib.hid (show fRatMake n1 (limbs m) n2 (limbs 0) = ratZ by unfold fRatMake; rw [limbs_zero]; simp)
    go_enter Tryz.func38, Tryz.ntmps38
    go_wp2_with fail
    refine (spec_IntOk _ _ _ _ _ HX.out).mono ?_
    rintro e w1 ⟨rfl, hb⟩
    rw [h1]
    have zw1 := hb.size
    replace Q1 := Q1.below hb (Nat.le_refl _)
    replace Q2 := Q2.below hb (Nat.le_refl _)
    replace hR := hR.below hb (Nat.le_refl _)
    replace HX := Lib.hid (HX.out.below hb (Nat.le_refl _))
    replace HU := Lib.hid (HU.out.below hb (Nat.le_refl _))
    have hB := hA.trans (hb.mono hA.size)
    clear hb
    have Q2k := Q2
    obtain ⟨⟨q2c0, q2c1⟩, q2f0, q2f1⟩ := Q2k
    go_wp2_with fail
    refine (spec_IntOk _ _ _ _ _ HU.out).mono ?_
    rintro e w2 ⟨rfl, hb⟩
    rw [h2]
    clear q2c0 q2f0 q2c1 q2f1
    have zw2 := hb.size
    replace Q1 := Q1.below hb (Nat.le_refl _)
    replace Q2 := Q2.below hb (Nat.le_refl _)
    replace hR := hR.below hb (Nat.le_refl _)
    replace HX := Lib.hid (HX.out.below hb (Nat.le_refl _))
    replace HU := Lib.hid (HU.out.below hb (Nat.le_refl _))
    replace hB := hB.trans (hb.mono hB.size)
    clear hb
    have Q1k := Q1
    obtain ⟨⟨q1c0, q1c1⟩, q1f0, q1f1⟩ := Q1k
    have Q2k := Q2
    obtain ⟨⟨q2c0, q2c1⟩, q2f0, q2f1⟩ := Q2k
    go_wp2_with fail
    refine (l05Low_zero (n1 != n2) _ _ m _ _ _ HX.out).mono ?_
    rintro e w3 ⟨⟨ea, ga, eb, gb, rfl, s1, l1, s2, l2⟩, hb⟩
    clear q1c0 q1f0 q1c1 q1f1
    clear q2c0 q2f0 q2c1 q2f1
    have zw3 := hb.size
    replace Q1 := Q1.below hb (Nat.le_refl _)
    replace Q2 := Q2.below hb (Nat.le_refl _)
    replace hR := hR.below hb (Nat.le_refl _)
    replace HX := Lib.hid (HX.out.below hb (Nat.le_refl _))
    replace HU := Lib.hid (HU.out.below hb (Nat.le_refl _))
    replace hB := hB.trans (hb.mono hB.size)
    clear hb
    have hRk := hR
    obtain ⟨⟨hrc0, hrc1, hrc2⟩, hrf0, hrf1, hrf2⟩ := hRk
    go_wp2
    refine bodyPost_ret (v := .tuple #[.agg #[.bool ratZ.1.1, .slice ea ratZ.1.2.1.length ga, .slice eb ratZ.1.2.2.length gb], .bool ratZ.2]) (by simp [results, Tryz.results38, go_sem, hrc0, hrc1, hrc2]) rfl ?_
    rw [hF0.out]
    exact ⟨⟨ea, ga, eb, gb, rfl, set3_own s1 (by omega) (by omega), l1, set3_own s2 (by omega) (by omega), l2⟩, set3_below (hB) (by omega)⟩
  have hk0 : 0 < k := Nat.pos_of_ne_zero hk
  have hkl : decide (0 < (limbs k).length) = true := decide_eq_true (limbs_pos_iff.2 hk0)
  obtain ⟨FX, hFX⟩ : ∃ F, F = low (n1 != n2) m k := ⟨_, rfl⟩
  have hF := Lib.hid (show fRatMake n1 (limbs m) n2 (limbs k) = FX by unfold fRatMake; rw [h1, h2, hkl, nv_limbs, nv_limbs, hFX]; rfl)
  clear hkl
  go_enter Tryz.func38, Tryz.ntmps38
  go_wp2_with fail
  refine (spec_IntOk _ _ _ _ _ HX.out).mono ?_
  rintro e w1 ⟨rfl, hb⟩
  rw [h1]
  have zw1 := hb.size
  replace Q1 := Q1.below hb (Nat.le_refl _)
  replace Q2 := Q2.below hb (Nat.le_refl _)
  replace hR := hR.below hb (Nat.le_refl _)
  replace HX := Lib.hid (HX.out.below hb (Nat.le_refl _))
  replace HU := Lib.hid (HU.out.below hb (Nat.le_refl _))
  have hB := hA.trans (hb.mono hA.size)
  clear hb
  have Q2k := Q2
  obtain ⟨⟨q2c0, q2c1⟩, q2f0, q2f1⟩ := Q2k
  go_wp2_with fail
  refine (spec_IntOk _ _ _ _ _ HU.out).mono ?_
  rintro e w2 ⟨rfl, hb⟩
  rw [h2]
  clear q2c0 q2f0 q2c1 q2f1
  have zw2 := hb.size
  replace Q1 := Q1.below hb (Nat.le_refl _)
  replace Q2 := Q2.below hb (Nat.le_refl _)
  replace hR := hR.below hb (Nat.le_refl _)
  replace HX := Lib.hid (HX.out.below hb (Nat.le_refl _))
  replace HU := Lib.hid (HU.out.below hb (Nat.le_refl _))
  replace hB := hB.trans (hb.mono hB.size)
  clear hb
  replace hFX := Lib.hid hFX
  have Q1k := Q1
  obtain ⟨⟨q1c0, q1c1⟩, q1f0, q1f1⟩ := Q1k
  have Q2k := Q2
  obtain ⟨⟨q2c0, q2c1⟩, q2f0, q2f1⟩ := Q2k
  go_wp2_with fail
  refine (low_F (n1 != n2) _ _ m _ _ k _ FX hFX.out HX.out HU.out (by omega) (by omega) hk0).mono ?_
  rintro e w3 ⟨⟨ea, ga, eb, gb, rfl, s1, l1, s2, l2⟩, hb⟩
  clear q1c0 q1f0 q1c1 q1f1
  clear q2c0 q2f0 q2c1 q2f1
  have zw3 := hb.size
  replace Q1 := Q1.below hb (Nat.le_refl _)
  replace Q2 := Q2.below hb (Nat.le_refl _)
  replace hR := hR.below hb (Nat.le_refl _)
  replace HX := Lib.hid (HX.out.below hb (Nat.le_refl _))
  replace HU := Lib.hid (HU.out.below hb (Nat.le_refl _))
  replace hB := hB.trans (hb.mono hB.size)
  clear hb
  have hRk := hR
  obtain ⟨⟨hrc0, hrc1, hrc2⟩, hrf0, hrf1, hrf2⟩ := hRk
  go_wp2
  refine bodyPost_ret (v := .tuple #[.agg #[.bool FX.1.1, .slice ea FX.1.2.1.length ga, .slice eb FX.1.2.2.length gb], .bool FX.2]) (by simp [results, Tryz.results38, go_sem, hrc0, hrc1, hrc2]) rfl ?_
  rw [hF.out]
  exact ⟨⟨ea, ga, eb, gb, rfl, set3_own s1 (by omega) (by omega), l1, set3_own s2 (by omega) (by omega), l2⟩, set3_below (hB) (by omega)⟩
end Go.Proofs.YtogkonenejfgmaaGreatDoor
namespace Go.Proofs.YtogkonenejfgmaaGreatDoor
open Go.RowKit
theorem sgnZ_pos {z : Int} (h : 0 < z) : sgnZ z = 1 := by unfold sgnZ; rw [if_neg (by omega), if_neg (by omega)]
theorem sgnZ_neg {z : Int} (h : z < 0) : sgnZ z = -1 := by unfold sgnZ; rw [if_pos h]
theorem cmpN_sgn (m n : Nat) : cmpN m n = sgnZ ((m : Int) - n) := by
  unfold cmpN
  by_cases h : m < n
  · rw [if_pos h, sgnZ_neg (by omega)]
  · by_cases e : m = n
    · subst e; rw [if_neg h, if_pos rfl, Int.sub_self]; rfl
    · rw [if_neg h, if_neg e, sgnZ_pos (by omega)]
theorem intSign_any (neg : Bool) (a : Option Addr) (c k : Nat) (w : World) (hl : (limbs k).length ≤ 100000) :
    Calls Tryz.prog 32 #[.agg #[.bool neg, .slice a (limbs k).length c]] w fun e w' => e = .returned (.int .i64 (sgnZ (zOf neg k))) ∧ Below w.heap.size w w' := by
  have hA := bel_alloc w (.cells #[.bool neg, .slice a (limbs k).length c] 25)
  by_cases h0 : k = 0
  · subst h0
    have e1 : (limbs 0).length = 0 := by rw [limbs_zero]; rfl
    have e2 : sgnZ (zOf neg 0) = 0 := by cases neg <;> rfl
    rw [e1] at hA ⊢
    rw [e2]
    go_enter Tryz.func32, Tryz.ntmps32
    go_wp2
    go_ret
    exact ⟨rfl, hA⟩
  · have hp := limbs_len_pos.2 h0
    have hz1 : ((limbs k).length : Int) ≠ 0 := by omega
    have hz2 : (((limbs k).length : Int) == 0) = false := by rw [beq_eq_false_iff_ne]; omega
    cases neg
    · have e2 : sgnZ (zOf false k) = 1 := sgnZ_pos (by unfold zOf; simp; omega)
      rw [e2]
      go_enter Tryz.func32, Tryz.ntmps32
      go_wp2
      go_ret
      exact ⟨rfl, hA⟩
    · have e2 : sgnZ (zOf true k) = -1 := sgnZ_neg (by unfold zOf; simp; omega)
      rw [e2]
      go_enter Tryz.func32, Tryz.ntmps32
      go_wp2
      go_ret
      exact ⟨rfl, hA⟩
end Go.Proofs.YtogkonenejfgmaaGreatDoor
namespace Go.Proofs.YtogkonenejfgmaaGreatDoor
open Go.RowKit
set_option linter.unusedSimpArgs false in
set_option maxHeartbeats 3200000 in
theorem intCmp_any (b1 b2 : Bool) (a b : Option Addr) (ca cb m n : Nat) (w : World) (hx : In w a ca (limbs m)) (hy : In w b cb (limbs n)) (lm : (limbs m).length ≤ 1000) (ln : (limbs n).length ≤ 1000) :
    Calls Tryz.prog 22 #[.agg #[.bool b1, .slice a (limbs m).length ca], .agg #[.bool b2, .slice b (limbs n).length cb]] w fun e w' => e = .returned (.int .i64 (sgnZ (zOf b1 m - zOf b2 n))) ∧ Below w.heap.size w w' := by
  have hA := ((bel_alloc w (.cells #[.bool b1, .slice a (limbs m).length ca] 25)).trans ((bel_alloc _ (.cells #[.bool b2, .slice b (limbs n).length cb] 25)).mono (by simp)))
  have B2 := box2 w (.bool b1) (.slice a (limbs m).length ca) (.bool b2) (.slice b (limbs n).length cb) 25
  have hzq : w.heap.size + 2 ≤ (World.alloc (World.alloc w (.cells #[.bool b1, .slice a (limbs m).length ca] 25)) (.cells #[.bool b2, .slice b (limbs n).length cb] 25)).heap.size := by simp only [World.size_alloc]; omega
  go_enter Tryz.func22, Tryz.ntmps22
  go_wp2_with fail
  obtain ⟨W5, hW5⟩ : ∃ x : World, x = (World.alloc (World.alloc w (.cells #[.bool b1, .slice a (limbs m).length ca] 25)) (.cells #[.bool b2, .slice b (limbs n).length cb] 25)) := ⟨_, rfl⟩
  rw [← hW5] at B2 hA hzq ⊢
  clear hW5
  have K0 := Lib.hid B2
  clear B2
  have hxq := Lib.hid (hx.below hA.drew (Nat.le_refl _))
  have hyq := Lib.hid (hy.below hA.drew (Nat.le_refl _))
  go_region_held3 (fun w' => w'.cell? ⟨w.heap.size, 0, none⟩ = some (.bool b1) ∧ w'.cell? ⟨w.heap.size, 1, none⟩ = some (.slice a (limbs m).length ca) ∧ w'.cell? ⟨w.heap.size + 1, 0, none⟩ = some (.bool b2) ∧ w'.cell? ⟨w.heap.size + 1, 1, none⟩ = some (.slice b (limbs n).length cb))
    (first | (exact ⟨k3_0.1, k3_0.2, k3_1.1, k3_1.2⟩) | (exact ⟨k2_0.1, k2_0.2, k2_1.1, k2_1.2⟩) | (exact ⟨k1_0.1, k1_0.2, k1_1.1, k1_1.2⟩) | (exact K0.out) | go_keep)
    (first | (go_at_call 46; refine (intNeg_any _ _ _ _ _ hyq.out).mono ?_; rintro e q1 ⟨⟨a1, c1, rfl, ho1⟩, hq1⟩; have hs1 := hq1.size; have k1_0 := keep2 (b := w.heap.size) (u := .bool b1) (v := .slice a (limbs m).length ca) hq1 (show _ < (W5).heap.size by omega) K0.out.1 K0.out.2.1; have k1_1 := keep2 (b := w.heap.size + 1) (u := .bool b2) (v := .slice b (limbs n).length cb) hq1 (show _ < (W5).heap.size by omega) K0.out.2.2.1 K0.out.2.2.2; have hs1' : (W5).heap.size ≤ q1.heap.size := hs1) | (go_at_call 19; refine (intAdd_z _ _ _ _ _ _ _ _ _ (hxq.out.below hq1 (Nat.le_refl _)) (ho1.inn (by omega)) (by omega) (by omega)).mono ?_; rintro e q2 ⟨⟨s, k, a2, c2, hk, hk0, hkl, rfl, ho2⟩, hq2⟩; have hs2 := hq2.size; have k2_0 := keep2 hq2 (by omega) k1_0.1 k1_0.2; have k2_1 := keep2 hq2 (by omega) k1_1.1 k1_1.2) | (go_at_call 32; refine (intSign_any _ _ _ _ _ (by omega)).mono ?_; rintro e q3 ⟨rfl, hq3⟩; have hs3 := hq3.size; have k3_0 := keep2 hq3 (by omega) k2_0.1 k2_0.2; have k3_1 := keep2 hq3 (by omega) k2_1.1 k2_1.2))
  go_wp2
  replace hA := ((hA.drew.trans (hq1.mono (show w.heap.size ≤ W5.heap.size by omega))).trans (hq2.mono (by omega))).trans (hq3.mono (by omega))
  go_ret
  refine ⟨?_, hA⟩
  rw [zOf_and, ← zOf_neg] at hk
  rw [show zOf b1 m - zOf b2 n = zOf s k from hk]
  rfl
end Go.Proofs.YtogkonenejfgmaaGreatDoor
