/- The walk of RatSign (program). (Printed by gen_rat2.py.) -/
import Derived.Test.YtoandabopahmhaaWRatC
namespace Go.Proofs.Ytoandabopahmhaa
open Go.RowKit
set_option linter.unusedVariables false
set_option linter.unusedSimpArgs false in
set_option maxRecDepth 100000 in
set_option maxHeartbeats 40000000 in
theorem impl_RatSign (n1 : Bool) (a1 : Option Addr) (c1 : Nat) (xs : List Int) (b1 : Option Addr) (d1 : Nat) (ys : List Int) (w : World) (hx : In w a1 c1 xs) (hy : In w b1 d1 ys) :
    Calls Try.prog 23 #[.agg #[.bool n1, .slice a1 xs.length c1, .slice b1 ys.length d1]] w fun e w' => e = .returned (.int .i64 (fRatSign n1 xs ys)) ∧ Below w.heap.size w w' := by
  have hA := (bel_alloc w (.cells #[.bool n1, .slice a1 xs.length c1, .slice b1 ys.length d1] 31))
  have hzA : w.heap.size + 1 ≤ (World.alloc w (.cells #[.bool n1, .slice a1 xs.length c1, .slice b1 ys.length d1] 31)).heap.size := by simp only [World.size_alloc]; omega
  have Q1 := (Box3.new w (.bool n1) (.slice a1 xs.length c1) (.slice b1 ys.length d1) 31 (w.heap.size) (by simp))
  have HX := Lib.hid (hx.below hA (Nat.le_refl _))
  have HY := Lib.hid (hy.below hA (Nat.le_refl _))
  cases h1 : ratB n1 xs ys
  · have hF0 := Lib.hid (show fRatSign n1 xs ys = 0 by unfold fRatSign; rw [h1]; rfl)
    go_enter Try.func23, Try.ntmps23
    go_wp2_with fail
    refine (impl_RatOk _ _ _ _ _ _ _ _ HX.out HY.out).mono ?_
    rintro e w1 ⟨rfl, hb⟩
    rw [h1]
    have zw1 := hb.size
    replace Q1 := Q1.below hb (Nat.le_refl _)
    replace HX := Lib.hid (HX.out.below hb (Nat.le_refl _))
    replace HY := Lib.hid (HY.out.below hb (Nat.le_refl _))
    have hB := hA.trans (hb.mono hA.size)
    clear hb
    go_wp2
    go_ret
    exact ⟨by rw [hF0.out]; rfl, hB⟩
  obtain ⟨m, n, rfl, rfl, lm, ln, hn0, -, -, -, -, -, hs⟩ := ratB_elim h1
  have hF := Lib.hid (show fRatSign n1 (limbs m) (limbs n) = sgnZ (zOf n1 m) by unfold fRatSign; rw [h1, hs]; rfl)
  clear hs
  go_enter Try.func23, Try.ntmps23
  go_wp2_with fail
  refine (impl_RatOk _ _ _ _ _ _ _ _ HX.out HY.out).mono ?_
  rintro e w1 ⟨rfl, hb⟩
  rw [h1]
  have zw1 := hb.size
  replace Q1 := Q1.below hb (Nat.le_refl _)
  replace HX := Lib.hid (HX.out.below hb (Nat.le_refl _))
  replace HY := Lib.hid (HY.out.below hb (Nat.le_refl _))
  have hB := hA.trans (hb.mono hA.size)
  clear hb
  have Q1k := Q1
  obtain ⟨⟨q1c0, q1c1, q1c2⟩, q1f0, q1f1, q1f2⟩ := Q1k
  go_wp2_with fail
  refine (intSign_any _ _ _ m _ (by omega)).mono ?_
  rintro e w3 ⟨rfl, hb⟩
  replace hB := hB.trans (hb.mono hB.size)
  go_wp2
  go_ret
  exact ⟨by rw [hF.out]; rfl, hB⟩
end Go.Proofs.Ytoandabopahmhaa
