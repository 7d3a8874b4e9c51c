/- The walk of RatHalf (program and reference). (Printed by gen_rat2.py.) -/
import Derived.Test.YtoandabopahmhaaWRatC
namespace Go.Proofs.Ytoandabopahmhaa
open Go.RowKit
set_option linter.unusedVariables false
theorem limbs2 : limbs 2 = [2] := limbs_one (by omega)
theorem l02Cmp_two (a b : Option Addr) (ca cb m : Nat) (w : World) (hx : Rd w a (limbs m)) (hy : Rd w b (limbs 2)) (lx : (limbs m).length ≤ 1099511627776) :
    Calls Try.prog 59 #[.slice a (limbs m).length ca, .slice b 1 cb] w fun e w' => e = .returned (.int .i64 (cmpN m 2)) ∧ ∃ q, w' = w.drewN q := by
  have := l02Cmp_any a b ca cb m 2 w hx hy lx (by rw [limbs2]; decide)
  rw [limbs2] at this
  exact this
theorem cmpN_two (g : Nat) : decide (g = 2) = (cmpN g 2 == 0) := by
  unfold cmpN
  by_cases h : g = 2
  · subst h; rfl
  · by_cases h2 : g < 2
    · rw [if_pos h2]; simp; omega
    · rw [if_neg h2, if_neg h]; simp; omega
theorem two_one {g : Nat} {x : Int} (h1 : (limbs g).length ≤ 1) (h2 : 1 ≤ (limbs g).length) (hx : (limbs g).getD 0 0 = x) : decide (g = 2) = (x == 2) := by
  have hv := val_limbs g
  match hl : limbs g, h1, h2 with
  | [y], _, _ =>
    rw [hl] at hx hv
    obtain rfl : y = x := hx
    have hv2 : y + 1000000000 * 0 = (g : Int) := hv
    have hv3 : y = (g : Int) := by omega
    subst hv3
    by_cases h : g = 2
    · subst h; rfl
    · rw [decide_eq_false h, beq_eq_false_iff_ne.2 (by omega)]
theorem two_not {g : Nat} (h : ¬ ((limbs g).length ≤ 1 ∧ 1 ≤ (limbs g).length)) : decide (g = 2) = false := by
  apply decide_eq_false; intro e; subst e; apply h; rw [limbs2]; simp
set_option linter.unusedSimpArgs false in
set_option maxRecDepth 100000 in
set_option maxHeartbeats 40000000 in
theorem spec_RatHalf (n1 : Bool) (a1 : Option Addr) (c1 : Nat) (xs : List Int) (b1 : Option Addr) (d1 : Nat) (ys : List Int) (w : World) (hx : In w a1 c1 xs) (hy : In w b1 d1 ys) :
    Calls Try.prog 20 #[.agg #[.bool n1, .slice a1 xs.length c1, .slice b1 ys.length d1]] w fun e w' => e = .returned (.bool (fRatHalf n1 xs ys)) ∧ Below w.heap.size w w' := by
  have hA := (bel_alloc w (.cells #[.bool n1, .slice a1 xs.length c1, .slice b1 ys.length d1] 31))
  have hzA : w.heap.size + 1 ≤ (World.alloc w (.cells #[.bool n1, .slice a1 xs.length c1, .slice b1 ys.length d1] 31)).heap.size := by simp only [World.size_alloc]; omega
  have Q1 := (Box3.new w (.bool n1) (.slice a1 xs.length c1) (.slice b1 ys.length d1) 31 (w.heap.size) (by simp))
  have HX := Lib.hid (hx.below hA (Nat.le_refl _))
  have HY := Lib.hid (hy.below hA (Nat.le_refl _))
  cases h1 : ratB n1 xs ys
  · have hF0 := Lib.hid (show fRatHalf n1 xs ys = false by unfold fRatHalf; rw [h1]; rfl)
    go_enter Try.func20, Try.ntmps20
    go_wp2_with fail
    refine (spec_RatOk _ _ _ _ _ _ _ _ HX.out HY.out).mono ?_
    rintro e w1 ⟨rfl, hb⟩
    rw [h1]
    have zw1 := hb.size
    replace Q1 := Q1.below hb (Nat.le_refl _)
    replace HX := Lib.hid (HX.out.below hb (Nat.le_refl _))
    replace HY := Lib.hid (HY.out.below hb (Nat.le_refl _))
    have hB := hA.trans (hb.mono hA.size)
    clear hb
    go_wp2
    go_ret
    exact ⟨ret_bool hF0.out.symm, hB⟩
  have h1' := h1
  obtain ⟨m, n, rfl, rfl, lm, ln, hn0, -, -, -, -, -, -⟩ := ratB_elim h1'
  have hF := Lib.hid (show fRatHalf n1 (limbs m) (limbs n) = decide (n = 2) by unfold fRatHalf; rw [h1, nv_limbs]; rfl)
  go_enter Try.func20, Try.ntmps20
  go_wp2_with fail
  refine (spec_RatOk _ _ _ _ _ _ _ _ HX.out HY.out).mono ?_
  rintro e w1 ⟨rfl, hb⟩
  rw [h1]
  have zw1 := hb.size
  replace Q1 := Q1.below hb (Nat.le_refl _)
  replace HX := Lib.hid (HX.out.below hb (Nat.le_refl _))
  replace HY := Lib.hid (HY.out.below hb (Nat.le_refl _))
  have hB := hA.trans (hb.mono hA.size)
  clear hb
  have Q1k := Q1
  obtain ⟨⟨q1c0, q1c1, q1c2⟩, q1f0, q1f1, q1f2⟩ := Q1k
  have hb := bel_alloc w1 (.cells #[.int .i64 2] 3)
  have HYn := Lib.hid (HY.out.below hb (Nat.le_refl _))
  have HB := Lib.hid (hB.trans (hb.mono hB.size))
  clear hb
  go_wp2_with fail
  refine (l02Cmp_two _ _ _ _ n _ HYn.out.1 (rd_one w1 2 (by omega)) (by omega)).mono ?_
  rintro e w4 ⟨rfl, q, rfl⟩
  go_wp2
  go_ret
  exact ⟨ret_bool (by rw [hF.out]; exact (cmpN_two _).symm), bel_drewN HB.out _⟩
set_option linter.unusedSimpArgs false in
set_option maxRecDepth 100000 in
set_option maxHeartbeats 40000000 in
theorem impl_RatHalf (n1 : Bool) (a1 : Option Addr) (c1 : Nat) (xs : List Int) (b1 : Option Addr) (d1 : Nat) (ys : List Int) (w : World) (hx : In w a1 c1 xs) (hy : In w b1 d1 ys) :
    Calls Try.prog 21 #[.agg #[.bool n1, .slice a1 xs.length c1, .slice b1 ys.length d1]] w fun e w' => e = .returned (.bool (fRatHalf n1 xs ys)) ∧ Below w.heap.size w w' := by
  have hA := (bel_alloc w (.cells #[.bool n1, .slice a1 xs.length c1, .slice b1 ys.length d1] 31))
  have hzA : w.heap.size + 1 ≤ (World.alloc w (.cells #[.bool n1, .slice a1 xs.length c1, .slice b1 ys.length d1] 31)).heap.size := by simp only [World.size_alloc]; omega
  have Q1 := (Box3.new w (.bool n1) (.slice a1 xs.length c1) (.slice b1 ys.length d1) 31 (w.heap.size) (by simp))
  have HX := Lib.hid (hx.below hA (Nat.le_refl _))
  have HY := Lib.hid (hy.below hA (Nat.le_refl _))
  cases h1 : ratB n1 xs ys
  · have hF0 := Lib.hid (show fRatHalf n1 xs ys = false by unfold fRatHalf; rw [h1]; rfl)
    go_enter Try.func21, Try.ntmps21
    go_wp2_with fail
    refine (impl_RatOk _ _ _ _ _ _ _ _ HX.out HY.out).mono ?_
    rintro e w1 ⟨rfl, hb⟩
    rw [h1]
    have zw1 := hb.size
    replace Q1 := Q1.below hb (Nat.le_refl _)
    replace HX := Lib.hid (HX.out.below hb (Nat.le_refl _))
    replace HY := Lib.hid (HY.out.below hb (Nat.le_refl _))
    have hB := hA.trans (hb.mono hA.size)
    clear hb
    go_wp2
    go_ret
    exact ⟨ret_bool hF0.out.symm, hB⟩
  have h1' := h1
  obtain ⟨m, n, rfl, rfl, lm, ln, hn0, -, -, -, -, -, -⟩ := ratB_elim h1'
  have hF := Lib.hid (show fRatHalf n1 (limbs m) (limbs n) = decide (n = 2) by unfold fRatHalf; rw [h1, nv_limbs]; rfl)
  go_enter Try.func21, Try.ntmps21
  go_wp2_with fail
  refine (impl_RatOk _ _ _ _ _ _ _ _ HX.out HY.out).mono ?_
  rintro e w1 ⟨rfl, hb⟩
  rw [h1]
  have zw1 := hb.size
  replace Q1 := Q1.below hb (Nat.le_refl _)
  replace HX := Lib.hid (HX.out.below hb (Nat.le_refl _))
  replace HY := Lib.hid (HY.out.below hb (Nat.le_refl _))
  have hB := hA.trans (hb.mono hA.size)
  clear hb
  have Q1k := Q1
  obtain ⟨⟨q1c0, q1c1, q1c2⟩, q1f0, q1f1, q1f2⟩ := Q1k
  by_cases h6 : (limbs n).length ≤ 1 ∧ 1 ≤ (limbs n).length
  · obtain ⟨h6, h7⟩ := h6
    obtain ⟨bx, ox, x, rfl, hbx, hcx, hx1⟩ := HY.out.1.at 0 (by omega)
    rw [Nat.add_zero] at hcx
    have H2 := Lib.hid (hF.out.trans (two_one h6 h7 hx1.out))
    have hz : (((limbs n).length : Int) == 1) = true := by rw [beq_iff_eq]; omega
    clear hF
    go_wp2
    go_ret
    exact ⟨ret_bool (by rw [H2.out]), hB⟩
  · have H2 := Lib.hid (hF.out.trans (two_not h6))
    have hz : (((limbs n).length : Int) == 1) = false := by rw [beq_eq_false_iff_ne]; omega
    clear hF
    go_wp2
    go_ret
    exact ⟨ret_bool H2.out.symm, hB⟩
end Go.Proofs.Ytoandabopahmhaa
