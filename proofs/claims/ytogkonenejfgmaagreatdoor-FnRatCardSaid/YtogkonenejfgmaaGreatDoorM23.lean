/- The walks of RatOk (program and reference) and ratsOk. For every value within the reach. (Printed by gen_rat.py.) -/
import Derived.Test.YtogkonenejfgmaaGreatDoorM22
import Derived.Test.YtogkonenejfgmaaGreatDoorM21
namespace Go.Proofs.YtogkonenejfgmaaGreatDoor
open Go.RowKit
set_option linter.unusedVariables false
theorem limbs1 : limbs 1 = [1] := limbs_one (by omega)
theorem ratB_gcd {neg : Bool} {xs ys : List Int} (h1 : intB neg xs = true) (h2 : natB ys = true) (h3 : ¬ ys.length ≤ 0) (h4 : ¬ 18 < ys.length) (h5 : ¬ 18 < xs.length) : ratB neg xs ys = (Nat.gcd (nv xs) (nv ys) == 1) := by
  unfold ratB; rw [h1, h2, decide_eq_true (by omega : 0 < ys.length), decide_eq_true (by omega : ys.length ≤ 18), decide_eq_true (by omega : xs.length ≤ 18)]; rfl
theorem cmpN_one (g : Nat) : (g == 1) = (cmpN g 1 == 0) := by
  unfold cmpN
  by_cases h : g = 1
  · subst h; rfl
  · by_cases h2 : g < 1
    · rw [if_pos h2]; simp; omega
    · rw [if_neg h2, if_neg h]; simp; omega
theorem gcd_one {g : Nat} {x : Int} (h1 : (limbs g).length ≤ 1) (h2 : 1 ≤ (limbs g).length) (hx : (limbs g).getD 0 0 = x) : (g == 1) = (x == 1) := by
  have hv := val_limbs g
  match hl : limbs g, h1, h2 with
  | [y], _, _ =>
    rw [hl] at hx hv
    obtain rfl : y = x := hx
    have hv2 : y + 1000000000 * 0 = (g : Int) := hv
    have hv3 : y = (g : Int) := by omega
    subst hv3
    by_cases h : g = 1
    · subst h; rfl
    · rw [beq_eq_false_iff_ne.2 h, beq_eq_false_iff_ne.2 (by omega)]
theorem gcd_not {g : Nat} (h : ¬ ((limbs g).length ≤ 1 ∧ 1 ≤ (limbs g).length)) : (g == 1) = false := by
  rw [beq_eq_false_iff_ne]; intro e; subst e; apply h; rw [limbs1]; simp
theorem l02Cmp_one (a b : Option Addr) (ca cb m : Nat) (w : World) (hx : Rd w a (limbs m)) (hy : Rd w b (limbs 1)) (lx : (limbs m).length ≤ 1099511627776) :
    Calls Tryz.prog 79 #[.slice a (limbs m).length ca, .slice b 1 cb] w fun e w' => e = .returned (.int .i64 (cmpN m 1)) ∧ ∃ q, w' = w.drewN q := by
  have := l02Cmp_any a b ca cb m 1 w hx hy lx (by rw [limbs1]; decide)
  rw [limbs1] at this
  exact this
set_option maxHeartbeats 3200000 in
theorem impl_RatOk (neg : Bool) (a : Option Addr) (c : Nat) (xs : List Int) (b : Option Addr) (d : Nat) (ys : List Int) (w : World) (hx : In w a c xs) (hy : In w b d ys) :
    Calls Tryz.prog 28 #[.agg #[.bool neg, .slice a xs.length c, .slice b ys.length d]] w fun e w' => e = .returned (.bool (ratB neg xs ys)) ∧ Below w.heap.size w w' := by
  have hA := bel_alloc w (.cells #[.bool neg, .slice a xs.length c, .slice b ys.length d] 27)
  have HX := Lib.hid (hx.below hA (Nat.le_refl _))
  have HY := Lib.hid (hy.below hA (Nat.le_refl _))
  have lx := hx.2.2
  have ly := hy.2.2
  cases h1 : intB neg xs
  · have H := Lib.hid (show ratB neg xs ys = false by unfold ratB; rw [h1]; rfl)
    go_enter Tryz.func28, Tryz.ntmps28
    go_wp2_with fail
    refine (impl_IntOk _ _ _ _ _ HX.out).mono ?_
    rintro e w1 ⟨rfl, hb1⟩
    rw [h1]
    have hB := hA.trans (hb1.mono hA.size)
    go_wp2
    go_ret
    exact ⟨ret_bool H.out.symm, hB⟩
  cases h2 : natB ys
  · have H := Lib.hid (show ratB neg xs ys = false by unfold ratB; rw [h1, h2]; rfl)
    go_enter Tryz.func28, Tryz.ntmps28
    go_wp2_with fail
    refine (impl_IntOk _ _ _ _ _ HX.out).mono ?_
    rintro e w1 ⟨rfl, hb1⟩
    rw [h1]
    have hB := hA.trans (hb1.mono hA.size)
    obtain ⟨hc, hf⟩ := bcell hb1
    have HY2 := Lib.hid (HY.out.below hb1 (Nat.le_refl _))
    have HX2 := Lib.hid (HX.out.below hb1 (Nat.le_refl _))
    go_wp2_with fail
    refine (impl_NatOk _ _ _ _ HY2.out.1 hy.maxLen).mono ?_
    rintro e w2 ⟨rfl, rfl⟩
    rw [h2]
    go_wp2
    go_ret
    exact ⟨ret_bool H.out.symm, hB⟩
  by_cases h3 : ys.length ≤ 0
  · have H := Lib.hid (show ratB neg xs ys = false by unfold ratB; rw [h1, h2, decide_eq_false (by omega : ¬ 0 < ys.length)]; rfl)
    have z3 : ((ys.length : Int) == 0) = true := by rw [beq_iff_eq]; omega
    go_enter Tryz.func28, Tryz.ntmps28
    go_wp2_with fail
    refine (impl_IntOk _ _ _ _ _ HX.out).mono ?_
    rintro e w1 ⟨rfl, hb1⟩
    rw [h1]
    have hB := hA.trans (hb1.mono hA.size)
    obtain ⟨hc, hf⟩ := bcell hb1
    have HY2 := Lib.hid (HY.out.below hb1 (Nat.le_refl _))
    have HX2 := Lib.hid (HX.out.below hb1 (Nat.le_refl _))
    go_wp2_with fail
    refine (impl_NatOk _ _ _ _ HY2.out.1 hy.maxLen).mono ?_
    rintro e w2 ⟨rfl, rfl⟩
    rw [h2]
    go_wp2
    go_ret
    exact ⟨ret_bool H.out.symm, hB⟩
  by_cases h4 : 18 < ys.length
  · have H := Lib.hid (show ratB neg xs ys = false by unfold ratB; rw [h1, h2, decide_eq_false (by omega : ¬ ys.length ≤ 18)]; simp)
    have z3 : ((ys.length : Int) == 0) = false := by rw [beq_eq_false_iff_ne]; omega
    have z4 : decide (18 < (ys.length : Int)) = true := decide_eq_true (by omega)
    go_enter Tryz.func28, Tryz.ntmps28
    go_wp2_with fail
    refine (impl_IntOk _ _ _ _ _ HX.out).mono ?_
    rintro e w1 ⟨rfl, hb1⟩
    rw [h1]
    have hB := hA.trans (hb1.mono hA.size)
    obtain ⟨hc, hf⟩ := bcell hb1
    have HY2 := Lib.hid (HY.out.below hb1 (Nat.le_refl _))
    have HX2 := Lib.hid (HX.out.below hb1 (Nat.le_refl _))
    go_wp2_with fail
    refine (impl_NatOk _ _ _ _ HY2.out.1 hy.maxLen).mono ?_
    rintro e w2 ⟨rfl, rfl⟩
    rw [h2]
    go_wp2
    go_ret
    exact ⟨ret_bool H.out.symm, hB⟩
  by_cases h5 : 18 < xs.length
  · have H := Lib.hid (show ratB neg xs ys = false by unfold ratB; rw [h1, h2, decide_eq_false (by omega : ¬ xs.length ≤ 18)]; simp)
    have z3 : ((ys.length : Int) == 0) = false := by rw [beq_eq_false_iff_ne]; omega
    have z4 : decide (18 < (ys.length : Int)) = false := decide_eq_false (by omega)
    have z5 : decide (18 < (xs.length : Int)) = true := decide_eq_true (by omega)
    go_enter Tryz.func28, Tryz.ntmps28
    go_wp2_with fail
    refine (impl_IntOk _ _ _ _ _ HX.out).mono ?_
    rintro e w1 ⟨rfl, hb1⟩
    rw [h1]
    have hB := hA.trans (hb1.mono hA.size)
    obtain ⟨hc, hf⟩ := bcell hb1
    have HY2 := Lib.hid (HY.out.below hb1 (Nat.le_refl _))
    have HX2 := Lib.hid (HX.out.below hb1 (Nat.le_refl _))
    go_wp2_with fail
    refine (impl_NatOk _ _ _ _ HY2.out.1 hy.maxLen).mono ?_
    rintro e w2 ⟨rfl, rfl⟩
    rw [h2]
    go_wp2
    go_ret
    exact ⟨ret_bool H.out.symm, hB⟩
  have z3 : ((ys.length : Int) == 0) = false := by rw [beq_eq_false_iff_ne]; omega
  have z4 : decide (18 < (ys.length : Int)) = false := decide_eq_false (by omega)
  have z5 : decide (18 < (xs.length : Int)) = false := decide_eq_false (by omega)
  have H0 := ratB_gcd h1 h2 h3 h4 h5
  obtain ⟨m, rfl, hm, -⟩ := intB_elim h1
  obtain ⟨n, rfl, hn⟩ := natB_elim h2
  rw [nv_limbs, nv_limbs] at H0
  have H := Lib.hid H0
  clear H0
  go_enter Tryz.func28, Tryz.ntmps28
  go_wp2_with fail
  refine (impl_IntOk _ _ _ _ _ HX.out).mono ?_
  rintro e w1 ⟨rfl, hb1⟩
  rw [h1]
  have hB := hA.trans (hb1.mono hA.size)
  obtain ⟨hc, hf⟩ := bcell hb1
  have HY2 := Lib.hid (HY.out.below hb1 (Nat.le_refl _))
  have HX2 := Lib.hid (HX.out.below hb1 (Nat.le_refl _))
  go_wp2_with fail
  refine (impl_NatOk _ _ _ _ HY2.out.1 hy.maxLen).mono ?_
  rintro e w2 ⟨rfl, rfl⟩
  rw [h2]
  go_wp2_with fail
  refine (natGcd_any _ _ _ _ _ _ _ HX2.out.1 HY2.out.1 (by omega) (by omega)).mono ?_
  rintro e w3 ⟨⟨a3, c3, rfl, ho⟩, hb3⟩
  have hB3 := hB.trans (hb3.mono hB.size)
  have HB := Lib.hid hB3
  clear hc hf hb3 hB hB3 hb1 HX HY
  by_cases h6 : (limbs (Nat.gcd m n)).length ≤ 1 ∧ 1 ≤ (limbs (Nat.gcd m n)).length
  · obtain ⟨h6, h7⟩ := h6
    obtain ⟨bx, ox, x, rfl, hbx, hcx, hx1⟩ := ho.rd.at 0 (by omega)
    rw [Nat.add_zero] at hcx
    have H2 := Lib.hid (H.out.trans (gcd_one h6 h7 hx1.out))
    clear H ho
    have hz : (((limbs (Nat.gcd m n)).length : Int) == 1) = true := by rw [beq_iff_eq]; omega
    go_wp2
    go_ret
    exact ⟨ret_bool (by rw [H2.out]), HB.out⟩
  · have H2 := Lib.hid (H.out.trans (gcd_not h6))
    have hz : (((limbs (Nat.gcd m n)).length : Int) == 1) = false := by rw [beq_eq_false_iff_ne]; omega
    clear H ho
    go_wp2
    go_ret
    exact ⟨ret_bool H2.out.symm, HB.out⟩
set_option maxHeartbeats 800000 in
theorem ratsOk_any (n1 : Bool) (a : Option Addr) (c : Nat) (xs : List Int) (b : Option Addr) (d : Nat) (ys : List Int) (n2 : Bool) (a2 : Option Addr) (c2 : Nat) (us : List Int) (b2 : Option Addr) (d2 : Nat) (vs : List Int) (w : World) (hx : In w a c xs) (hy : In w b d ys) (hu : In w a2 c2 us) (hv : In w b2 d2 vs) :
    Calls Tryz.prog 16 #[.agg #[.bool n1, .slice a xs.length c, .slice b ys.length d], .agg #[.bool n2, .slice a2 us.length c2, .slice b2 vs.length d2]] w fun e w' => e = .returned (.bool (ratB n1 xs ys && ratB n2 us vs)) ∧ Below w.heap.size w w' := by
  have hA := (bel_alloc w (.cells #[.bool n1, .slice a xs.length c, .slice b ys.length d] 27)).trans ((bel_alloc _ (.cells #[.bool n2, .slice a2 us.length c2, .slice b2 vs.length d2] 27)).mono (by simp))
  have HX := Lib.hid (hx.below hA (Nat.le_refl _))
  have HY := Lib.hid (hy.below hA (Nat.le_refl _))
  have HU := Lib.hid (hu.below hA (Nat.le_refl _))
  have HV := Lib.hid (hv.below hA (Nat.le_refl _))
  go_enter Tryz.func16, Tryz.ntmps16
  go_wp2_with fail
  refine (impl_RatOk _ _ _ _ _ _ _ _ HX.out HY.out).mono ?_
  rintro e w1 ⟨rfl, hb1⟩
  have hB := hA.trans (hb1.mono hA.size)
  cases h1 : ratB n1 xs ys
  · go_wp2
    go_ret
    exact ⟨ret_bool (by rw [h1]; rfl), hB⟩
  · obtain ⟨hc, hf⟩ := bcell hb1
    have HU2 := Lib.hid (HU.out.below hb1 (Nat.le_refl _))
    have HV2 := Lib.hid (HV.out.below hb1 (Nat.le_refl _))
    go_wp2_with fail
    refine (impl_RatOk _ _ _ _ _ _ _ _ HU2.out HV2.out).mono ?_
    rintro e w2 ⟨rfl, hb2⟩
    have hB2 := hB.trans (hb2.mono hB.size)
    go_wp2
    go_ret
    exact ⟨ret_bool (by rw [h1]; rfl), hB2⟩
end Go.Proofs.YtogkonenejfgmaaGreatDoor
