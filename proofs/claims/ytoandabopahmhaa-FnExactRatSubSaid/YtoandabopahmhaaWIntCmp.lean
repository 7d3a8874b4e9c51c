/- The walks of intSign, intCmp, IntSign, IntCmp (program and reference). For every two integers within the reach. -/
import Derived.Test.YtoandabopahmhaaWIntFn
namespace Go.Proofs.Ytoandabopahmhaa
open Go.RowKit
theorem sgnZ_pos {z : Int} (h : 0 < z) : sgnZ z = 1 := by unfold sgnZ; rw [if_neg (by omega), if_neg (by omega)]
theorem sgnZ_neg {z : Int} (h : z < 0) : sgnZ z = -1 := by unfold sgnZ; rw [if_pos h]
theorem cmpN_sgn (m n : Nat) : cmpN m n = sgnZ ((m : Int) - n) := by
  unfold cmpN
  by_cases h : m < n
  · rw [if_pos h, sgnZ_neg (by omega)]
  · by_cases e : m = n
    · subst e; rw [if_neg h, if_pos rfl, Int.sub_self]; rfl
    · rw [if_neg h, if_neg e, sgnZ_pos (by omega)]
theorem intSign_any (neg : Bool) (a : Option Addr) (c k : Nat) (w : World) (hl : (limbs k).length ≤ 100000) :
    Calls Try.prog 67 #[.agg #[.bool neg, .slice a (limbs k).length c]] w fun e w' => e = .returned (.int .i64 (sgnZ (zOf neg k))) ∧ Below w.heap.size w w' := by
  have hA := bel_alloc w (.cells #[.bool neg, .slice a (limbs k).length c] 29)
  by_cases h0 : k = 0
  · subst h0
    have e1 : (limbs 0).length = 0 := by rw [limbs_zero]; rfl
    have e2 : sgnZ (zOf neg 0) = 0 := by cases neg <;> rfl
    rw [e1] at hA ⊢
    rw [e2]
    go_enter Try.func67, Try.ntmps67
    go_wp2
    go_ret
    exact ⟨rfl, hA⟩
  · have hp := limbs_len_pos.2 h0
    have hz1 : ((limbs k).length : Int) ≠ 0 := by omega
    have hz2 : (((limbs k).length : Int) == 0) = false := by rw [beq_eq_false_iff_ne]; omega
    cases neg
    · have e2 : sgnZ (zOf false k) = 1 := sgnZ_pos (by unfold zOf; simp; omega)
      rw [e2]
      go_enter Try.func67, Try.ntmps67
      go_wp2
      go_ret
      exact ⟨rfl, hA⟩
    · have e2 : sgnZ (zOf true k) = -1 := sgnZ_neg (by unfold zOf; simp; omega)
      rw [e2]
      go_enter Try.func67, Try.ntmps67
      go_wp2
      go_ret
      exact ⟨rfl, hA⟩
set_option maxHeartbeats 3200000 in
theorem spec_IntCmp (b1 b2 : Bool) (a b : Option Addr) (ca cb : Nat) (xs ys : List Int) (w : World) (hx : In w a ca xs) (hy : In w b cb ys) :
    Calls Try.prog 78 #[.agg #[.bool b1, .slice a xs.length ca], .agg #[.bool b2, .slice b ys.length cb]] w fun e w' => e = .returned (.int .i64 (fICmp b1 xs b2 ys)) ∧ Below w.heap.size w w' := by
  have hA := (bel_alloc w (.cells #[.bool b1, .slice a xs.length ca] 29)).trans ((bel_alloc _ (.cells #[.bool b2, .slice b ys.length cb] 29)).mono (by simp))
  have hxA := Lib.hid (hx.below hA (Nat.le_refl _))
  have hyA := Lib.hid (hy.below hA (Nat.le_refl _))
  cases h1 : intB b1 xs
  · have hF0 : fICmp b1 xs b2 ys = 0 := by unfold fICmp; rw [h1]; rfl
    go_enter Try.func78, Try.ntmps78
    go_wp2_with fail
    refine (spec_IntOk _ _ _ _ _ hxA.out).mono ?_
    rintro e w1 ⟨rfl, hb1⟩
    rw [h1]
    have hB := hA.trans (hb1.mono hA.size)
    go_wp2
    go_ret
    exact ⟨by rw [hF0]; rfl, hB⟩
  cases h2 : intB b2 ys
  · have hF0 : fICmp b1 xs b2 ys = 0 := by unfold fICmp; rw [h1, h2]; rfl
    go_enter Try.func78, Try.ntmps78
    go_wp2_with fail
    refine (spec_IntOk _ _ _ _ _ hxA.out).mono ?_
    rintro e w1 ⟨rfl, hb1⟩
    rw [h1]
    have hB := hA.trans (hb1.mono hA.size)
    obtain ⟨hc, hf⟩ := bcell hb1
    go_wp2_with fail
    refine (spec_IntOk _ _ _ _ _ (hyA.out.below hb1 (Nat.le_refl _))).mono ?_
    rintro e w2 ⟨rfl, hb2⟩
    rw [h2]
    replace hB := hB.trans (hb2.mono hB.size)
    go_wp2
    go_ret
    exact ⟨by rw [hF0]; rfl, hB⟩
  obtain ⟨m, rfl, hm, hmz, hv1, -⟩ := intB_elim h1
  obtain ⟨n, rfl, hn, hnz, hv2, -⟩ := intB_elim h2
  have hF : fICmp b1 (limbs m) b2 (limbs n) = sgnZ (zOf b1 m - zOf b2 n) := by unfold fICmp; rw [h1, h2, hv1, hv2]; rfl
  rw [hF]
  clear hF hv1 hv2
  cases b1 <;> cases b2
  · have e1 : sgnZ (zOf false m - zOf false n) = cmpN m n := by rw [cmpN_sgn]; rfl
    rw [e1]
    go_enter Try.func78, Try.ntmps78
    go_wp2_with fail
    refine (spec_IntOk _ _ _ _ _ hxA.out).mono ?_
    rintro e w1 ⟨rfl, hb1⟩
    rw [h1]
    obtain ⟨hc, hf⟩ := bcell hb1
    go_wp2_with fail
    refine (spec_IntOk _ _ _ _ _ (hyA.out.below hb1 (Nat.le_refl _))).mono ?_
    rintro e w2 ⟨rfl, hb2⟩
    rw [h2]
    have hbW := hb1.trans (hb2.mono hb1.size)
    have hB := hA.trans (hbW.mono hA.size)
    clear hc hf
    obtain ⟨hc, hf⟩ := bcell hbW
    have hxq := Lib.hid (hxA.out.below hbW (Nat.le_refl _))
    have hyq := Lib.hid (hyA.out.below hbW (Nat.le_refl _))
    go_wp2_with fail
    refine (l02Cmp_any _ _ _ _ _ _ _ hxq.out.1 hyq.out.1 hxq.out.2.2 hyq.out.2.2).mono ?_
    rintro e w3 ⟨rfl, q, rfl⟩
    replace hB := bel_drewN hB q
    go_wp2
    go_ret
    exact ⟨rfl, hB⟩
  · have hlt := hnz rfl
    have e1 : sgnZ (zOf false m - zOf true n) = 1 := sgnZ_pos (by unfold zOf; simp; omega)
    rw [e1]
    go_enter Try.func78, Try.ntmps78
    go_wp2_with fail
    refine (spec_IntOk _ _ _ _ _ hxA.out).mono ?_
    rintro e w1 ⟨rfl, hb1⟩
    rw [h1]
    obtain ⟨hc, hf⟩ := bcell hb1
    go_wp2_with fail
    refine (spec_IntOk _ _ _ _ _ (hyA.out.below hb1 (Nat.le_refl _))).mono ?_
    rintro e w2 ⟨rfl, hb2⟩
    rw [h2]
    have hbW := hb1.trans (hb2.mono hb1.size)
    have hB := hA.trans (hbW.mono hA.size)
    clear hc hf
    obtain ⟨hc, hf⟩ := bcell hbW
    go_wp2
    go_ret
    exact ⟨rfl, hB⟩
  · have hlt := hmz rfl
    have e1 : sgnZ (zOf true m - zOf false n) = -1 := sgnZ_neg (by unfold zOf; simp; omega)
    rw [e1]
    go_enter Try.func78, Try.ntmps78
    go_wp2_with fail
    refine (spec_IntOk _ _ _ _ _ hxA.out).mono ?_
    rintro e w1 ⟨rfl, hb1⟩
    rw [h1]
    obtain ⟨hc, hf⟩ := bcell hb1
    go_wp2_with fail
    refine (spec_IntOk _ _ _ _ _ (hyA.out.below hb1 (Nat.le_refl _))).mono ?_
    rintro e w2 ⟨rfl, hb2⟩
    rw [h2]
    have hbW := hb1.trans (hb2.mono hb1.size)
    have hB := hA.trans (hbW.mono hA.size)
    clear hc hf
    obtain ⟨hc, hf⟩ := bcell hbW
    go_wp2
    go_ret
    exact ⟨rfl, hB⟩
  · have e1 : sgnZ (zOf true m - zOf true n) = cmpN n m := by rw [cmpN_sgn, show zOf true m - zOf true n = (n : Int) - m by unfold zOf; simp; omega]
    rw [e1]
    go_enter Try.func78, Try.ntmps78
    go_wp2_with fail
    refine (spec_IntOk _ _ _ _ _ hxA.out).mono ?_
    rintro e w1 ⟨rfl, hb1⟩
    rw [h1]
    obtain ⟨hc, hf⟩ := bcell hb1
    go_wp2_with fail
    refine (spec_IntOk _ _ _ _ _ (hyA.out.below hb1 (Nat.le_refl _))).mono ?_
    rintro e w2 ⟨rfl, hb2⟩
    rw [h2]
    have hbW := hb1.trans (hb2.mono hb1.size)
    have hB := hA.trans (hbW.mono hA.size)
    clear hc hf
    obtain ⟨hc, hf⟩ := bcell hbW
    have hxq := Lib.hid (hxA.out.below hbW (Nat.le_refl _))
    have hyq := Lib.hid (hyA.out.below hbW (Nat.le_refl _))
    go_wp2_with fail
    refine (l02Cmp_any _ _ _ _ _ _ _ hyq.out.1 hxq.out.1 hyq.out.2.2 hxq.out.2.2).mono ?_
    rintro e w3 ⟨rfl, q, rfl⟩
    replace hB := bel_drewN hB q
    go_wp2
    go_ret
    exact ⟨rfl, hB⟩
end Go.Proofs.Ytoandabopahmhaa
