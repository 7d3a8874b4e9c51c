/- The walks of intSign, intCmp, IntSign, IntCmp (program and reference). For every two integers within the reach. -/
import Derived.Test.YtogkonenejfgmaaDoorWIntFn
namespace Go.Proofs.YtogkonenejfgmaaDoor
open Go.RowKit
theorem sgnZ_pos {z : Int} (h : 0 < z) : sgnZ z = 1 := by unfold sgnZ; rw [if_neg (by omega), if_neg (by omega)]
theorem sgnZ_neg {z : Int} (h : z < 0) : sgnZ z = -1 := by unfold sgnZ; rw [if_pos h]
theorem cmpN_sgn (m n : Nat) : cmpN m n = sgnZ ((m : Int) - n) := by
  unfold cmpN
  by_cases h : m < n
  · rw [if_pos h, sgnZ_neg (by omega)]
  · by_cases e : m = n
    · subst e; rw [if_neg h, if_pos rfl, Int.sub_self]; rfl
    · rw [if_neg h, if_neg e, sgnZ_pos (by omega)]
theorem intSign_any (neg : Bool) (a : Option Addr) (c k : Nat) (w : World) (hl : (limbs k).length ≤ 100000) :
    Calls Tryd.prog 76 #[.agg #[.bool neg, .slice a (limbs k).length c]] w fun e w' => e = .returned (.int .i64 (sgnZ (zOf neg k))) ∧ Below w.heap.size w w' := by
  have hA := bel_alloc w (.cells #[.bool neg, .slice a (limbs k).length c] 49)
  by_cases h0 : k = 0
  · subst h0
    have e1 : (limbs 0).length = 0 := by rw [limbs_zero]; rfl
    have e2 : sgnZ (zOf neg 0) = 0 := by cases neg <;> rfl
    rw [e1] at hA ⊢
    rw [e2]
    go_enter Tryd.func76, Tryd.ntmps76
    go_wp2
    go_ret
    exact ⟨rfl, hA⟩
  · have hp := limbs_len_pos.2 h0
    have hz1 : ((limbs k).length : Int) ≠ 0 := by omega
    have hz2 : (((limbs k).length : Int) == 0) = false := by rw [beq_eq_false_iff_ne]; omega
    cases neg
    · have e2 : sgnZ (zOf false k) = 1 := sgnZ_pos (by unfold zOf; simp; omega)
      rw [e2]
      go_enter Tryd.func76, Tryd.ntmps76
      go_wp2
      go_ret
      exact ⟨rfl, hA⟩
    · have e2 : sgnZ (zOf true k) = -1 := sgnZ_neg (by unfold zOf; simp; omega)
      rw [e2]
      go_enter Tryd.func76, Tryd.ntmps76
      go_wp2
      go_ret
      exact ⟨rfl, hA⟩
set_option maxHeartbeats 800000 in
theorem impl_IntSign (neg : Bool) (a : Option Addr) (c : Nat) (xs : List Int) (w : World) (hx : In w a c xs) :
    Calls Tryd.prog 40 #[.agg #[.bool neg, .slice a xs.length c]] w fun e w' => e = .returned (.int .i64 (fISign neg xs)) ∧ Below w.heap.size w w' := by
  have hA := bel_alloc w (.cells #[.bool neg, .slice a xs.length c] 49)
  have hxA := Lib.hid (hx.below hA (Nat.le_refl _))
  cases h1 : intB neg xs
  · have hF0 : fISign neg xs = 0 := by unfold fISign; rw [h1]; rfl
    go_enter Tryd.func40, Tryd.ntmps40
    go_wp2_with fail
    refine (impl_IntOk _ _ _ _ _ hxA.out).mono ?_
    rintro e w1 ⟨rfl, hb1⟩
    rw [h1]
    have hB := hA.trans (hb1.mono hA.size)
    go_wp2
    go_ret
    exact ⟨by rw [hF0]; rfl, hB⟩
  · obtain ⟨n, rfl, hn, hnz, hv, -⟩ := intB_elim h1
    have hF : fISign neg (limbs n) = sgnZ (zOf neg n) := by unfold fISign; rw [if_pos h1, hv]
    go_enter Tryd.func40, Tryd.ntmps40
    go_wp2_with fail
    refine (impl_IntOk _ _ _ _ _ hxA.out).mono ?_
    rintro e w1 ⟨rfl, hb1⟩
    rw [h1]
    have hB := hA.trans (hb1.mono hA.size)
    obtain ⟨hc, hf⟩ := bcell hb1
    go_wp2_with fail
    refine (intSign_any _ _ _ _ _ (by omega)).mono ?_
    rintro e w2 ⟨rfl, hb2⟩
    have hB2 := hB.trans (hb2.mono hB.size)
    go_wp2
    go_ret
    exact ⟨by rw [hF]; rfl, hB2⟩
end Go.Proofs.YtogkonenejfgmaaDoor
