/- The walk of IntStr (program). For every integer within the reach, where the library's table reads as it is laid. -/
import Derived.Test.YtogkonenejfgmaaDoorWIntStr
import Derived.Test.YtogkonenejfgmaaDoorWNatTextI
namespace Go.Proofs.YtogkonenejfgmaaDoor
open Go.RowKit
set_option maxHeartbeats 800000 in
theorem impl_IntStr (neg : Bool) (a : Option Addr) (c : Nat) (xs : List Int) (w : World) (hx : In w a c xs) (ht : Tab w) :
    Calls Tryd.prog 33 #[.agg #[.bool neg, .slice a xs.length c]] w fun e w' => e = .returned (.string (tx (fIntStr neg xs))) ∧ Below w.heap.size w w' := by
  have hA := bel_alloc w (.cells #[.bool neg, .slice a xs.length c] 49)
  have HX := Lib.hid (hx.below hA (Nat.le_refl _))
  cases h1 : intB neg xs
  · have HF := Lib.hid (show fIntStr neg xs = [] by unfold fIntStr; rw [h1]; rfl)
    go_enter Tryd.func33, Tryd.ntmps33
    go_wp2_with fail
    refine (impl_IntOk _ _ _ _ _ HX.out).mono ?_
    rintro e w1 ⟨rfl, hb1⟩
    rw [h1]
    have hB := hA.trans (hb1.mono hA.size)
    go_wp2
    go_ret
    exact ⟨by rw [HF.out]; rfl, hB⟩
  · have hs : (tx (natTxt xs)).size ≤ 1000 := by
      rw [tx_size]
      have h1' := natTxt_len (natB_ok (intB_nat h1))
      have h2 := natB_le (intB_nat h1)
      omega
    cases neg
    · have HF := Lib.hid (show fIntStr false xs = natTxt xs by unfold fIntStr; rw [h1]; rfl)
      go_enter Tryd.func33, Tryd.ntmps33
      go_wp2_with fail
      refine (impl_IntOk _ _ _ _ _ HX.out).mono ?_
      rintro e w1 ⟨rfl, hb1⟩
      rw [h1]
      have hB := hA.trans (hb1.mono hA.size)
      obtain ⟨hc, hf⟩ := bcell hb1
      have HX2 := Lib.hid (HX.out.below hb1 (Nat.le_refl _))
      go_wp2_with fail
      refine (natText_any _ _ _ _ HX2.out (intB_nat h1) (ht.below hB)).mono ?_
      rintro e w2 ⟨rfl, hb2⟩
      have hB2 := hB.trans (hb2.mono hB.size)
      go_wp2
      go_ret
      exact ⟨by rw [HF.out]; rfl, hB2⟩
    · have HF := Lib.hid (show tx [45] ++ tx (natTxt xs) = tx (fIntStr true xs) by unfold fIntStr; rw [h1, tx_app]; rfl)
      obtain ⟨sA, hsA⟩ : ∃ t, t = tx (natTxt xs) := ⟨_, rfl⟩
      rw [← hsA] at HF hs
      have HS := Lib.hid hsA
      clear hsA
      go_enter Tryd.func33, Tryd.ntmps33
      go_wp2_with fail
      refine (impl_IntOk _ _ _ _ _ HX.out).mono ?_
      rintro e w1 ⟨rfl, hb1⟩
      rw [h1]
      have hB := hA.trans (hb1.mono hA.size)
      obtain ⟨hc, hf⟩ := bcell hb1
      have HX2 := Lib.hid (HX.out.below hb1 (Nat.le_refl _))
      go_wp2_with fail
      refine (natText_any _ _ _ _ HX2.out (intB_nat h1) (ht.below hB)).mono ?_
      rintro e w2 ⟨rfl, hb2⟩
      rw [← HS.out]
      have hB2 := hB.trans (hb2.mono hB.size)
      go_wp2
      go_ret
      exact ⟨by rw [← HF.out]; rfl, hB2⟩
end Go.Proofs.YtogkonenejfgmaaDoor
