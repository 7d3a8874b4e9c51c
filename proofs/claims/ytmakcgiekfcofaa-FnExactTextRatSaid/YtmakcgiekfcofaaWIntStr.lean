/- The walk of IntStr (reference): an integer's decimal text. For every integer within the reach. -/
import Derived.Test.YtmakcgiekfcofaaWNatTextS
import Derived.Test.YtmakcgiekfcofaaWIntOk
namespace Go.Proofs.Ytmakcgiekfcofaa
open Go.RowKit
def fIntStr (neg : Bool) (xs : List Int) : List UInt8 := if intB neg xs then (if neg then 45 :: natTxt xs else natTxt xs) else []
theorem intB_nat {neg : Bool} {xs : List Int} (h : intB neg xs = true) : natB xs = true := by
  unfold intB at h
  simp only [Bool.and_eq_true] at h
  exact h.1
theorem fIntStr_nat {neg : Bool} {xs : List Int} (h : intB neg xs = true) : fNatText xs = natTxt xs := by unfold fNatText; rw [intB_nat h]; rfl
theorem fIntStr_len {neg : Bool} {xs : List Int} : (fIntStr neg xs).length ≤ 500 := by
  unfold fIntStr
  split
  · rename_i h
    have h1 := natTxt_len (natB_ok (intB_nat h))
    have h2 := natB_le (intB_nat h)
    split
    · rw [List.length_cons]; omega
    · omega
  · simp
set_option maxHeartbeats 800000 in
theorem spec_IntStr (neg : Bool) (a : Option Addr) (c : Nat) (xs : List Int) (w : World) (hx : In w a c xs) :
    Calls Try.prog 41 #[.agg #[.bool neg, .slice a xs.length c]] w fun e w' => e = .returned (.string (tx (fIntStr neg xs))) ∧ Below w.heap.size w w' := by
  have hA := bel_alloc w (.cells #[.bool neg, .slice a xs.length c] 24)
  have HX := Lib.hid (hx.below hA (Nat.le_refl _))
  cases h1 : intB neg xs
  · have HF := Lib.hid (show fIntStr neg xs = [] by unfold fIntStr; rw [h1]; rfl)
    go_enter Try.func41, Try.ntmps41
    go_wp2_with fail
    refine (spec_IntOk _ _ _ _ _ HX.out).mono ?_
    rintro e w1 ⟨rfl, hb1⟩
    rw [h1]
    have hB := hA.trans (hb1.mono hA.size)
    go_wp2
    go_ret
    exact ⟨by rw [HF.out]; rfl, hB⟩
  · have HN := Lib.hid (fIntStr_nat h1)
    have hs : (tx (natTxt xs)).size ≤ 1000 := by
      rw [tx_size]
      have h1' := natTxt_len (natB_ok (intB_nat h1))
      have h2 := natB_le (intB_nat h1)
      omega
    cases neg
    · have HF := Lib.hid (show fIntStr false xs = natTxt xs by unfold fIntStr; rw [h1]; rfl)
      go_enter Try.func41, Try.ntmps41
      go_wp2_with fail
      refine (spec_IntOk _ _ _ _ _ HX.out).mono ?_
      rintro e w1 ⟨rfl, hb1⟩
      rw [h1]
      have hB := hA.trans (hb1.mono hA.size)
      obtain ⟨hc, hf⟩ := bcell hb1
      have HX2 := Lib.hid (HX.out.below hb1 (Nat.le_refl _))
      go_wp2_with fail
      refine (spec_NatText _ _ _ _ HX2.out).mono ?_
      rintro e w2 ⟨rfl, hb2⟩
      rw [HN.out]
      have hB2 := hB.trans (hb2.mono hB.size)
      go_wp2
      go_ret
      exact ⟨by rw [HF.out]; rfl, hB2⟩
    · have HF := Lib.hid (show tx [45] ++ tx (natTxt xs) = tx (fIntStr true xs) by unfold fIntStr; rw [h1, tx_app]; rfl)
      obtain ⟨sA, hsA⟩ : ∃ t, t = tx (natTxt xs) := ⟨_, rfl⟩
      rw [← hsA] at HF hs
      have HS := Lib.hid hsA
      clear hsA
      go_enter Try.func41, Try.ntmps41
      go_wp2_with fail
      refine (spec_IntOk _ _ _ _ _ HX.out).mono ?_
      rintro e w1 ⟨rfl, hb1⟩
      rw [h1]
      have hB := hA.trans (hb1.mono hA.size)
      obtain ⟨hc, hf⟩ := bcell hb1
      have HX2 := Lib.hid (HX.out.below hb1 (Nat.le_refl _))
      go_wp2_with fail
      refine (spec_NatText _ _ _ _ HX2.out).mono ?_
      rintro e w2 ⟨rfl, hb2⟩
      rw [HN.out, ← HS.out]
      have hB2 := hB.trans (hb2.mono hB.size)
      go_wp2
      go_ret
      exact ⟨by rw [← HF.out]; rfl, hB2⟩
end Go.Proofs.Ytmakcgiekfcofaa
