/- The walk of RatText (reference). For every fraction within the reach. (Printed by gen_rtext.py.) -/
import Derived.Test.YtmakcgiekfcofaaWIntStr
import Derived.Test.YtmakcgiekfcofaaWRatOk
import Derived.Test.YtmakcgiekfcofaaWBox
import Derived.Deep.RegionWith
namespace Go.Proofs.Ytmakcgiekfcofaa
open Go.RowKit
set_option linter.unusedVariables false
def fRatText (neg : Bool) (xs ys : List Int) : List UInt8 := if ratB neg xs ys then (if nv ys = 1 then fIntStr neg xs else fIntStr neg xs ++ 47 :: natTxt ys) else []
theorem ratB_int {neg : Bool} {xs ys : List Int} (h : ratB neg xs ys = true) : intB neg xs = true := by
  obtain ⟨m, n, rfl, rfl, -, -, -, -, -, h1, -⟩ := ratB_elim h
  exact h1
set_option maxHeartbeats 3200000 in
theorem spec_RatText (neg : Bool) (a : Option Addr) (c : Nat) (xs : List Int) (b : Option Addr) (d : Nat) (ys : List Int) (w : World) (hx : In w a c xs) (hy : In w b d ys) :
    Calls Try.prog 22 #[.agg #[.bool neg, .slice a xs.length c, .slice b ys.length d]] w fun e w' => e = .returned (.string (tx (fRatText neg xs ys))) ∧ Below w.heap.size w w' := by
  have hA := bel_alloc w (.cells #[.bool neg, .slice a xs.length c, .slice b ys.length d] 26)
  have Q := Box3.new w (.bool neg) (.slice a xs.length c) (.slice b ys.length d) 26 _ rfl
  have HX := Lib.hid (hx.below hA (Nat.le_refl _))
  have HY := Lib.hid (hy.below hA (Nat.le_refl _))
  cases h1 : ratB neg xs ys
  · have HF := Lib.hid (show fRatText neg xs ys = [] by unfold fRatText; rw [h1]; rfl)
    go_enter Try.func22, Try.ntmps22
    go_wp2_with fail
    refine (spec_RatOk _ _ _ _ _ _ _ _ HX.out HY.out).mono ?_
    rintro e w1 ⟨rfl, hb1⟩
    rw [h1]
    have hB := hA.trans (hb1.mono hA.size)
    go_wp2
    go_ret
    exact ⟨by rw [HF.out]; rfl, hB⟩
  have hi := ratB_int h1
  have h1' := h1
  obtain ⟨m, n, rfl, rfl, lm, ln, hn0, -, -, -, -, -, -⟩ := ratB_elim h1'
  by_cases hn1 : n = 1
  · have HF := Lib.hid (show fRatText neg (limbs m) (limbs n) = fIntStr neg (limbs m) by unfold fRatText; rw [h1, nv_limbs, if_pos hn1]; rfl)
    have hcm : cmpN n 1 = 0 := by rw [hn1]; rfl
    clear hn1
    go_enter Try.func22, Try.ntmps22
    go_wp2_with fail
    refine (spec_RatOk _ _ _ _ _ _ _ _ HX.out HY.out).mono ?_
    rintro e w1 ⟨rfl, hb1⟩
    rw [h1]
    have hB := hA.trans (hb1.mono hA.size)
    have Q1 := Q.below hb1 (Nat.le_refl _)
    have HX1 := Lib.hid (HX.out.below hb1 (Nat.le_refl _))
    have HY1 := Lib.hid (HY.out.below hb1 (Nat.le_refl _))
    clear Q HX HY hA hb1
    have Q1k := Q1
    obtain ⟨⟨c0, c1, c2⟩, f0, f1, f2⟩ := Q1k
    have hbO := bel_alloc w1 (.cells #[.int .i64 1] 3)
    have HYo := Lib.hid (HY1.out.below hbO (Nat.le_refl _))
    go_wp2_with fail
    refine (l02Cmp_one _ _ _ _ n _ HYo.out.1 (rd_one w1 1 (by omega)) (by omega)).mono ?_
    rintro e w2 ⟨rfl, q, rfl⟩
    have hb2 := bel_drewN hbO q
    have hB2 := hB.trans (hb2.mono hB.size)
    have Q2 := Q1.below hb2 (Nat.le_refl _)
    have HX2 := Lib.hid (HX1.out.below hb2 (Nat.le_refl _))
    have HY2 := Lib.hid (HY1.out.below hb2 (Nat.le_refl _))
    clear c0 c1 c2 f0 f1 f2 Q1 HX1 HY1 hB hb2 hbO HYo
    obtain ⟨W2, hW2⟩ : ∃ x : World, x = World.drewN (World.alloc w1 (.cells #[.int .i64 1] 3)) q := ⟨_, rfl⟩
    rw [← hW2] at hB2 Q2 HX2 HY2 ⊢
    clear hW2
    have Q2k := Q2
    obtain ⟨⟨c0, c1, c2⟩, f0, f1, f2⟩ := Q2k
    go_wp2_with fail
    refine (spec_IntStr _ _ _ _ _ HX2.out).mono ?_
    rintro e w3 ⟨rfl, hb3⟩
    have hB3 := hB2.trans (hb3.mono hB2.size)
    go_wp2
    go_ret
    exact ⟨by rw [HF.out]; rfl, hB3⟩
  · have HF := Lib.hid (show (tx (fIntStr neg (limbs m)) ++ tx [47]) ++ tx (natTxt (limbs n)) = tx (fRatText neg (limbs m) (limbs n)) by unfold fRatText; rw [h1, nv_limbs, if_neg hn1, tx_app, tx_app]; simp)
    have hcm : (cmpN n 1 == 0) = false := by rw [← cmpN_one, beq_eq_false_iff_ne]; exact hn1
    clear hn1
    have hnb : natB (limbs n) = true := natB_of (by omega)
    have HN := Lib.hid (show fNatText (limbs n) = natTxt (limbs n) by unfold fNatText; rw [hnb]; rfl)
    have hs1 : (tx (fIntStr neg (limbs m))).size ≤ 500 := by rw [tx_size]; exact fIntStr_len
    have hs2 : (tx (natTxt (limbs n))).size ≤ 1000 := by rw [tx_size]; have := natTxt_len (natB_ok hnb); omega
    obtain ⟨sA, hsA⟩ : ∃ t, t = tx (fIntStr neg (limbs m)) := ⟨_, rfl⟩
    obtain ⟨sB, hsB⟩ : ∃ t, t = tx (natTxt (limbs n)) := ⟨_, rfl⟩
    rw [← hsA, ← hsB] at HF
    rw [← hsA] at hs1
    rw [← hsB] at hs2
    have HA := Lib.hid hsA
    have HB := Lib.hid hsB
    clear hsA hsB
    go_enter Try.func22, Try.ntmps22
    go_wp2_with fail
    refine (spec_RatOk _ _ _ _ _ _ _ _ HX.out HY.out).mono ?_
    rintro e w1 ⟨rfl, hb1⟩
    rw [h1]
    have hB := hA.trans (hb1.mono hA.size)
    have Q1 := Q.below hb1 (Nat.le_refl _)
    have HX1 := Lib.hid (HX.out.below hb1 (Nat.le_refl _))
    have HY1 := Lib.hid (HY.out.below hb1 (Nat.le_refl _))
    clear Q HX HY hA hb1
    have Q1k := Q1
    obtain ⟨⟨c0, c1, c2⟩, f0, f1, f2⟩ := Q1k
    have hbO := bel_alloc w1 (.cells #[.int .i64 1] 3)
    have HYo := Lib.hid (HY1.out.below hbO (Nat.le_refl _))
    go_wp2_with fail
    refine (l02Cmp_one _ _ _ _ n _ HYo.out.1 (rd_one w1 1 (by omega)) (by omega)).mono ?_
    rintro e w2 ⟨rfl, q, rfl⟩
    have hb2 := bel_drewN hbO q
    have hB2 := hB.trans (hb2.mono hB.size)
    have Q2 := Q1.below hb2 (Nat.le_refl _)
    have HX2 := Lib.hid (HX1.out.below hb2 (Nat.le_refl _))
    have HY2 := Lib.hid (HY1.out.below hb2 (Nat.le_refl _))
    clear c0 c1 c2 f0 f1 f2 Q1 HX1 HY1 hB hb2 hbO HYo
    obtain ⟨W2, hW2⟩ : ∃ x : World, x = World.drewN (World.alloc w1 (.cells #[.int .i64 1] 3)) q := ⟨_, rfl⟩
    rw [← hW2] at hB2 Q2 HX2 HY2 ⊢
    clear hW2
    have Q2k := Q2
    obtain ⟨⟨c0, c1, c2⟩, f0, f1, f2⟩ := Q2k
    have hbq : Below W2.heap.size W2 (World.drew W2) := (Below.refl _ _).drew
    go_wp2_with fail
    go_region_with (first | (go_at_call 41; refine (spec_IntStr _ _ _ _ _ (HX2.out.below hbq (Nat.le_refl _))).mono ?_; rw [← HA.out]; rintro e qA ⟨rfl, hq⟩; replace hbq := hbq.trans (hq.mono hbq.size); clear hq; have Qk := Q2.below hbq (Nat.le_refl _); obtain ⟨⟨d0, d1, d2⟩, g0, g1, g2⟩ := Qk) | (go_at_call 42; refine (spec_NatText _ _ (limbs n) _ (HY2.out.below hbq (Nat.le_refl _))).mono ?_; rw [HN.out, ← HB.out]; rintro e qB ⟨rfl, hq⟩; replace hbq := hbq.trans (hq.mono hbq.size); clear hq; have Qk := Q2.below hbq (Nat.le_refl _); obtain ⟨⟨d0, d1, d2⟩, g0, g1, g2⟩ := Qk))
    all_goals
      go_wp2
      go_ret
      exact ⟨by rw [← HF.out]; rfl, hB2.trans (hbq.mono hB2.size)⟩
end Go.Proofs.Ytmakcgiekfcofaa
