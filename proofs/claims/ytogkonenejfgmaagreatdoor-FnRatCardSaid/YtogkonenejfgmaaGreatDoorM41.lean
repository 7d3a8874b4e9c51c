/- The walks of natText and NatText (program). For every slice within the reach, where the library's table reads as it is laid. The walk of IntStr (program). For every integer within the reach, where the library's table reads as it is laid. The walk of RatText (program). For every fraction within the reach, where the library's table reads as it is laid. (Printed by gen_rtext.py.) -/
import Derived.Test.YtogkonenejfgmaaGreatDoorM34
import Derived.Test.YtogkonenejfgmaaGreatDoorM40
namespace Go.Proofs.YtogkonenejfgmaaGreatDoor
open Go.RowKit
open Go.Lib (decDigits itoa)
theorem impl_Pad9 (l : List UInt8) (w : World) (hl : l.length ≤ 9) :
    Calls Tryz.prog 66 #[.string (tx l), .int .i64 9] w fun e w' => e = .returned (.string (tx (padL 9 l))) ∧ Below w.heap.size w w' := by
  rw [← fPad_tx]
  exact impl_Pad _ _ _ (by rw [tx_size]; omega) ⟨by omega, by omega⟩
set_option maxHeartbeats 1600000 in
theorem natText_any (a : Option Addr) (ca : Nat) (xs : List Int) (w : World) (hx : In w a ca xs) (h1 : natB xs = true) (ht : Tab w) :
    Calls Tryz.prog 52 #[.slice a xs.length ca] w fun e w' => e = .returned (.string (tx (natTxt xs))) ∧ Below w.heap.size w w' := by
  have hl := natB_le h1
  have HO := Lib.hid (natB_ok h1)
  by_cases h0 : xs.length ≤ 0
  · obtain rfl := List.eq_nil_of_length_eq_zero (by omega : xs.length = 0)
    go_enter Tryz.func52, Tryz.ntmps52
    go_wp2
    go_ret
    exact ⟨rfl, Below.refl _ _⟩
  · have z0 : ((xs.length : Int) == 0) = false := by rw [beq_eq_false_iff_ne]; omega
    obtain ⟨n, hn⟩ : ∃ n, xs.length = n + 1 := ⟨xs.length - 1, by omega⟩
    obtain ⟨b, off, x, rfl, hb, hc, hx1⟩ := hx.1.at n (by omega)
    have gx := okL_get HO.out n
    rw [hx1.out] at gx
    obtain ⟨gx0, gx1⟩ := gx
    have HT0 := Lib.hid (show itoa x = natTxt (xs.drop n) by
      rw [drop_cons_getD xs n (by omega), hx1.out, List.drop_of_length_le (by omega), natTxt_one])
    have e1 : (xs.length : Int) - 1 = (n : Int) := by omega
    have e2 : (xs.length : Int) - 2 = (n : Int) - 1 := by omega
    have HN := Lib.hid hn
    have hn1 : xs.length ≤ n + 1 := by omega
    have hn2 : n + 1 ≤ xs.length := by omega
    clear hn
    go_enter Tryz.func52, Tryz.ntmps52
    go_wp2_with fail
    refine (impl_IntText x w ⟨by omega, by omega⟩ ht).mono ?_
    rintro e w1 ⟨rfl, hb1⟩
    rw [HT0.out]
    have hx' := hx.below hb1 (Nat.le_refl _)
    clear hc hb e1
    go_wp2
    go_loopw [3, 4] (fun sv iv wr => ∃ k : Nat, k ≤ n ∧ sv = .string (tx (natTxt (xs.drop k))) ∧ iv = .int .i64 ((k : Int) - 1) ∧ Below w.heap.size w wr) (fun _ iv _ => (intOf iv + 1).toNat)
    case atStart => exact ⟨n, Nat.le_refl _, rfl, rfl, hb1⟩
    case round =>
      obtain ⟨k, hk, rfl, rfl, hbr⟩ := hrel
      by_cases hk0 : 0 < k
      · obtain ⟨j, rfl⟩ : ∃ j, k = j + 1 := ⟨k - 1, by omega⟩
        obtain ⟨b2, off2, y, hab, hb2, hc2, hy1⟩ := (hx.1.below hbr (Nat.le_refl _)).at j (by omega)
        simp only [Option.some.injEq, Addr.mk.injEq, and_true] at hab
        obtain ⟨rfl, rfl⟩ := hab
        have gy := okL_get HO.out j
        rw [hy1.out] at gy
        obtain ⟨gy0, gy1⟩ := gy
        have HS := Lib.hid (show tx (natTxt (xs.drop (j + 1))) ++ tx (padL 9 (itoa y)) = tx (natTxt (xs.drop j)) by rw [natTxt_drop xs j (by omega), hy1.out, tx_app])
        have hs1 : (tx (natTxt (xs.drop (j + 1)))).size ≤ 1000 := by
          rw [tx_size]
          have := natTxt_len (okL_drop HO.out (j + 1))
          rw [List.length_drop] at this
          omega
        have hs2 : (tx (padL 9 (itoa y))).size = 9 := by rw [tx_size]; exact padL_len (itoa_len9 ⟨gy0, gy1⟩)
        have HP := Lib.hid (itoa_len9 ⟨gy0, gy1⟩)
        rw [show (((j + 1 : Nat) : Int) - 1) = (j : Int) by omega]
        obtain ⟨sA, hsA⟩ : ∃ t, t = tx (natTxt (xs.drop (j + 1))) := ⟨_, rfl⟩
        obtain ⟨sB, hsB⟩ : ∃ t, t = tx (padL 9 (itoa y)) := ⟨_, rfl⟩
        rw [← hsA] at HS hs1 ⊢
        rw [← hsB] at HS hs2
        have HSB := Lib.hid hsB
        clear hsA hsB
        go_wp2_with fail
        refine (impl_IntText y wr ⟨by omega, by omega⟩ (ht.below hbr)).mono ?_
        rintro e w2 ⟨rfl, hq2⟩
        go_wp2_with fail
        refine (impl_Pad9 _ _ HP.out).mono ?_
        rintro e w3 ⟨rfl, hq3⟩
        rw [← HSB.out]
        have hbn := (hbr.trans (hq2.mono hbr.size)).trans (hq3.mono (hbr.trans (hq2.mono hbr.size)).size)
        go_wp2
        go_roundw
        case rel => exact ⟨j, by omega, by rw [HS.out], by go_num, hbn⟩
        case measure => simp [intOf]
      · have e : k = 0 := by omega
        subst e
        go_wp2
        go_ret
        exact ⟨rfl, hbr⟩
theorem impl_NatText (a : Option Addr) (ca : Nat) (xs : List Int) (w : World) (hx : In w a ca xs) (ht : Tab w) :
    Calls Tryz.prog 30 #[.slice a xs.length ca] w fun e w' => e = .returned (.string (tx (fNatText xs))) ∧ Below w.heap.size w w' := by
  cases h1 : natB xs
  · have HF := Lib.hid (show fNatText xs = [] by unfold fNatText; rw [h1]; rfl)
    go_enter Tryz.func30, Tryz.ntmps30
    go_wp2_with fail
    refine (impl_NatOk _ _ _ _ hx.1 hx.maxLen).mono ?_
    rintro e w1 ⟨rfl, rfl⟩
    rw [h1]
    go_wp2
    go_ret
    exact ⟨by rw [HF.out]; rfl, Below.refl _ _⟩
  · have HF := Lib.hid (show fNatText xs = natTxt xs by unfold fNatText; rw [h1]; rfl)
    go_enter Tryz.func30, Tryz.ntmps30
    go_wp2_with fail
    refine (impl_NatOk _ _ _ _ hx.1 hx.maxLen).mono ?_
    rintro e w1 ⟨rfl, rfl⟩
    rw [h1]
    go_wp2_with fail
    refine (natText_any _ _ _ _ hx h1 ht).mono ?_
    rintro e w1 ⟨rfl, hb⟩
    go_wp2
    go_ret
    exact ⟨by rw [HF.out]; rfl, hb⟩
end Go.Proofs.YtogkonenejfgmaaGreatDoor
namespace Go.Proofs.YtogkonenejfgmaaGreatDoor
open Go.RowKit
set_option maxHeartbeats 800000 in
theorem impl_IntStr (neg : Bool) (a : Option Addr) (c : Nat) (xs : List Int) (w : World) (hx : In w a c xs) (ht : Tab w) :
    Calls Tryz.prog 29 #[.agg #[.bool neg, .slice a xs.length c]] w fun e w' => e = .returned (.string (tx (fIntStr neg xs))) ∧ Below w.heap.size w w' := by
  have hA := bel_alloc w (.cells #[.bool neg, .slice a xs.length c] 25)
  have HX := Lib.hid (hx.below hA (Nat.le_refl _))
  cases h1 : intB neg xs
  · have HF := Lib.hid (show fIntStr neg xs = [] by unfold fIntStr; rw [h1]; rfl)
    go_enter Tryz.func29, Tryz.ntmps29
    go_wp2_with fail
    refine (impl_IntOk _ _ _ _ _ HX.out).mono ?_
    rintro e w1 ⟨rfl, hb1⟩
    rw [h1]
    have hB := hA.trans (hb1.mono hA.size)
    go_wp2
    go_ret
    exact ⟨by rw [HF.out]; rfl, hB⟩
  · have hs : (tx (natTxt xs)).size ≤ 1000 := by
      rw [tx_size]
      have h1' := natTxt_len (natB_ok (intB_nat h1))
      have h2 := natB_le (intB_nat h1)
      omega
    cases neg
    · have HF := Lib.hid (show fIntStr false xs = natTxt xs by unfold fIntStr; rw [h1]; rfl)
      go_enter Tryz.func29, Tryz.ntmps29
      go_wp2_with fail
      refine (impl_IntOk _ _ _ _ _ HX.out).mono ?_
      rintro e w1 ⟨rfl, hb1⟩
      rw [h1]
      have hB := hA.trans (hb1.mono hA.size)
      obtain ⟨hc, hf⟩ := bcell hb1
      have HX2 := Lib.hid (HX.out.below hb1 (Nat.le_refl _))
      go_wp2_with fail
      refine (natText_any _ _ _ _ HX2.out (intB_nat h1) (ht.below hB)).mono ?_
      rintro e w2 ⟨rfl, hb2⟩
      have hB2 := hB.trans (hb2.mono hB.size)
      go_wp2
      go_ret
      exact ⟨by rw [HF.out]; rfl, hB2⟩
    · have HF := Lib.hid (show tx [45] ++ tx (natTxt xs) = tx (fIntStr true xs) by unfold fIntStr; rw [h1, tx_app]; rfl)
      obtain ⟨sA, hsA⟩ : ∃ t, t = tx (natTxt xs) := ⟨_, rfl⟩
      rw [← hsA] at HF hs
      have HS := Lib.hid hsA
      clear hsA
      go_enter Tryz.func29, Tryz.ntmps29
      go_wp2_with fail
      refine (impl_IntOk _ _ _ _ _ HX.out).mono ?_
      rintro e w1 ⟨rfl, hb1⟩
      rw [h1]
      have hB := hA.trans (hb1.mono hA.size)
      obtain ⟨hc, hf⟩ := bcell hb1
      have HX2 := Lib.hid (HX.out.below hb1 (Nat.le_refl _))
      go_wp2_with fail
      refine (natText_any _ _ _ _ HX2.out (intB_nat h1) (ht.below hB)).mono ?_
      rintro e w2 ⟨rfl, hb2⟩
      rw [← HS.out]
      have hB2 := hB.trans (hb2.mono hB.size)
      go_wp2
      go_ret
      exact ⟨by rw [← HF.out]; rfl, hB2⟩
end Go.Proofs.YtogkonenejfgmaaGreatDoor
namespace Go.Proofs.YtogkonenejfgmaaGreatDoor
open Go.RowKit
set_option linter.unusedVariables false
theorem one_one {g : Nat} {x : Int} (h1 : (limbs g).length ≤ 1) (h2 : 1 ≤ (limbs g).length) (hx : (limbs g).getD 0 0 = x) : decide (g = 1) = (x == 1) := by
  rw [← gcd_one h1 h2 hx]; by_cases h : g = 1 <;> simp [h]
theorem one_not {g : Nat} (h : ¬ ((limbs g).length ≤ 1 ∧ 1 ≤ (limbs g).length)) : decide (g = 1) = false := by
  have := gcd_not h
  rw [beq_eq_false_iff_ne] at this
  exact decide_eq_false this
theorem isOne_any (a : Option Addr) (c n : Nat) (w : World) (hx : In w a c (limbs n)) (hl : (limbs n).length ≤ 1000) :
    Calls Tryz.prog 27 #[.slice a (limbs n).length c] w fun e w' => e = .returned (.bool (decide (n = 1))) ∧ Below w.heap.size w w' := by
  by_cases h6 : (limbs n).length ≤ 1 ∧ 1 ≤ (limbs n).length
  · obtain ⟨h6, h7⟩ := h6
    obtain ⟨bx, ox, x, rfl, hbx, hcx, hx1⟩ := hx.1.at 0 (by omega)
    rw [Nat.add_zero] at hcx
    have H2 := Lib.hid (one_one h6 h7 hx1.out)
    have hz : (((limbs n).length : Int) == 1) = true := by rw [beq_iff_eq]; omega
    go_enter Tryz.func27, Tryz.ntmps27
    go_wp2
    go_ret
    exact ⟨ret_bool (by rw [H2.out]), Below.refl _ _⟩
  · have H2 := Lib.hid (one_not h6)
    have hz : (((limbs n).length : Int) == 1) = false := by rw [beq_eq_false_iff_ne]; omega
    go_enter Tryz.func27, Tryz.ntmps27
    go_wp2
    go_ret
    exact ⟨ret_bool H2.out.symm, Below.refl _ _⟩
set_option maxHeartbeats 3200000 in
theorem impl_RatText (neg : Bool) (a : Option Addr) (c : Nat) (xs : List Int) (b : Option Addr) (d : Nat) (ys : List Int) (w : World) (hx : In w a c xs) (hy : In w b d ys) (ht : Tab w) :
    Calls Tryz.prog 10 #[.agg #[.bool neg, .slice a xs.length c, .slice b ys.length d]] w fun e w' => e = .returned (.string (tx (fRatText neg xs ys))) ∧ Below w.heap.size w w' := by
  have hA := bel_alloc w (.cells #[.bool neg, .slice a xs.length c, .slice b ys.length d] 27)
  have Q := Box3.new w (.bool neg) (.slice a xs.length c) (.slice b ys.length d) 27 _ rfl
  have HX := Lib.hid (hx.below hA (Nat.le_refl _))
  have HY := Lib.hid (hy.below hA (Nat.le_refl _))
  cases h1 : ratB neg xs ys
  · have HF := Lib.hid (show fRatText neg xs ys = [] by unfold fRatText; rw [h1]; rfl)
    go_enter Tryz.func10, Tryz.ntmps10
    go_wp2_with fail
    refine (impl_RatOk _ _ _ _ _ _ _ _ HX.out HY.out).mono ?_
    rintro e w1 ⟨rfl, hb1⟩
    rw [h1]
    have hB := hA.trans (hb1.mono hA.size)
    go_wp2
    go_ret
    exact ⟨by rw [HF.out]; rfl, hB⟩
  have hi := ratB_int h1
  have h1' := h1
  obtain ⟨m, n, rfl, rfl, lm, ln, hn0, -, -, -, -, -, -⟩ := ratB_elim h1'
  by_cases hn1 : n = 1
  · have HF := Lib.hid (show fRatText neg (limbs m) (limbs n) = fIntStr neg (limbs m) by unfold fRatText; rw [h1, nv_limbs, if_pos hn1]; rfl)
    have hcm : decide (n = 1) = true := decide_eq_true hn1
    clear hn1
    go_enter Tryz.func10, Tryz.ntmps10
    go_wp2_with fail
    refine (impl_RatOk _ _ _ _ _ _ _ _ HX.out HY.out).mono ?_
    rintro e w1 ⟨rfl, hb1⟩
    rw [h1]
    have hB := hA.trans (hb1.mono hA.size)
    have Q1 := Q.below hb1 (Nat.le_refl _)
    have HX1 := Lib.hid (HX.out.below hb1 (Nat.le_refl _))
    have HY1 := Lib.hid (HY.out.below hb1 (Nat.le_refl _))
    clear Q HX HY hA hb1
    have Q1k := Q1
    obtain ⟨⟨c0, c1, c2⟩, f0, f1, f2⟩ := Q1k
    go_wp2_with fail
    refine (isOne_any _ _ n _ HY1.out (by omega)).mono ?_
    rintro e w2 ⟨rfl, hb2⟩
    have hB2 := hB.trans (hb2.mono hB.size)
    have Q2 := Q1.below hb2 (Nat.le_refl _)
    have HX2 := Lib.hid (HX1.out.below hb2 (Nat.le_refl _))
    have HY2 := Lib.hid (HY1.out.below hb2 (Nat.le_refl _))
    clear c0 c1 c2 f0 f1 f2 Q1 HX1 HY1 hB hb2
    obtain ⟨W2, hW2⟩ : ∃ x : World, x = w2 := ⟨_, rfl⟩
    rw [← hW2] at hB2 Q2 HX2 HY2 ⊢
    clear hW2
    have Q2k := Q2
    obtain ⟨⟨c0, c1, c2⟩, f0, f1, f2⟩ := Q2k
    go_wp2_with fail
    refine (impl_IntStr _ _ _ _ _ HX2.out (ht.below hB2)).mono ?_
    rintro e w3 ⟨rfl, hb3⟩
    have hB3 := hB2.trans (hb3.mono hB2.size)
    go_wp2
    go_ret
    exact ⟨by rw [HF.out]; rfl, hB3⟩
  · have HF := Lib.hid (show (tx (fIntStr neg (limbs m)) ++ tx [47]) ++ tx (natTxt (limbs n)) = tx (fRatText neg (limbs m) (limbs n)) by unfold fRatText; rw [h1, nv_limbs, if_neg hn1, tx_app, tx_app]; simp)
    have hcm : decide (n = 1) = false := decide_eq_false hn1
    clear hn1
    have hnb : natB (limbs n) = true := natB_of (by omega)
    have HN := Lib.hid (show fNatText (limbs n) = natTxt (limbs n) by unfold fNatText; rw [hnb]; rfl)
    have hs1 : (tx (fIntStr neg (limbs m))).size ≤ 500 := by rw [tx_size]; exact fIntStr_len
    have hs2 : (tx (natTxt (limbs n))).size ≤ 1000 := by rw [tx_size]; have := natTxt_len (natB_ok hnb); omega
    obtain ⟨sA, hsA⟩ : ∃ t, t = tx (fIntStr neg (limbs m)) := ⟨_, rfl⟩
    obtain ⟨sB, hsB⟩ : ∃ t, t = tx (natTxt (limbs n)) := ⟨_, rfl⟩
    rw [← hsA, ← hsB] at HF
    rw [← hsA] at hs1
    rw [← hsB] at hs2
    have HA := Lib.hid hsA
    have HB := Lib.hid hsB
    clear hsA hsB
    go_enter Tryz.func10, Tryz.ntmps10
    go_wp2_with fail
    refine (impl_RatOk _ _ _ _ _ _ _ _ HX.out HY.out).mono ?_
    rintro e w1 ⟨rfl, hb1⟩
    rw [h1]
    have hB := hA.trans (hb1.mono hA.size)
    have Q1 := Q.below hb1 (Nat.le_refl _)
    have HX1 := Lib.hid (HX.out.below hb1 (Nat.le_refl _))
    have HY1 := Lib.hid (HY.out.below hb1 (Nat.le_refl _))
    clear Q HX HY hA hb1
    have Q1k := Q1
    obtain ⟨⟨c0, c1, c2⟩, f0, f1, f2⟩ := Q1k
    go_wp2_with fail
    refine (isOne_any _ _ n _ HY1.out (by omega)).mono ?_
    rintro e w2 ⟨rfl, hb2⟩
    have hB2 := hB.trans (hb2.mono hB.size)
    have Q2 := Q1.below hb2 (Nat.le_refl _)
    have HX2 := Lib.hid (HX1.out.below hb2 (Nat.le_refl _))
    have HY2 := Lib.hid (HY1.out.below hb2 (Nat.le_refl _))
    clear c0 c1 c2 f0 f1 f2 Q1 HX1 HY1 hB hb2
    obtain ⟨W2, hW2⟩ : ∃ x : World, x = w2 := ⟨_, rfl⟩
    rw [← hW2] at hB2 Q2 HX2 HY2 ⊢
    clear hW2
    have Q2k := Q2
    obtain ⟨⟨c0, c1, c2⟩, f0, f1, f2⟩ := Q2k
    have hbq : Below W2.heap.size W2 (World.drew W2) := (Below.refl _ _).drew
    go_wp2_with fail
    go_region_with (first | (go_at_call 29; refine (impl_IntStr _ _ _ _ _ (HX2.out.below hbq (Nat.le_refl _)) (ht.below (hB2.trans (hbq.mono hB2.size)))).mono ?_; rw [← HA.out]; rintro e qA ⟨rfl, hq⟩; replace hbq := hbq.trans (hq.mono hbq.size); clear hq; have Qk := Q2.below hbq (Nat.le_refl _); obtain ⟨⟨d0, d1, d2⟩, g0, g1, g2⟩ := Qk) | (go_at_call 30; refine (impl_NatText _ _ (limbs n) _ (HY2.out.below hbq (Nat.le_refl _)) (ht.below (hB2.trans (hbq.mono hB2.size)))).mono ?_; rw [HN.out, ← HB.out]; rintro e qB ⟨rfl, hq⟩; replace hbq := hbq.trans (hq.mono hbq.size); clear hq; have Qk := Q2.below hbq (Nat.le_refl _); obtain ⟨⟨d0, d1, d2⟩, g0, g1, g2⟩ := Qk))
    all_goals
      go_wp2
      go_ret
      exact ⟨by rw [← HF.out]; rfl, hB2.trans (hbq.mono hB2.size)⟩
end Go.Proofs.YtogkonenejfgmaaGreatDoor
