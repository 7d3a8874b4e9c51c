/- The walks of natText and NatText (program). For every slice within the reach, where the library's table reads as it is laid. -/
import Derived.Test.YtogkonenejfgmaaDoorWNatTextS
import Derived.Test.YtogkonenejfgmaaDoorWIntTextI
import Derived.Test.YtogkonenejfgmaaDoorWPadI
namespace Go.Proofs.YtogkonenejfgmaaDoor
open Go.RowKit
open Go.Lib (decDigits itoa)
theorem impl_Pad9 (l : List UInt8) (w : World) (hl : l.length ≤ 9) :
    Calls Tryd.prog 10 #[.string (tx l), .int .i64 9] w fun e w' => e = .returned (.string (tx (padL 9 l))) ∧ Below w.heap.size w w' := by
  rw [← fPad_tx]
  exact impl_Pad _ _ _ (by rw [tx_size]; omega) ⟨by omega, by omega⟩
set_option maxHeartbeats 1600000 in
theorem natText_any (a : Option Addr) (ca : Nat) (xs : List Int) (w : World) (hx : In w a ca xs) (h1 : natB xs = true) (ht : Tab w) :
    Calls Tryd.prog 61 #[.slice a xs.length ca] w fun e w' => e = .returned (.string (tx (natTxt xs))) ∧ Below w.heap.size w w' := by
  have hl := natB_le h1
  have HO := Lib.hid (natB_ok h1)
  by_cases h0 : xs.length ≤ 0
  · obtain rfl := List.eq_nil_of_length_eq_zero (by omega : xs.length = 0)
    go_enter Tryd.func61, Tryd.ntmps61
    go_wp2
    go_ret
    exact ⟨rfl, Below.refl _ _⟩
  · have z0 : ((xs.length : Int) == 0) = false := by rw [beq_eq_false_iff_ne]; omega
    obtain ⟨n, hn⟩ : ∃ n, xs.length = n + 1 := ⟨xs.length - 1, by omega⟩
    obtain ⟨b, off, x, rfl, hb, hc, hx1⟩ := hx.1.at n (by omega)
    have gx := okL_get HO.out n
    rw [hx1.out] at gx
    obtain ⟨gx0, gx1⟩ := gx
    have HT0 := Lib.hid (show itoa x = natTxt (xs.drop n) by
      rw [drop_cons_getD xs n (by omega), hx1.out, List.drop_of_length_le (by omega), natTxt_one])
    have e1 : (xs.length : Int) - 1 = (n : Int) := by omega
    have e2 : (xs.length : Int) - 2 = (n : Int) - 1 := by omega
    have HN := Lib.hid hn
    have hn1 : xs.length ≤ n + 1 := by omega
    have hn2 : n + 1 ≤ xs.length := by omega
    clear hn
    go_enter Tryd.func61, Tryd.ntmps61
    go_wp2_with fail
    refine (impl_IntText x w ⟨by omega, by omega⟩ ht).mono ?_
    rintro e w1 ⟨rfl, hb1⟩
    rw [HT0.out]
    have hx' := hx.below hb1 (Nat.le_refl _)
    clear hc hb e1
    go_wp2
    go_loopw [3, 4] (fun sv iv wr => ∃ k : Nat, k ≤ n ∧ sv = .string (tx (natTxt (xs.drop k))) ∧ iv = .int .i64 ((k : Int) - 1) ∧ Below w.heap.size w wr) (fun _ iv _ => (intOf iv + 1).toNat)
    case atStart => exact ⟨n, Nat.le_refl _, rfl, rfl, hb1⟩
    case round =>
      obtain ⟨k, hk, rfl, rfl, hbr⟩ := hrel
      by_cases hk0 : 0 < k
      · obtain ⟨j, rfl⟩ : ∃ j, k = j + 1 := ⟨k - 1, by omega⟩
        obtain ⟨b2, off2, y, hab, hb2, hc2, hy1⟩ := (hx.1.below hbr (Nat.le_refl _)).at j (by omega)
        simp only [Option.some.injEq, Addr.mk.injEq, and_true] at hab
        obtain ⟨rfl, rfl⟩ := hab
        have gy := okL_get HO.out j
        rw [hy1.out] at gy
        obtain ⟨gy0, gy1⟩ := gy
        have HS := Lib.hid (show tx (natTxt (xs.drop (j + 1))) ++ tx (padL 9 (itoa y)) = tx (natTxt (xs.drop j)) by rw [natTxt_drop xs j (by omega), hy1.out, tx_app])
        have hs1 : (tx (natTxt (xs.drop (j + 1)))).size ≤ 1000 := by
          rw [tx_size]
          have := natTxt_len (okL_drop HO.out (j + 1))
          rw [List.length_drop] at this
          omega
        have hs2 : (tx (padL 9 (itoa y))).size = 9 := by rw [tx_size]; exact padL_len (itoa_len9 ⟨gy0, gy1⟩)
        have HP := Lib.hid (itoa_len9 ⟨gy0, gy1⟩)
        rw [show (((j + 1 : Nat) : Int) - 1) = (j : Int) by omega]
        obtain ⟨sA, hsA⟩ : ∃ t, t = tx (natTxt (xs.drop (j + 1))) := ⟨_, rfl⟩
        obtain ⟨sB, hsB⟩ : ∃ t, t = tx (padL 9 (itoa y)) := ⟨_, rfl⟩
        rw [← hsA] at HS hs1 ⊢
        rw [← hsB] at HS hs2
        have HSB := Lib.hid hsB
        clear hsA hsB
        go_wp2_with fail
        refine (impl_IntText y wr ⟨by omega, by omega⟩ (ht.below hbr)).mono ?_
        rintro e w2 ⟨rfl, hq2⟩
        go_wp2_with fail
        refine (impl_Pad9 _ _ HP.out).mono ?_
        rintro e w3 ⟨rfl, hq3⟩
        rw [← HSB.out]
        have hbn := (hbr.trans (hq2.mono hbr.size)).trans (hq3.mono (hbr.trans (hq2.mono hbr.size)).size)
        go_wp2
        go_roundw
        case rel => exact ⟨j, by omega, by rw [HS.out], by go_num, hbn⟩
        case measure => simp [intOf]
      · have e : k = 0 := by omega
        subst e
        go_wp2
        go_ret
        exact ⟨rfl, hbr⟩
theorem impl_NatText (a : Option Addr) (ca : Nat) (xs : List Int) (w : World) (hx : In w a ca xs) (ht : Tab w) :
    Calls Tryd.prog 21 #[.slice a xs.length ca] w fun e w' => e = .returned (.string (tx (fNatText xs))) ∧ Below w.heap.size w w' := by
  cases h1 : natB xs
  · have HF := Lib.hid (show fNatText xs = [] by unfold fNatText; rw [h1]; rfl)
    go_enter Tryd.func21, Tryd.ntmps21
    go_wp2_with fail
    refine (impl_NatOk _ _ _ _ hx.1 hx.maxLen).mono ?_
    rintro e w1 ⟨rfl, rfl⟩
    rw [h1]
    go_wp2
    go_ret
    exact ⟨by rw [HF.out]; rfl, Below.refl _ _⟩
  · have HF := Lib.hid (show fNatText xs = natTxt xs by unfold fNatText; rw [h1]; rfl)
    go_enter Tryd.func21, Tryd.ntmps21
    go_wp2_with fail
    refine (impl_NatOk _ _ _ _ hx.1 hx.maxLen).mono ?_
    rintro e w1 ⟨rfl, rfl⟩
    rw [h1]
    go_wp2_with fail
    refine (natText_any _ _ _ _ hx h1 ht).mono ?_
    rintro e w1 ⟨rfl, hb⟩
    go_wp2
    go_ret
    exact ⟨by rw [HF.out]; rfl, hb⟩
end Go.Proofs.YtogkonenejfgmaaDoor
