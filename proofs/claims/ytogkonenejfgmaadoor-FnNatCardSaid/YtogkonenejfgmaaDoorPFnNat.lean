/- The law FnNat answers true at every input. -/
import Derived.Test.YtogkonenejfgmaaDoorRows
import Derived.Test.YtogkonenejfgmaaDoorMk
import Derived.Test.YtogkonenejfgmaaDoorNn
import Derived.ProofKit
import Derived.OpenShut
import Derived.ShutString
import Derived.ChangeOld
import Derived.Lib.SmallJoins
import Derived.Deep.RegionWith
import Derived.Deep.RegionHeld3
import Derived.Deep.DeepCutAuto
import Derived.Test.YtogkonenejfgmaaDoorTie
import Derived.Test.YtogkonenejfgmaaDoorCards
import Derived.LaidMore
import Derived.MakeChecks
import Derived.Stop.LaidErr
import Derived.Stop.Joined
import Derived.SevenTiedAt
import Derived.Below
namespace Go.Proofs.YtogkonenejfgmaaDoor.fnNat
open Go.ChangeShapes Go.WideShapes Go.ChangeAt Go.RowKit
open Go.ChangeMaps (open_string shut_string)
open Go.Lib (decDigits)
set_option linter.unusedVariables false

theorem zeros_le (n : Nat) (h : (limbs n).length ≤ 5) : zerosT (decDigits n) ≤ 50 := by
  have h1 := dec_len_limbs (by omega) h
  have h2 := tz_le (decDigits n).reverse
  rw [List.length_reverse] at h2
  unfold zerosT; omega
theorem lens (m n : Nat) (xs : List Int) (hx : xs.length ≤ 1048576) (lm : (limbs m).length ≤ 5) (ln : (limbs n).length ≤ 5) :
    (limbs (m + n)).length ≤ 50 ∧ (limbs (m * n)).length ≤ 50 ∧ (limbs (n * m)).length ≤ 50 ∧ (limbs (m / n)).length ≤ 50 ∧ (limbs (m % n)).length ≤ 50 ∧ (limbs (Nat.gcd m n)).length ≤ 50 ∧
    (limbs (m / 10 ^ (numF xs 30).toNat)).length ≤ 50 ∧ (limbs (m % 10 ^ (numF xs 30).toNat)).length ≤ 50 ∧ (limbs (10 ^ (numF xs 30).toNat)).length ≤ 50 ∧ (limbs (n * 10 ^ (numF xs 30).toNat)).length ≤ 50 ∧ (decDigits m).length ≤ 45 ∧ 0 ≤ numF xs 30 ∧ numF xs 30 ≤ 29 := by
  have hr := below_rng xs 30 (hashF xs + 777, 0) (by omega)
  rw [show (belowF xs 30 (hashF xs + 777, 0)).1 = numF xs 30 from rfl] at hr
  obtain ⟨h0, h1⟩ := hr
  have l10 : (limbs (10 ^ (numF xs 30).toNat)).length ≤ 10 := by
    rw [limbs_len_le]
    exact Nat.lt_of_le_of_lt (Nat.pow_le_pow_right (by omega) (show (numF xs 30).toNat ≤ 29 by omega)) (by decide)
  refine ⟨by have := limbs_add (j := 0) lm ln; omega, by have := limbs_mul lm ln; omega, by have := limbs_mul ln lm; omega, ?_, ?_, gcd_len (by omega) (by omega), ?_, ?_, by omega, by have := limbs_mul ln l10; omega, by have := dec_len_limbs (by omega) lm; omega, h0, by omega⟩
  · exact Nat.le_trans (limbs_len_mono (Nat.div_le_self _ _)) (by omega)
  · exact Nat.le_trans (limbs_len_mono (Nat.mod_le _ _)) (by omega)
  · exact Nat.le_trans (limbs_len_mono (Nat.div_le_self _ _)) (by omega)
  · exact Nat.le_trans (limbs_len_mono (Nat.mod_le _ _)) (by omega)
set_option maxRecDepth 100000 in
set_option maxHeartbeats 40000000 in
theorem walk (a0 : Option Addr) (c0 : Nat) (xs0 : List Int) (w : World) (ht : Tab w) (hp0 : RdB w w.heap.size a0 xs0 ∧ Byt xs0 ∧ xs0.length ≤ c0 ∧ xs0.length ≤ maxLen) :
    Calls Tryd.prog 4 #[.slice a0 xs0.length c0] w fun e w' => e = .returned (.bool true) ∧ Below w.heap.size w w' := by
  obtain ⟨hr, hby, hc, hm⟩ := hp0
  unfold maxLen at hm
  by_cases hl : 1048576 < xs0.length
  · go_enter Tryd.func4, Tryd.ntmps4
    go_wp2
    go_ret
    exact ⟨rfl, Below.refl _ _⟩
  have hb0 := Below.refl w.heap.size w
  have HB := Lib.hid hby
  clear hby
  go_enter Tryd.func4, Tryd.ntmps4
  go_wp2_with fail
  refine (draw_nats a0 c0 xs0 _ hr HB.out (by omega) hc).mono ?_
  rintro e w1 ⟨⟨m, n, aA, cA, aB, cB, rfl, lm, ln, iA, iB⟩, hb⟩
  replace hb0 := hb0.trans (hb.mono hb0.size)
  clear hb
  obtain ⟨lS, lP, lP2, lQ, lR, lG, lC, lD, lT, lB, lDg, hk0, hk1⟩ := lens m n xs0 (by omega) lm ln
  obtain ⟨S, hS⟩ : ∃ S, m + n = S := ⟨_, rfl⟩
  obtain ⟨P, hP⟩ : ∃ P, m * n = P := ⟨_, rfl⟩
  obtain ⟨G, hG⟩ : ∃ G, Nat.gcd m n = G := ⟨_, rfl⟩
  obtain ⟨k, hk⟩ : ∃ k : Nat, numF xs0 30 = k := Int.eq_ofNat_of_zero_le hk0
  have hkn : (numF xs0 30).toNat = k := by rw [hk]; rfl
  rw [hkn] at lC lD lT lB
  obtain ⟨C, hC⟩ : ∃ C, m / 10 ^ k = C := ⟨_, rfl⟩
  obtain ⟨D, hD⟩ : ∃ D, m % 10 ^ k = D := ⟨_, rfl⟩
  obtain ⟨T, hT⟩ : ∃ T, 10 ^ k = T := ⟨_, rfl⟩
  have hCD : C * 10 ^ k = m - D := by rw [← hC, ← hD]; have := Nat.div_add_mod m (10 ^ k); rw [Nat.mul_comm] at this; omega
  have hDm : D ≤ m := by rw [← hD]; exact Nat.mod_le _ _
  have hDT : D < T := by rw [← hD, hT]; exact Nat.mod_lt _ (by rw [← hT]; exact Nat.pow_pos (by omega))
  have hk29 : k ≤ 29 := by omega
  rw [hS] at lS
  rw [hP] at lP
  rw [hG] at lG
  rw [hC] at lC
  rw [hD] at lD
  rw [hT] at lT
  have HK := Lib.hid hk
  have HCD := Lib.hid hCD
  have lX : (limbs (m - D)).length ≤ 50 := Nat.le_trans (limbs_len_mono (Nat.sub_le _ _)) (by omega)
  have lm5 : (limbs m).length ≤ 50 := by omega
  have ln5 : (limbs n).length ≤ 50 := by omega
  have hSz : ∃ z, cmpN S m = z ∧ 0 ≤ z := ⟨_, rfl, by unfold cmpN; rw [if_neg (by omega)]; split <;> omega⟩
  have hDz : cmpN D T = -1 := by unfold cmpN; rw [if_pos hDT]
  obtain ⟨z, hz, hz0⟩ := hSz
  have HZ := Lib.hid hz
  have hSn : S - n = m := by omega
  have hXD : m - D + D = m := by omega
  have hnm : n * m = P := by rw [Nat.mul_comm]; exact hP
  obtain ⟨V, hV⟩ : ∃ V, decDigits m = V := ⟨_, rfl⟩
  rw [hV] at lDg
  have hVt := tx_size V
  have HV := Lib.hid hV
  have HP := Lib.hid hP
  have HS := Lib.hid hS
  have HG := Lib.hid hG
  have HC := Lib.hid hC
  have HD := Lib.hid hD
  have HT := Lib.hid hT
  have HNM := Lib.hid hnm
  clear hk hkn hCD hDm hz hV hP hS hG hC hD hT hnm hk0 hk1
  go_wp2_with fail
  have h := n_add _ _ _ _ _ _ _ iA iB lm5 ln5 (by rw [HS.out]; exact lS)
  rw [HS.out] at h
  refine (h).mono ?_
  rintro e w2 ⟨⟨aS, cS, rfl, iS⟩, hb⟩
  replace iA := iA.below hb (Nat.le_refl _)
  replace iB := iB.below hb (Nat.le_refl _)
  replace hb0 := hb0.trans (hb.mono hb0.size)
  clear hb
  clear h
  rcases Nat.eq_zero_or_pos n with h0 | h0
  · replace h0 := Lib.hid h0
    go_wp2_with fail
    refine (n_div0 _ _ _ _ _ _ _ iA iB h0.out).mono ?_
    rintro e w3 ⟨⟨aQ, cQ, aR, cR, rfl, iQ, iR⟩, hb⟩
    replace iA := iA.below hb (Nat.le_refl _)
    replace iB := iB.below hb (Nat.le_refl _)
    replace iS := iS.below hb (Nat.le_refl _)
    replace hb0 := hb0.trans (hb.mono hb0.size)
    clear hb
    go_wp2_with fail
    have h := draw_num a0 c0 xs0 30 _ ((hr.below hb0 (Nat.le_refl _)).mono hb0.size) HB.out (by omega) hc (by omega)
    rw [HK.out] at h
    refine (h).mono ?_
    rintro e w4 ⟨rfl, hb⟩
    replace iA := iA.below hb (Nat.le_refl _)
    replace iB := iB.below hb (Nat.le_refl _)
    replace iS := iS.below hb (Nat.le_refl _)
    replace iQ := iQ.below hb (Nat.le_refl _)
    replace iR := iR.below hb (Nat.le_refl _)
    replace hb0 := hb0.trans (hb.mono hb0.size)
    clear hb
    clear h
    go_wp2_with fail
    have h := n_cut _ _ _ k _ iA lm5 (by omega)
    rw [HC.out, HD.out] at h
    refine (h).mono ?_
    rintro e w5 ⟨⟨aC, cC, aD, cD, rfl, iC, iD⟩, hb⟩
    replace iA := iA.below hb (Nat.le_refl _)
    replace iB := iB.below hb (Nat.le_refl _)
    replace iS := iS.below hb (Nat.le_refl _)
    replace iQ := iQ.below hb (Nat.le_refl _)
    replace iR := iR.below hb (Nat.le_refl _)
    replace hb0 := hb0.trans (hb.mono hb0.size)
    clear hb
    clear h
    go_wp2_with fail
    have h := n_text _ _ _ _ iA lm5 (ht.below hb0)
    rw [HV.out] at h
    refine (h).mono ?_
    rintro e w6 ⟨rfl, hb⟩
    replace iA := iA.below hb (Nat.le_refl _)
    replace iB := iB.below hb (Nat.le_refl _)
    replace iS := iS.below hb (Nat.le_refl _)
    replace iQ := iQ.below hb (Nat.le_refl _)
    replace iR := iR.below hb (Nat.le_refl _)
    replace iC := iC.below hb (Nat.le_refl _)
    replace iD := iD.below hb (Nat.le_refl _)
    replace hb0 := hb0.trans (hb.mono hb0.size)
    clear hb
    clear h
    go_wp2_with fail
    have h := n_read m w6 (by rw [HV.out]; omega)
    rw [HV.out] at h
    refine (h).mono ?_
    rintro e w7 ⟨⟨aT, cT, rfl, iT⟩, hb⟩
    replace iA := iA.below hb (Nat.le_refl _)
    replace iB := iB.below hb (Nat.le_refl _)
    replace iS := iS.below hb (Nat.le_refl _)
    replace iQ := iQ.below hb (Nat.le_refl _)
    replace iR := iR.below hb (Nat.le_refl _)
    replace iC := iC.below hb (Nat.le_refl _)
    replace iD := iD.below hb (Nat.le_refl _)
    replace hb0 := hb0.trans (hb.mono hb0.size)
    clear hb
    clear h
    go_wp2_with fail
    have h := n_gcd _ _ _ _ _ _ _ iA iB lm5 ln5
    rw [show Nat.gcd m n = m by rw [h0.out]; exact Nat.gcd_zero_right m] at h
    refine (h).mono ?_
    rintro e w8 ⟨⟨aG, cG, rfl, iG⟩, hb⟩
    replace iA := iA.below hb (Nat.le_refl _)
    replace iB := iB.below hb (Nat.le_refl _)
    replace iS := iS.below hb (Nat.le_refl _)
    replace iQ := iQ.below hb (Nat.le_refl _)
    replace iR := iR.below hb (Nat.le_refl _)
    replace iC := iC.below hb (Nat.le_refl _)
    replace iD := iD.below hb (Nat.le_refl _)
    replace iT := iT.below hb (Nat.le_refl _)
    replace hb0 := hb0.trans (hb.mono hb0.size)
    clear hb
    clear h
    go_wp2_with fail
    have h := n_sub _ _ _ _ _ _ _ iS iB lS ln5
    rw [hSn] at h
    refine (h).mono ?_
    rintro e w9 ⟨⟨aU, cU, rfl, iU⟩, hb⟩
    replace iA := iA.below hb (Nat.le_refl _)
    replace iB := iB.below hb (Nat.le_refl _)
    replace iS := iS.below hb (Nat.le_refl _)
    replace iQ := iQ.below hb (Nat.le_refl _)
    replace iR := iR.below hb (Nat.le_refl _)
    replace iC := iC.below hb (Nat.le_refl _)
    replace iD := iD.below hb (Nat.le_refl _)
    replace iT := iT.below hb (Nat.le_refl _)
    replace iG := iG.below hb (Nat.le_refl _)
    replace hb0 := hb0.trans (hb.mono hb0.size)
    clear hb
    clear h
    go_wp2_with fail
    refine (same_yes _ _ _ _ _ _ iU iA).mono ?_
    rintro e w10 ⟨rfl, hb⟩
    replace iA := iA.below hb (Nat.le_refl _)
    replace iB := iB.below hb (Nat.le_refl _)
    replace iS := iS.below hb (Nat.le_refl _)
    replace iQ := iQ.below hb (Nat.le_refl _)
    replace iR := iR.below hb (Nat.le_refl _)
    replace iC := iC.below hb (Nat.le_refl _)
    replace iD := iD.below hb (Nat.le_refl _)
    replace iT := iT.below hb (Nat.le_refl _)
    replace iG := iG.below hb (Nat.le_refl _)
    replace iU := iU.below hb (Nat.le_refl _)
    replace hb0 := hb0.trans (hb.mono hb0.size)
    clear hb
    go_wp2_with fail
    have h := n_mul _ _ _ _ _ _ _ iA iB lm5 ln5 (by rw [HP.out]; exact lP)
    rw [HP.out] at h
    refine (h).mono ?_
    rintro e w11 ⟨⟨aU1, cU1, rfl, iU1⟩, hb⟩
    replace iA := iA.below hb (Nat.le_refl _)
    replace iB := iB.below hb (Nat.le_refl _)
    replace iS := iS.below hb (Nat.le_refl _)
    replace iQ := iQ.below hb (Nat.le_refl _)
    replace iR := iR.below hb (Nat.le_refl _)
    replace iC := iC.below hb (Nat.le_refl _)
    replace iD := iD.below hb (Nat.le_refl _)
    replace iT := iT.below hb (Nat.le_refl _)
    replace iG := iG.below hb (Nat.le_refl _)
    replace hb0 := hb0.trans (hb.mono hb0.size)
    clear hb
    clear h
    go_wp2_with fail
    have h := n_mul _ _ _ _ _ _ _ iB iA ln5 lm5 (by rw [HNM.out]; exact lP)
    rw [HNM.out] at h
    refine (h).mono ?_
    rintro e w12 ⟨⟨aU2, cU2, rfl, iU2⟩, hb⟩
    replace iA := iA.below hb (Nat.le_refl _)
    replace iB := iB.below hb (Nat.le_refl _)
    replace iS := iS.below hb (Nat.le_refl _)
    replace iQ := iQ.below hb (Nat.le_refl _)
    replace iR := iR.below hb (Nat.le_refl _)
    replace iC := iC.below hb (Nat.le_refl _)
    replace iD := iD.below hb (Nat.le_refl _)
    replace iT := iT.below hb (Nat.le_refl _)
    replace iG := iG.below hb (Nat.le_refl _)
    replace iU1 := iU1.below hb (Nat.le_refl _)
    replace hb0 := hb0.trans (hb.mono hb0.size)
    clear hb
    clear h
    go_wp2_with fail
    refine (same_yes _ _ _ _ _ _ iU1 iU2).mono ?_
    rintro e w13 ⟨rfl, hb⟩
    replace iA := iA.below hb (Nat.le_refl _)
    replace iB := iB.below hb (Nat.le_refl _)
    replace iS := iS.below hb (Nat.le_refl _)
    replace iQ := iQ.below hb (Nat.le_refl _)
    replace iR := iR.below hb (Nat.le_refl _)
    replace iC := iC.below hb (Nat.le_refl _)
    replace iD := iD.below hb (Nat.le_refl _)
    replace iT := iT.below hb (Nat.le_refl _)
    replace iG := iG.below hb (Nat.le_refl _)
    replace iU1 := iU1.below hb (Nat.le_refl _)
    replace iU2 := iU2.below hb (Nat.le_refl _)
    replace hb0 := hb0.trans (hb.mono hb0.size)
    clear hb
    go_wp2_with fail
    refine (same_yes _ _ _ _ _ _ iT iA).mono ?_
    rintro e w14 ⟨rfl, hb⟩
    replace iA := iA.below hb (Nat.le_refl _)
    replace iB := iB.below hb (Nat.le_refl _)
    replace iS := iS.below hb (Nat.le_refl _)
    replace iQ := iQ.below hb (Nat.le_refl _)
    replace iR := iR.below hb (Nat.le_refl _)
    replace iC := iC.below hb (Nat.le_refl _)
    replace iD := iD.below hb (Nat.le_refl _)
    replace iT := iT.below hb (Nat.le_refl _)
    replace iG := iG.below hb (Nat.le_refl _)
    replace hb0 := hb0.trans (hb.mono hb0.size)
    clear hb
    go_wp2_with fail
    have h := n_cmp _ _ _ _ _ _ _ iS iA lS lm5
    rw [HZ.out] at h
    refine (h).mono ?_
    rintro e w15 ⟨rfl, hb⟩
    replace iA := iA.below hb (Nat.le_refl _)
    replace iB := iB.below hb (Nat.le_refl _)
    replace iS := iS.below hb (Nat.le_refl _)
    replace iQ := iQ.below hb (Nat.le_refl _)
    replace iR := iR.below hb (Nat.le_refl _)
    replace iC := iC.below hb (Nat.le_refl _)
    replace iD := iD.below hb (Nat.le_refl _)
    replace iT := iT.below hb (Nat.le_refl _)
    replace iG := iG.below hb (Nat.le_refl _)
    replace hb0 := hb0.trans (hb.mono hb0.size)
    clear hb
    clear h
    go_wp2_with fail
    have h := n_scale _ _ C k _ iC lC (by omega) (by rw [HCD.out]; exact lX)
    rw [HCD.out] at h
    refine (h).mono ?_
    rintro e w16 ⟨⟨aU3, cU3, rfl, iU3⟩, hb⟩
    replace iA := iA.below hb (Nat.le_refl _)
    replace iB := iB.below hb (Nat.le_refl _)
    replace iS := iS.below hb (Nat.le_refl _)
    replace iQ := iQ.below hb (Nat.le_refl _)
    replace iR := iR.below hb (Nat.le_refl _)
    replace iC := iC.below hb (Nat.le_refl _)
    replace iD := iD.below hb (Nat.le_refl _)
    replace iT := iT.below hb (Nat.le_refl _)
    replace iG := iG.below hb (Nat.le_refl _)
    replace hb0 := hb0.trans (hb.mono hb0.size)
    clear hb
    clear h
    go_wp2_with fail
    have h := n_add _ _ _ _ _ _ _ iU3 iD lX lD (by rw [hXD]; exact lm5)
    rw [hXD] at h
    refine (h).mono ?_
    rintro e w17 ⟨⟨aU4, cU4, rfl, iU4⟩, hb⟩
    replace iA := iA.below hb (Nat.le_refl _)
    replace iB := iB.below hb (Nat.le_refl _)
    replace iS := iS.below hb (Nat.le_refl _)
    replace iQ := iQ.below hb (Nat.le_refl _)
    replace iR := iR.below hb (Nat.le_refl _)
    replace iC := iC.below hb (Nat.le_refl _)
    replace iD := iD.below hb (Nat.le_refl _)
    replace iT := iT.below hb (Nat.le_refl _)
    replace iG := iG.below hb (Nat.le_refl _)
    replace iU3 := iU3.below hb (Nat.le_refl _)
    replace hb0 := hb0.trans (hb.mono hb0.size)
    clear hb
    clear h
    go_wp2_with fail
    refine (same_yes _ _ _ _ _ _ iU4 iA).mono ?_
    rintro e w18 ⟨rfl, hb⟩
    replace iA := iA.below hb (Nat.le_refl _)
    replace iB := iB.below hb (Nat.le_refl _)
    replace iS := iS.below hb (Nat.le_refl _)
    replace iQ := iQ.below hb (Nat.le_refl _)
    replace iR := iR.below hb (Nat.le_refl _)
    replace iC := iC.below hb (Nat.le_refl _)
    replace iD := iD.below hb (Nat.le_refl _)
    replace iT := iT.below hb (Nat.le_refl _)
    replace iG := iG.below hb (Nat.le_refl _)
    replace iU4 := iU4.below hb (Nat.le_refl _)
    replace hb0 := hb0.trans (hb.mono hb0.size)
    clear hb
    go_wp2_with fail
    have h := n_ten k w18 (by omega)
    rw [HT.out] at h
    refine (h).mono ?_
    rintro e w19 ⟨⟨aU5, cU5, rfl, iU5⟩, hb⟩
    replace iA := iA.below hb (Nat.le_refl _)
    replace iB := iB.below hb (Nat.le_refl _)
    replace iS := iS.below hb (Nat.le_refl _)
    replace iQ := iQ.below hb (Nat.le_refl _)
    replace iR := iR.below hb (Nat.le_refl _)
    replace iC := iC.below hb (Nat.le_refl _)
    replace iD := iD.below hb (Nat.le_refl _)
    replace iT := iT.below hb (Nat.le_refl _)
    replace iG := iG.below hb (Nat.le_refl _)
    replace hb0 := hb0.trans (hb.mono hb0.size)
    clear hb
    clear h
    go_wp2_with fail
    have h := n_cmp _ _ _ _ _ _ _ iD iU5 lD lT
    rw [hDz] at h
    refine (h).mono ?_
    rintro e w20 ⟨rfl, hb⟩
    replace iA := iA.below hb (Nat.le_refl _)
    replace iB := iB.below hb (Nat.le_refl _)
    replace iS := iS.below hb (Nat.le_refl _)
    replace iQ := iQ.below hb (Nat.le_refl _)
    replace iR := iR.below hb (Nat.le_refl _)
    replace iC := iC.below hb (Nat.le_refl _)
    replace iD := iD.below hb (Nat.le_refl _)
    replace iT := iT.below hb (Nat.le_refl _)
    replace iG := iG.below hb (Nat.le_refl _)
    replace iU5 := iU5.below hb (Nat.le_refl _)
    replace hb0 := hb0.trans (hb.mono hb0.size)
    clear hb
    clear h
    have hnz : (limbs n).length = 0 := by rw [h0.out]; rfl
    go_wp2_with fail
    · skip
      have hlm : 0 < (limbs m).length := by omega
      have hm0 : 0 < m := limbs_pos_iff.1 hlm
      go_wp2_with fail
      have h := n_digits _ _ _ _ iA lm5 hm0 (ht.below hb0)
      rw [HV.out] at h
      refine (h).mono ?_
      rintro e w21 ⟨rfl, hb⟩
      replace iA := iA.below hb (Nat.le_refl _)
      replace iB := iB.below hb (Nat.le_refl _)
      replace iS := iS.below hb (Nat.le_refl _)
      replace iQ := iQ.below hb (Nat.le_refl _)
      replace iR := iR.below hb (Nat.le_refl _)
      replace iC := iC.below hb (Nat.le_refl _)
      replace iD := iD.below hb (Nat.le_refl _)
      replace iT := iT.below hb (Nat.le_refl _)
      replace iG := iG.below hb (Nat.le_refl _)
      replace hb0 := hb0.trans (hb.mono hb0.size)
      clear hb
      clear h
      go_wp2_with fail
      have h := n_text _ _ _ _ iA lm5 (ht.below hb0)
      rw [HV.out] at h
      refine (h).mono ?_
      rintro e w22 ⟨rfl, hb⟩
      replace iA := iA.below hb (Nat.le_refl _)
      replace iB := iB.below hb (Nat.le_refl _)
      replace iS := iS.below hb (Nat.le_refl _)
      replace iQ := iQ.below hb (Nat.le_refl _)
      replace iR := iR.below hb (Nat.le_refl _)
      replace iC := iC.below hb (Nat.le_refl _)
      replace iD := iD.below hb (Nat.le_refl _)
      replace iT := iT.below hb (Nat.le_refl _)
      replace iG := iG.below hb (Nat.le_refl _)
      replace hb0 := hb0.trans (hb.mono hb0.size)
      clear hb
      clear h
      go_wp2_with fail
      have h := same_yes _ _ _ _ _ _ iG iA
      refine (h).mono ?_
      rintro e w23 ⟨rfl, hb⟩
      replace iA := iA.below hb (Nat.le_refl _)
      replace iB := iB.below hb (Nat.le_refl _)
      replace iS := iS.below hb (Nat.le_refl _)
      replace iQ := iQ.below hb (Nat.le_refl _)
      replace iR := iR.below hb (Nat.le_refl _)
      replace iC := iC.below hb (Nat.le_refl _)
      replace iD := iD.below hb (Nat.le_refl _)
      replace iT := iT.below hb (Nat.le_refl _)
      replace iG := iG.below hb (Nat.le_refl _)
      replace hb0 := hb0.trans (hb.mono hb0.size)
      clear hb
      clear h
      go_wp2
      go_ret
      exact ⟨rfl, hb0⟩
    · skip
      go_wp2_with fail
      have h := same_yes _ _ _ _ _ _ iG iA
      refine (h).mono ?_
      rintro e w21 ⟨rfl, hb⟩
      replace iA := iA.below hb (Nat.le_refl _)
      replace iB := iB.below hb (Nat.le_refl _)
      replace iS := iS.below hb (Nat.le_refl _)
      replace iQ := iQ.below hb (Nat.le_refl _)
      replace iR := iR.below hb (Nat.le_refl _)
      replace iC := iC.below hb (Nat.le_refl _)
      replace iD := iD.below hb (Nat.le_refl _)
      replace iT := iT.below hb (Nat.le_refl _)
      replace iG := iG.below hb (Nat.le_refl _)
      replace hb0 := hb0.trans (hb.mono hb0.size)
      clear hb
      clear h
      go_wp2
      go_ret
      exact ⟨rfl, hb0⟩
  · skip
    go_wp2_with fail
    have h := n_div _ _ _ _ _ _ _ iA iB lm5 ln5 h0
    obtain ⟨Q, hQ⟩ : ∃ Q, m / n = Q := ⟨_, rfl⟩
    obtain ⟨R, hR⟩ : ∃ R, m % n = R := ⟨_, rfl⟩
    have hQR : Q * n + R = m := by rw [← hQ, ← hR, Nat.mul_comm]; exact Nat.div_add_mod m n
    have hRn : R < n := by rw [← hR]; exact Nat.mod_lt _ h0
    rw [hQ, hR] at h
    rw [hQ] at lQ
    rw [hR] at lR
    clear hQ hR
    refine (h).mono ?_
    rintro e w3 ⟨⟨aQ, cQ, aR, cR, rfl, iQ, iR⟩, hb⟩
    replace iA := iA.below hb (Nat.le_refl _)
    replace iB := iB.below hb (Nat.le_refl _)
    replace iS := iS.below hb (Nat.le_refl _)
    replace hb0 := hb0.trans (hb.mono hb0.size)
    clear hb
    clear h
    go_wp2_with fail
    have h := draw_num a0 c0 xs0 30 _ ((hr.below hb0 (Nat.le_refl _)).mono hb0.size) HB.out (by omega) hc (by omega)
    rw [HK.out] at h
    refine (h).mono ?_
    rintro e w4 ⟨rfl, hb⟩
    replace iA := iA.below hb (Nat.le_refl _)
    replace iB := iB.below hb (Nat.le_refl _)
    replace iS := iS.below hb (Nat.le_refl _)
    replace iQ := iQ.below hb (Nat.le_refl _)
    replace iR := iR.below hb (Nat.le_refl _)
    replace hb0 := hb0.trans (hb.mono hb0.size)
    clear hb
    clear h
    go_wp2_with fail
    have h := n_cut _ _ _ k _ iA lm5 (by omega)
    rw [HC.out, HD.out] at h
    refine (h).mono ?_
    rintro e w5 ⟨⟨aC, cC, aD, cD, rfl, iC, iD⟩, hb⟩
    replace iA := iA.below hb (Nat.le_refl _)
    replace iB := iB.below hb (Nat.le_refl _)
    replace iS := iS.below hb (Nat.le_refl _)
    replace iQ := iQ.below hb (Nat.le_refl _)
    replace iR := iR.below hb (Nat.le_refl _)
    replace hb0 := hb0.trans (hb.mono hb0.size)
    clear hb
    clear h
    go_wp2_with fail
    have h := n_text _ _ _ _ iA lm5 (ht.below hb0)
    rw [HV.out] at h
    refine (h).mono ?_
    rintro e w6 ⟨rfl, hb⟩
    replace iA := iA.below hb (Nat.le_refl _)
    replace iB := iB.below hb (Nat.le_refl _)
    replace iS := iS.below hb (Nat.le_refl _)
    replace iQ := iQ.below hb (Nat.le_refl _)
    replace iR := iR.below hb (Nat.le_refl _)
    replace iC := iC.below hb (Nat.le_refl _)
    replace iD := iD.below hb (Nat.le_refl _)
    replace hb0 := hb0.trans (hb.mono hb0.size)
    clear hb
    clear h
    go_wp2_with fail
    have h := n_read m w6 (by rw [HV.out]; omega)
    rw [HV.out] at h
    refine (h).mono ?_
    rintro e w7 ⟨⟨aT, cT, rfl, iT⟩, hb⟩
    replace iA := iA.below hb (Nat.le_refl _)
    replace iB := iB.below hb (Nat.le_refl _)
    replace iS := iS.below hb (Nat.le_refl _)
    replace iQ := iQ.below hb (Nat.le_refl _)
    replace iR := iR.below hb (Nat.le_refl _)
    replace iC := iC.below hb (Nat.le_refl _)
    replace iD := iD.below hb (Nat.le_refl _)
    replace hb0 := hb0.trans (hb.mono hb0.size)
    clear hb
    clear h
    go_wp2_with fail
    have h := n_gcd _ _ _ _ _ _ _ iA iB lm5 ln5
    rw [HG.out] at h
    refine (h).mono ?_
    rintro e w8 ⟨⟨aG, cG, rfl, iG⟩, hb⟩
    replace iA := iA.below hb (Nat.le_refl _)
    replace iB := iB.below hb (Nat.le_refl _)
    replace iS := iS.below hb (Nat.le_refl _)
    replace iQ := iQ.below hb (Nat.le_refl _)
    replace iR := iR.below hb (Nat.le_refl _)
    replace iC := iC.below hb (Nat.le_refl _)
    replace iD := iD.below hb (Nat.le_refl _)
    replace iT := iT.below hb (Nat.le_refl _)
    replace hb0 := hb0.trans (hb.mono hb0.size)
    clear hb
    clear h
    go_wp2_with fail
    have h := n_sub _ _ _ _ _ _ _ iS iB lS ln5
    rw [hSn] at h
    refine (h).mono ?_
    rintro e w9 ⟨⟨aU, cU, rfl, iU⟩, hb⟩
    replace iA := iA.below hb (Nat.le_refl _)
    replace iB := iB.below hb (Nat.le_refl _)
    replace iS := iS.below hb (Nat.le_refl _)
    replace iQ := iQ.below hb (Nat.le_refl _)
    replace iR := iR.below hb (Nat.le_refl _)
    replace iC := iC.below hb (Nat.le_refl _)
    replace iD := iD.below hb (Nat.le_refl _)
    replace iT := iT.below hb (Nat.le_refl _)
    replace iG := iG.below hb (Nat.le_refl _)
    replace hb0 := hb0.trans (hb.mono hb0.size)
    clear hb
    clear h
    go_wp2_with fail
    refine (same_yes _ _ _ _ _ _ iU iA).mono ?_
    rintro e w10 ⟨rfl, hb⟩
    replace iA := iA.below hb (Nat.le_refl _)
    replace iB := iB.below hb (Nat.le_refl _)
    replace iS := iS.below hb (Nat.le_refl _)
    replace iQ := iQ.below hb (Nat.le_refl _)
    replace iR := iR.below hb (Nat.le_refl _)
    replace iC := iC.below hb (Nat.le_refl _)
    replace iD := iD.below hb (Nat.le_refl _)
    replace iT := iT.below hb (Nat.le_refl _)
    replace iG := iG.below hb (Nat.le_refl _)
    replace iU := iU.below hb (Nat.le_refl _)
    replace hb0 := hb0.trans (hb.mono hb0.size)
    clear hb
    go_wp2_with fail
    have h := n_mul _ _ _ _ _ _ _ iA iB lm5 ln5 (by rw [HP.out]; exact lP)
    rw [HP.out] at h
    refine (h).mono ?_
    rintro e w11 ⟨⟨aU1, cU1, rfl, iU1⟩, hb⟩
    replace iA := iA.below hb (Nat.le_refl _)
    replace iB := iB.below hb (Nat.le_refl _)
    replace iS := iS.below hb (Nat.le_refl _)
    replace iQ := iQ.below hb (Nat.le_refl _)
    replace iR := iR.below hb (Nat.le_refl _)
    replace iC := iC.below hb (Nat.le_refl _)
    replace iD := iD.below hb (Nat.le_refl _)
    replace iT := iT.below hb (Nat.le_refl _)
    replace iG := iG.below hb (Nat.le_refl _)
    replace hb0 := hb0.trans (hb.mono hb0.size)
    clear hb
    clear h
    go_wp2_with fail
    have h := n_mul _ _ _ _ _ _ _ iB iA ln5 lm5 (by rw [HNM.out]; exact lP)
    rw [HNM.out] at h
    refine (h).mono ?_
    rintro e w12 ⟨⟨aU2, cU2, rfl, iU2⟩, hb⟩
    replace iA := iA.below hb (Nat.le_refl _)
    replace iB := iB.below hb (Nat.le_refl _)
    replace iS := iS.below hb (Nat.le_refl _)
    replace iQ := iQ.below hb (Nat.le_refl _)
    replace iR := iR.below hb (Nat.le_refl _)
    replace iC := iC.below hb (Nat.le_refl _)
    replace iD := iD.below hb (Nat.le_refl _)
    replace iT := iT.below hb (Nat.le_refl _)
    replace iG := iG.below hb (Nat.le_refl _)
    replace iU1 := iU1.below hb (Nat.le_refl _)
    replace hb0 := hb0.trans (hb.mono hb0.size)
    clear hb
    clear h
    go_wp2_with fail
    refine (same_yes _ _ _ _ _ _ iU1 iU2).mono ?_
    rintro e w13 ⟨rfl, hb⟩
    replace iA := iA.below hb (Nat.le_refl _)
    replace iB := iB.below hb (Nat.le_refl _)
    replace iS := iS.below hb (Nat.le_refl _)
    replace iQ := iQ.below hb (Nat.le_refl _)
    replace iR := iR.below hb (Nat.le_refl _)
    replace iC := iC.below hb (Nat.le_refl _)
    replace iD := iD.below hb (Nat.le_refl _)
    replace iT := iT.below hb (Nat.le_refl _)
    replace iG := iG.below hb (Nat.le_refl _)
    replace iU1 := iU1.below hb (Nat.le_refl _)
    replace iU2 := iU2.below hb (Nat.le_refl _)
    replace hb0 := hb0.trans (hb.mono hb0.size)
    clear hb
    go_wp2_with fail
    refine (same_yes _ _ _ _ _ _ iT iA).mono ?_
    rintro e w14 ⟨rfl, hb⟩
    replace iA := iA.below hb (Nat.le_refl _)
    replace iB := iB.below hb (Nat.le_refl _)
    replace iS := iS.below hb (Nat.le_refl _)
    replace iQ := iQ.below hb (Nat.le_refl _)
    replace iR := iR.below hb (Nat.le_refl _)
    replace iC := iC.below hb (Nat.le_refl _)
    replace iD := iD.below hb (Nat.le_refl _)
    replace iT := iT.below hb (Nat.le_refl _)
    replace iG := iG.below hb (Nat.le_refl _)
    replace hb0 := hb0.trans (hb.mono hb0.size)
    clear hb
    go_wp2_with fail
    have h := n_cmp _ _ _ _ _ _ _ iS iA lS lm5
    rw [HZ.out] at h
    refine (h).mono ?_
    rintro e w15 ⟨rfl, hb⟩
    replace iA := iA.below hb (Nat.le_refl _)
    replace iB := iB.below hb (Nat.le_refl _)
    replace iS := iS.below hb (Nat.le_refl _)
    replace iQ := iQ.below hb (Nat.le_refl _)
    replace iR := iR.below hb (Nat.le_refl _)
    replace iC := iC.below hb (Nat.le_refl _)
    replace iD := iD.below hb (Nat.le_refl _)
    replace iT := iT.below hb (Nat.le_refl _)
    replace iG := iG.below hb (Nat.le_refl _)
    replace hb0 := hb0.trans (hb.mono hb0.size)
    clear hb
    clear h
    go_wp2_with fail
    have h := n_scale _ _ C k _ iC lC (by omega) (by rw [HCD.out]; exact lX)
    rw [HCD.out] at h
    refine (h).mono ?_
    rintro e w16 ⟨⟨aU3, cU3, rfl, iU3⟩, hb⟩
    replace iA := iA.below hb (Nat.le_refl _)
    replace iB := iB.below hb (Nat.le_refl _)
    replace iS := iS.below hb (Nat.le_refl _)
    replace iQ := iQ.below hb (Nat.le_refl _)
    replace iR := iR.below hb (Nat.le_refl _)
    replace iC := iC.below hb (Nat.le_refl _)
    replace iD := iD.below hb (Nat.le_refl _)
    replace iT := iT.below hb (Nat.le_refl _)
    replace iG := iG.below hb (Nat.le_refl _)
    replace hb0 := hb0.trans (hb.mono hb0.size)
    clear hb
    clear h
    go_wp2_with fail
    have h := n_add _ _ _ _ _ _ _ iU3 iD lX lD (by rw [hXD]; exact lm5)
    rw [hXD] at h
    refine (h).mono ?_
    rintro e w17 ⟨⟨aU4, cU4, rfl, iU4⟩, hb⟩
    replace iA := iA.below hb (Nat.le_refl _)
    replace iB := iB.below hb (Nat.le_refl _)
    replace iS := iS.below hb (Nat.le_refl _)
    replace iQ := iQ.below hb (Nat.le_refl _)
    replace iR := iR.below hb (Nat.le_refl _)
    replace iC := iC.below hb (Nat.le_refl _)
    replace iD := iD.below hb (Nat.le_refl _)
    replace iT := iT.below hb (Nat.le_refl _)
    replace iG := iG.below hb (Nat.le_refl _)
    replace iU3 := iU3.below hb (Nat.le_refl _)
    replace hb0 := hb0.trans (hb.mono hb0.size)
    clear hb
    clear h
    go_wp2_with fail
    refine (same_yes _ _ _ _ _ _ iU4 iA).mono ?_
    rintro e w18 ⟨rfl, hb⟩
    replace iA := iA.below hb (Nat.le_refl _)
    replace iB := iB.below hb (Nat.le_refl _)
    replace iS := iS.below hb (Nat.le_refl _)
    replace iQ := iQ.below hb (Nat.le_refl _)
    replace iR := iR.below hb (Nat.le_refl _)
    replace iC := iC.below hb (Nat.le_refl _)
    replace iD := iD.below hb (Nat.le_refl _)
    replace iT := iT.below hb (Nat.le_refl _)
    replace iG := iG.below hb (Nat.le_refl _)
    replace iU4 := iU4.below hb (Nat.le_refl _)
    replace hb0 := hb0.trans (hb.mono hb0.size)
    clear hb
    go_wp2_with fail
    have h := n_ten k w18 (by omega)
    rw [HT.out] at h
    refine (h).mono ?_
    rintro e w19 ⟨⟨aU5, cU5, rfl, iU5⟩, hb⟩
    replace iA := iA.below hb (Nat.le_refl _)
    replace iB := iB.below hb (Nat.le_refl _)
    replace iS := iS.below hb (Nat.le_refl _)
    replace iQ := iQ.below hb (Nat.le_refl _)
    replace iR := iR.below hb (Nat.le_refl _)
    replace iC := iC.below hb (Nat.le_refl _)
    replace iD := iD.below hb (Nat.le_refl _)
    replace iT := iT.below hb (Nat.le_refl _)
    replace iG := iG.below hb (Nat.le_refl _)
    replace hb0 := hb0.trans (hb.mono hb0.size)
    clear hb
    clear h
    go_wp2_with fail
    have h := n_cmp _ _ _ _ _ _ _ iD iU5 lD lT
    rw [hDz] at h
    refine (h).mono ?_
    rintro e w20 ⟨rfl, hb⟩
    replace iA := iA.below hb (Nat.le_refl _)
    replace iB := iB.below hb (Nat.le_refl _)
    replace iS := iS.below hb (Nat.le_refl _)
    replace iQ := iQ.below hb (Nat.le_refl _)
    replace iR := iR.below hb (Nat.le_refl _)
    replace iC := iC.below hb (Nat.le_refl _)
    replace iD := iD.below hb (Nat.le_refl _)
    replace iT := iT.below hb (Nat.le_refl _)
    replace iG := iG.below hb (Nat.le_refl _)
    replace iU5 := iU5.below hb (Nat.le_refl _)
    replace hb0 := hb0.trans (hb.mono hb0.size)
    clear hb
    clear h
    have hnz : 0 < (limbs n).length := limbs_pos_iff.2 h0
    go_wp2_with fail
    · skip
      have hlm : 0 < (limbs m).length := by omega
      have hm0 : 0 < m := limbs_pos_iff.1 hlm
      go_wp2_with fail
      have h := n_digits _ _ _ _ iA lm5 hm0 (ht.below hb0)
      rw [HV.out] at h
      refine (h).mono ?_
      rintro e w21 ⟨rfl, hb⟩
      replace iA := iA.below hb (Nat.le_refl _)
      replace iB := iB.below hb (Nat.le_refl _)
      replace iS := iS.below hb (Nat.le_refl _)
      replace iQ := iQ.below hb (Nat.le_refl _)
      replace iR := iR.below hb (Nat.le_refl _)
      replace iC := iC.below hb (Nat.le_refl _)
      replace iD := iD.below hb (Nat.le_refl _)
      replace iT := iT.below hb (Nat.le_refl _)
      replace iG := iG.below hb (Nat.le_refl _)
      replace hb0 := hb0.trans (hb.mono hb0.size)
      clear hb
      clear h
      go_wp2_with fail
      have h := n_text _ _ _ _ iA lm5 (ht.below hb0)
      rw [HV.out] at h
      refine (h).mono ?_
      rintro e w22 ⟨rfl, hb⟩
      replace iA := iA.below hb (Nat.le_refl _)
      replace iB := iB.below hb (Nat.le_refl _)
      replace iS := iS.below hb (Nat.le_refl _)
      replace iQ := iQ.below hb (Nat.le_refl _)
      replace iR := iR.below hb (Nat.le_refl _)
      replace iC := iC.below hb (Nat.le_refl _)
      replace iD := iD.below hb (Nat.le_refl _)
      replace iT := iT.below hb (Nat.le_refl _)
      replace iG := iG.below hb (Nat.le_refl _)
      replace hb0 := hb0.trans (hb.mono hb0.size)
      clear hb
      clear h
      have hG0 : 0 < G := by rw [← HG.out]; exact Nat.gcd_pos_of_pos_right _ h0
      have hGm : m % G = 0 := by rw [← HG.out]; exact Nat.mod_eq_zero_of_dvd (Nat.gcd_dvd_left m n)
      have hGn : n % G = 0 := by rw [← HG.out]; exact Nat.mod_eq_zero_of_dvd (Nat.gcd_dvd_right m n)
      go_wp2_with fail
      have h := n_div _ _ _ _ _ _ _ iA iG lm5 lG hG0
      rw [hGm, limbs_zero] at h
      generalize m / G = X1 at h
      refine (h).mono ?_
      rintro e w23 ⟨⟨aV1, cV1, aV2, cV2, rfl, -, -⟩, hb⟩
      replace iA := iA.below hb (Nat.le_refl _)
      replace iB := iB.below hb (Nat.le_refl _)
      replace iS := iS.below hb (Nat.le_refl _)
      replace iQ := iQ.below hb (Nat.le_refl _)
      replace iR := iR.below hb (Nat.le_refl _)
      replace iC := iC.below hb (Nat.le_refl _)
      replace iD := iD.below hb (Nat.le_refl _)
      replace iT := iT.below hb (Nat.le_refl _)
      replace iG := iG.below hb (Nat.le_refl _)
      replace hb0 := hb0.trans (hb.mono hb0.size)
      clear hb
      clear h
      go_wp2_with fail
      have h := n_div _ _ _ _ _ _ _ iB iG ln5 lG hG0
      rw [hGn, limbs_zero] at h
      generalize n / G = X2 at h
      refine (h).mono ?_
      rintro e w24 ⟨⟨aV3, cV3, aV4, cV4, rfl, -, -⟩, hb⟩
      replace iA := iA.below hb (Nat.le_refl _)
      replace iB := iB.below hb (Nat.le_refl _)
      replace iS := iS.below hb (Nat.le_refl _)
      replace iQ := iQ.below hb (Nat.le_refl _)
      replace iR := iR.below hb (Nat.le_refl _)
      replace iC := iC.below hb (Nat.le_refl _)
      replace iD := iD.below hb (Nat.le_refl _)
      replace iT := iT.below hb (Nat.le_refl _)
      replace iG := iG.below hb (Nat.le_refl _)
      replace hb0 := hb0.trans (hb.mono hb0.size)
      clear hb
      clear h
      go_wp2_with fail
      have h := n_scale _ _ n k _ iB ln5 (by omega) lB
      obtain ⟨Y, hY⟩ : ∃ Y, n * 10 ^ k = Y := ⟨_, rfl⟩
      have hY0 : 0 < Y := by rw [← hY]; exact Nat.mul_pos h0 (Nat.pow_pos (by omega))
      have hYz := zeros_ten h0 k
      rw [hY] at h hYz
      rw [hY] at lB
      obtain ⟨zn, hzn⟩ : ∃ z, zerosT (decDigits n) = z := ⟨_, rfl⟩
      have hznb : zn ≤ 50 := by rw [← hzn]; exact zeros_le n ln
      rw [hzn] at hYz
      have HY := Lib.hid hYz
      have HZN := Lib.hid hzn
      clear hY hYz hzn
      refine (h).mono ?_
      rintro e w25 ⟨⟨aV5, cV5, rfl, iV5⟩, hb⟩
      replace iA := iA.below hb (Nat.le_refl _)
      replace iB := iB.below hb (Nat.le_refl _)
      replace iS := iS.below hb (Nat.le_refl _)
      replace iQ := iQ.below hb (Nat.le_refl _)
      replace iR := iR.below hb (Nat.le_refl _)
      replace iC := iC.below hb (Nat.le_refl _)
      replace iD := iD.below hb (Nat.le_refl _)
      replace iT := iT.below hb (Nat.le_refl _)
      replace iG := iG.below hb (Nat.le_refl _)
      replace hb0 := hb0.trans (hb.mono hb0.size)
      clear hb
      clear h
      go_wp2_with fail
      have h := n_zeros _ _ _ _ iV5 lB hY0 (ht.below hb0)
      rw [HY.out] at h
      refine (h).mono ?_
      rintro e w26 ⟨rfl, hb⟩
      replace iA := iA.below hb (Nat.le_refl _)
      replace iB := iB.below hb (Nat.le_refl _)
      replace iS := iS.below hb (Nat.le_refl _)
      replace iQ := iQ.below hb (Nat.le_refl _)
      replace iR := iR.below hb (Nat.le_refl _)
      replace iC := iC.below hb (Nat.le_refl _)
      replace iD := iD.below hb (Nat.le_refl _)
      replace iT := iT.below hb (Nat.le_refl _)
      replace iG := iG.below hb (Nat.le_refl _)
      replace iV5 := iV5.below hb (Nat.le_refl _)
      replace hb0 := hb0.trans (hb.mono hb0.size)
      clear hb
      clear h
      go_wp2_with fail
      have hle : Q * n ≤ m := by omega
      have lQn : (limbs (Q * n)).length ≤ 50 := Nat.le_trans (limbs_len_mono hle) lm5
      have h := n_mul _ _ _ _ _ _ _ iQ iB lQ ln5 lQn
      obtain ⟨M, hM⟩ : ∃ M, Q * n = M := ⟨_, rfl⟩
      rw [hM] at h lQn hQR hle
      clear hM
      refine (h).mono ?_
      rintro e w27 ⟨⟨aV6, cV6, rfl, iV6⟩, hb⟩
      replace iA := iA.below hb (Nat.le_refl _)
      replace iB := iB.below hb (Nat.le_refl _)
      replace iS := iS.below hb (Nat.le_refl _)
      replace iQ := iQ.below hb (Nat.le_refl _)
      replace iR := iR.below hb (Nat.le_refl _)
      replace iC := iC.below hb (Nat.le_refl _)
      replace iD := iD.below hb (Nat.le_refl _)
      replace iT := iT.below hb (Nat.le_refl _)
      replace iG := iG.below hb (Nat.le_refl _)
      replace hb0 := hb0.trans (hb.mono hb0.size)
      clear hb
      clear h
      go_wp2_with fail
      have h := n_add _ _ _ _ _ _ _ iV6 iR lQn lR (by rw [hQR]; exact lm5)
      rw [hQR] at h
      refine (h).mono ?_
      rintro e w28 ⟨⟨aV7, cV7, rfl, iV7⟩, hb⟩
      replace iA := iA.below hb (Nat.le_refl _)
      replace iB := iB.below hb (Nat.le_refl _)
      replace iS := iS.below hb (Nat.le_refl _)
      replace iQ := iQ.below hb (Nat.le_refl _)
      replace iR := iR.below hb (Nat.le_refl _)
      replace iC := iC.below hb (Nat.le_refl _)
      replace iD := iD.below hb (Nat.le_refl _)
      replace iT := iT.below hb (Nat.le_refl _)
      replace iG := iG.below hb (Nat.le_refl _)
      replace iV6 := iV6.below hb (Nat.le_refl _)
      replace hb0 := hb0.trans (hb.mono hb0.size)
      clear hb
      clear h
      go_wp2_with fail
      refine (same_yes _ _ _ _ _ _ iV7 iA).mono ?_
      rintro e w29 ⟨rfl, hb⟩
      replace iA := iA.below hb (Nat.le_refl _)
      replace iB := iB.below hb (Nat.le_refl _)
      replace iS := iS.below hb (Nat.le_refl _)
      replace iQ := iQ.below hb (Nat.le_refl _)
      replace iR := iR.below hb (Nat.le_refl _)
      replace iC := iC.below hb (Nat.le_refl _)
      replace iD := iD.below hb (Nat.le_refl _)
      replace iT := iT.below hb (Nat.le_refl _)
      replace iG := iG.below hb (Nat.le_refl _)
      replace iV6 := iV6.below hb (Nat.le_refl _)
      replace iV7 := iV7.below hb (Nat.le_refl _)
      replace hb0 := hb0.trans (hb.mono hb0.size)
      clear hb
      go_wp2_with fail
      have h := n_cmp _ _ _ _ _ _ _ iR iB lR ln5
      rw [show cmpN R n = -1 by unfold cmpN; rw [if_pos hRn]] at h
      refine (h).mono ?_
      rintro e w30 ⟨rfl, hb⟩
      replace iA := iA.below hb (Nat.le_refl _)
      replace iB := iB.below hb (Nat.le_refl _)
      replace iS := iS.below hb (Nat.le_refl _)
      replace iQ := iQ.below hb (Nat.le_refl _)
      replace iR := iR.below hb (Nat.le_refl _)
      replace iC := iC.below hb (Nat.le_refl _)
      replace iD := iD.below hb (Nat.le_refl _)
      replace iT := iT.below hb (Nat.le_refl _)
      replace iG := iG.below hb (Nat.le_refl _)
      replace iV6 := iV6.below hb (Nat.le_refl _)
      replace iV7 := iV7.below hb (Nat.le_refl _)
      replace hb0 := hb0.trans (hb.mono hb0.size)
      clear hb
      clear h
      go_wp2_with fail
      have h := n_zeros _ _ _ _ iB ln5 h0 (ht.below hb0)
      rw [HZN.out] at h
      refine (h).mono ?_
      rintro e w31 ⟨rfl, hb⟩
      replace iA := iA.below hb (Nat.le_refl _)
      replace iB := iB.below hb (Nat.le_refl _)
      replace iS := iS.below hb (Nat.le_refl _)
      replace iQ := iQ.below hb (Nat.le_refl _)
      replace iR := iR.below hb (Nat.le_refl _)
      replace iC := iC.below hb (Nat.le_refl _)
      replace iD := iD.below hb (Nat.le_refl _)
      replace iT := iT.below hb (Nat.le_refl _)
      replace iG := iG.below hb (Nat.le_refl _)
      replace iV6 := iV6.below hb (Nat.le_refl _)
      replace iV7 := iV7.below hb (Nat.le_refl _)
      replace hb0 := hb0.trans (hb.mono hb0.size)
      clear hb
      clear h
      go_wp2
      go_ret
      exact ⟨rfl, hb0⟩
    · skip
      have hG0 : 0 < G := by rw [← HG.out]; exact Nat.gcd_pos_of_pos_right _ h0
      have hGm : m % G = 0 := by rw [← HG.out]; exact Nat.mod_eq_zero_of_dvd (Nat.gcd_dvd_left m n)
      have hGn : n % G = 0 := by rw [← HG.out]; exact Nat.mod_eq_zero_of_dvd (Nat.gcd_dvd_right m n)
      go_wp2_with fail
      have h := n_div _ _ _ _ _ _ _ iA iG lm5 lG hG0
      rw [hGm, limbs_zero] at h
      generalize m / G = X1 at h
      refine (h).mono ?_
      rintro e w21 ⟨⟨aV1, cV1, aV2, cV2, rfl, -, -⟩, hb⟩
      replace iA := iA.below hb (Nat.le_refl _)
      replace iB := iB.below hb (Nat.le_refl _)
      replace iS := iS.below hb (Nat.le_refl _)
      replace iQ := iQ.below hb (Nat.le_refl _)
      replace iR := iR.below hb (Nat.le_refl _)
      replace iC := iC.below hb (Nat.le_refl _)
      replace iD := iD.below hb (Nat.le_refl _)
      replace iT := iT.below hb (Nat.le_refl _)
      replace iG := iG.below hb (Nat.le_refl _)
      replace hb0 := hb0.trans (hb.mono hb0.size)
      clear hb
      clear h
      go_wp2_with fail
      have h := n_div _ _ _ _ _ _ _ iB iG ln5 lG hG0
      rw [hGn, limbs_zero] at h
      generalize n / G = X2 at h
      refine (h).mono ?_
      rintro e w22 ⟨⟨aV3, cV3, aV4, cV4, rfl, -, -⟩, hb⟩
      replace iA := iA.below hb (Nat.le_refl _)
      replace iB := iB.below hb (Nat.le_refl _)
      replace iS := iS.below hb (Nat.le_refl _)
      replace iQ := iQ.below hb (Nat.le_refl _)
      replace iR := iR.below hb (Nat.le_refl _)
      replace iC := iC.below hb (Nat.le_refl _)
      replace iD := iD.below hb (Nat.le_refl _)
      replace iT := iT.below hb (Nat.le_refl _)
      replace iG := iG.below hb (Nat.le_refl _)
      replace hb0 := hb0.trans (hb.mono hb0.size)
      clear hb
      clear h
      go_wp2_with fail
      have h := n_scale _ _ n k _ iB ln5 (by omega) lB
      obtain ⟨Y, hY⟩ : ∃ Y, n * 10 ^ k = Y := ⟨_, rfl⟩
      have hY0 : 0 < Y := by rw [← hY]; exact Nat.mul_pos h0 (Nat.pow_pos (by omega))
      have hYz := zeros_ten h0 k
      rw [hY] at h hYz
      rw [hY] at lB
      obtain ⟨zn, hzn⟩ : ∃ z, zerosT (decDigits n) = z := ⟨_, rfl⟩
      have hznb : zn ≤ 50 := by rw [← hzn]; exact zeros_le n ln
      rw [hzn] at hYz
      have HY := Lib.hid hYz
      have HZN := Lib.hid hzn
      clear hY hYz hzn
      refine (h).mono ?_
      rintro e w23 ⟨⟨aV5, cV5, rfl, iV5⟩, hb⟩
      replace iA := iA.below hb (Nat.le_refl _)
      replace iB := iB.below hb (Nat.le_refl _)
      replace iS := iS.below hb (Nat.le_refl _)
      replace iQ := iQ.below hb (Nat.le_refl _)
      replace iR := iR.below hb (Nat.le_refl _)
      replace iC := iC.below hb (Nat.le_refl _)
      replace iD := iD.below hb (Nat.le_refl _)
      replace iT := iT.below hb (Nat.le_refl _)
      replace iG := iG.below hb (Nat.le_refl _)
      replace hb0 := hb0.trans (hb.mono hb0.size)
      clear hb
      clear h
      go_wp2_with fail
      have h := n_zeros _ _ _ _ iV5 lB hY0 (ht.below hb0)
      rw [HY.out] at h
      refine (h).mono ?_
      rintro e w24 ⟨rfl, hb⟩
      replace iA := iA.below hb (Nat.le_refl _)
      replace iB := iB.below hb (Nat.le_refl _)
      replace iS := iS.below hb (Nat.le_refl _)
      replace iQ := iQ.below hb (Nat.le_refl _)
      replace iR := iR.below hb (Nat.le_refl _)
      replace iC := iC.below hb (Nat.le_refl _)
      replace iD := iD.below hb (Nat.le_refl _)
      replace iT := iT.below hb (Nat.le_refl _)
      replace iG := iG.below hb (Nat.le_refl _)
      replace iV5 := iV5.below hb (Nat.le_refl _)
      replace hb0 := hb0.trans (hb.mono hb0.size)
      clear hb
      clear h
      go_wp2_with fail
      have hle : Q * n ≤ m := by omega
      have lQn : (limbs (Q * n)).length ≤ 50 := Nat.le_trans (limbs_len_mono hle) lm5
      have h := n_mul _ _ _ _ _ _ _ iQ iB lQ ln5 lQn
      obtain ⟨M, hM⟩ : ∃ M, Q * n = M := ⟨_, rfl⟩
      rw [hM] at h lQn hQR hle
      clear hM
      refine (h).mono ?_
      rintro e w25 ⟨⟨aV6, cV6, rfl, iV6⟩, hb⟩
      replace iA := iA.below hb (Nat.le_refl _)
      replace iB := iB.below hb (Nat.le_refl _)
      replace iS := iS.below hb (Nat.le_refl _)
      replace iQ := iQ.below hb (Nat.le_refl _)
      replace iR := iR.below hb (Nat.le_refl _)
      replace iC := iC.below hb (Nat.le_refl _)
      replace iD := iD.below hb (Nat.le_refl _)
      replace iT := iT.below hb (Nat.le_refl _)
      replace iG := iG.below hb (Nat.le_refl _)
      replace hb0 := hb0.trans (hb.mono hb0.size)
      clear hb
      clear h
      go_wp2_with fail
      have h := n_add _ _ _ _ _ _ _ iV6 iR lQn lR (by rw [hQR]; exact lm5)
      rw [hQR] at h
      refine (h).mono ?_
      rintro e w26 ⟨⟨aV7, cV7, rfl, iV7⟩, hb⟩
      replace iA := iA.below hb (Nat.le_refl _)
      replace iB := iB.below hb (Nat.le_refl _)
      replace iS := iS.below hb (Nat.le_refl _)
      replace iQ := iQ.below hb (Nat.le_refl _)
      replace iR := iR.below hb (Nat.le_refl _)
      replace iC := iC.below hb (Nat.le_refl _)
      replace iD := iD.below hb (Nat.le_refl _)
      replace iT := iT.below hb (Nat.le_refl _)
      replace iG := iG.below hb (Nat.le_refl _)
      replace iV6 := iV6.below hb (Nat.le_refl _)
      replace hb0 := hb0.trans (hb.mono hb0.size)
      clear hb
      clear h
      go_wp2_with fail
      refine (same_yes _ _ _ _ _ _ iV7 iA).mono ?_
      rintro e w27 ⟨rfl, hb⟩
      replace iA := iA.below hb (Nat.le_refl _)
      replace iB := iB.below hb (Nat.le_refl _)
      replace iS := iS.below hb (Nat.le_refl _)
      replace iQ := iQ.below hb (Nat.le_refl _)
      replace iR := iR.below hb (Nat.le_refl _)
      replace iC := iC.below hb (Nat.le_refl _)
      replace iD := iD.below hb (Nat.le_refl _)
      replace iT := iT.below hb (Nat.le_refl _)
      replace iG := iG.below hb (Nat.le_refl _)
      replace iV6 := iV6.below hb (Nat.le_refl _)
      replace iV7 := iV7.below hb (Nat.le_refl _)
      replace hb0 := hb0.trans (hb.mono hb0.size)
      clear hb
      go_wp2_with fail
      have h := n_cmp _ _ _ _ _ _ _ iR iB lR ln5
      rw [show cmpN R n = -1 by unfold cmpN; rw [if_pos hRn]] at h
      refine (h).mono ?_
      rintro e w28 ⟨rfl, hb⟩
      replace iA := iA.below hb (Nat.le_refl _)
      replace iB := iB.below hb (Nat.le_refl _)
      replace iS := iS.below hb (Nat.le_refl _)
      replace iQ := iQ.below hb (Nat.le_refl _)
      replace iR := iR.below hb (Nat.le_refl _)
      replace iC := iC.below hb (Nat.le_refl _)
      replace iD := iD.below hb (Nat.le_refl _)
      replace iT := iT.below hb (Nat.le_refl _)
      replace iG := iG.below hb (Nat.le_refl _)
      replace iV6 := iV6.below hb (Nat.le_refl _)
      replace iV7 := iV7.below hb (Nat.le_refl _)
      replace hb0 := hb0.trans (hb.mono hb0.size)
      clear hb
      clear h
      go_wp2_with fail
      have h := n_zeros _ _ _ _ iB ln5 h0 (ht.below hb0)
      rw [HZN.out] at h
      refine (h).mono ?_
      rintro e w29 ⟨rfl, hb⟩
      replace iA := iA.below hb (Nat.le_refl _)
      replace iB := iB.below hb (Nat.le_refl _)
      replace iS := iS.below hb (Nat.le_refl _)
      replace iQ := iQ.below hb (Nat.le_refl _)
      replace iR := iR.below hb (Nat.le_refl _)
      replace iC := iC.below hb (Nat.le_refl _)
      replace iD := iD.below hb (Nat.le_refl _)
      replace iT := iT.below hb (Nat.le_refl _)
      replace iG := iG.below hb (Nat.le_refl _)
      replace iV6 := iV6.below hb (Nat.le_refl _)
      replace iV7 := iV7.below hb (Nat.le_refl _)
      replace hb0 := hb0.trans (hb.mono hb0.size)
      clear hb
      clear h
      go_wp2
      go_ret
      exact ⟨rfl, hb0⟩

theorem own : ownKnob Tryd.prog.godebug = none := by kernel_rfl
theorem laidOut : laidOutB Tryd.prog = true := by kernel_rfl
theorem door_met (os : Os) (args : Array Value) : laidMetH Tryd.prog Rows.fnNatRow.laid ((World.doorLaid Tryd.prog 62 os).forCall (fun _ _ => 0) ⟨#[], args, []⟩).memory :=
  laidMetH_of_parts3 (fuel := 8) (laidMet_of_run' 8 (by kernel_rfl) (by kernel_rfl)) (by kernel_rfl) (by kernel_rfl)
theorem tab_laid {W : World} (h : laidMetH Tryd.prog Rows.fnNatRow.laid W) : Tab W := by
  rw [MakeChecks.laidMetH_plain _ _ _ (by kernel_rfl)] at h
  have h2 : laidMet Tryd.prog (("internal/strconv.uint64pow10", Lib.tabData .u64 Lib.pow10Tab) :: []) W := h.tail.tail
  exact Lib.tabIs_of_head tabG (by kernel_rfl) Tryd.underlying131 Tryd.underlying80 (by kernel_rfl) (by kernel_rfl) h2
set_option maxRecDepth 100000 in
theorem lifted (os : Os) (started : os.Started) (H : Type) (enc : TypeId × Value → H) :
    ReturnsInHanded {} Tryd.checked os 4 .any (fun w args => (Rows.fnNatSpec.pre enc Tryd.prog Tryd.f4 [] false w args ∧ laidMetH Tryd.prog Rows.fnNatRow.laid w) ∧ sizedMet enc Tryd.prog Tryd.f4 (OpenSpec.ofChange Rows.fnNatSpec) false w args)
      (Rows.fnNatSpec.post enc Tryd.prog Tryd.f4 false true false false) := by
  refine returnsInHanded_of_change_and (C := Tryd.checked) (X := fun w _ => laidMetH Tryd.prog Rows.fnNatRow.laid w) (fun _ _ _ hh h => h.of_heap hh) own started (by kernel_rfl) Tryd.func4
    (ChangeSpec.witness_shaped (enc := enc) (C := Tryd.checked) (os := os) (X := fun w _ => laidMetH Tryd.prog Rows.fnNatRow.laid w) false (World.doorLaid Tryd.prog 62 os) #[.slice none 0 0] 8 rfl (World.shaped_of_RefB (by kernel_rfl) (by kernel_rfl)) (by kernel_rfl) (by kernel_rfl) (by kernel_rfl) (door_met os _)) ?_
  intro W base args ds gs before hval0 hW _ _ hL _
  have hval : ∀ (j : Nat) t v, Tryd.f4.params[j]? = some t → args[j]? = some v → Value.okWide Tryd.prog W .any base t v := hval0
  have hW' := hW
  obtain ⟨p, q, hA0, hV, rfl, hfz, hnd⟩ := hW
  have hA : DataW.TrodAll enc Tryd.prog W 0 (fun _ => true) true Tryd.f4.params.toList args.toList ds p := hA0
  rw [Tryd.params4] at hA hval
  obtain ⟨v0, vs0, d0, ds0, p0, q0, hargs, rfl, rfl, h0, r0⟩ := trodAll_cons hA
  obtain ⟨rfl, rfl, rfl⟩ := trodAll_nil r0
  obtain rfl : args = #[v0] := by cases args; simp_all
  obtain ⟨rfl, rfl⟩ := trodVars_none hV
  have k0 := h0
  have lt0 : ∀ x ∈ p0, x.block < W.heap.size := by obtain ⟨m, hm⟩ := k0; exact DataW.trod_lt m _ _ _ hm
  obtain ⟨a0, len0, cap0, rfl⟩ := okWide_slice Tryd.underlying22 (hval 0 22 v0 rfl rfl)
  obtain ⟨xs0, rfl, w0⟩ : ∃ xs : List Int, xs.length = len0 ∧ (RdB W W.heap.size a0 xs ∧ Byt xs ∧ xs.length ≤ cap0 ∧ xs.length ≤ maxLen) := by
    obtain ⟨fuel, hf⟩ := h0
    rcases open_ints Tryd.underlying22 Tryd.underlying5 (by kernel_rfl) hf with ⟨hcs, _⟩ | ⟨x, l, c, zs, hcs, _, hl, hm, hz, _, hcell, hwz⟩
    · simp [Value.cells] at hcs
      obtain ⟨rfl, rfl, rfl⟩ := hcs
      exact ⟨[], rfl, .inl rfl, fun i => by simp, Nat.zero_le _, Nat.zero_le _⟩
    · simp [Value.cells] at hcs
      obtain ⟨rfl, rfl, rfl⟩ := hcs
      have hz' : zs.length = cap0 := by simpa using hz
      have hlt : (zs.take len0).length = len0 := by rw [List.length_take]; omega
      exact ⟨zs.take len0, hlt, rdB_of_cells hcell _, byt_of_wf (fun n hn => hwz n (List.mem_of_mem_take hn)), by omega, by omega⟩
  clear hA0 hval0
  refine (walk a0 cap0 xs0 W (tab_laid hL) w0).mono fun e W' ⟨he, bel⟩ => ?_
  subst he
  exact ⟨_, rfl, _, _, _, [], _, [], hW', trodAll_mk1 (shut_bool Tryd.underlying4 _), (trodAll_cons_mk (Below.trod laidOut (by kernel_rfl) (of_decide_eq_true (by kernel_rfl)) k0 bel lt0) trodAll_mk0), rfl, bel.frame _, fun h => by cases h⟩

theorem over : Rows.fnNatRow.holds Tryd.pinned (OpenSpec.ofChange Rows.fnNatSpec) :=
  OpenClaim.holds_of_wide 4 Tryd.f4 rfl rfl rfl rfl rfl rfl rfl ⟨rfl, rfl, rfl, rfl, rfl⟩ rfl rfl rfl rfl rfl (by kernel_rfl) Tryd.func4 (by kernel_rfl)
    (of_decide_eq_true (by kernel_rfl)) (by unfold Func.isWrapper; first | (rw [if_pos (by decide +kernel)]; kernel_rfl) | (rw [if_neg (by decide +kernel)]; exact ⟨rfl, rfl⟩))
    (fun os started H enc _ => lifted os started H enc)

theorem proved : Rows.FnNatCardSaid :=
  Claim7.holds_tied_plain_at .later [] [.data, .data, .data] true (true, "248435840f7bfd56d840d0f8b83d66d5d3fa209622cbd1dde3e17931932a586f") true
    over (fun _ h => by cases h) (by kernel_rfl) (fun _ h => by cases h) fnNat_row_tie rfl ⟨rfl, rfl⟩ (by kernel_rfl) rfl
    (fun f fn hf hfn => by
      obtain rfl : f = 4 := Option.some.inj ((show Tryd.prog.funcNamed Rows.fnNatRow.func = some 4 by kernel_rfl).symm.trans hf) |>.symm
      obtain rfl : fn = Tryd.f4 := (Option.some.inj (Tryd.func4.symm.trans hfn)).symm
      exact ⟨by kernel_rfl, fun j t ht => by
        rw [Tryd.params4] at ht
        have hm : t ∈ [22] := by simpa using Array.mem_of_getElem? ht
        have hall : ([22].all fun u => !Tryd.prog.wantsStandIn u) = true := by kernel_rfl
        exact (show Tryd.prog.wantsStandIn t = false by simpa using List.all_eq_true.1 hall t hm)⟩)
    (by kernel_rfl)
#print axioms proved
end Go.Proofs.YtogkonenejfgmaaDoor.fnNat
