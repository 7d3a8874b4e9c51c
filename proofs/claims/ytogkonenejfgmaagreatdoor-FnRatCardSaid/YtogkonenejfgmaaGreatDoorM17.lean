/- The walks of subTimes, addBack and divStep (program): one digit of the long division. For every row of limbs that a digit can meet. -/
import Derived.BigQuiet
import Derived.Deep.DeepCutAuto
import Derived.Test.YtogkonenejfgmaaGreatDoorM16
namespace Go.Proofs.YtogkonenejfgmaaGreatDoor
open Go.RowKit
set_option maxHeartbeats 1600000 in
theorem subTimes_any (g j N cap cu B : Nat) (U vs : List Int) (b : Option Addr) (cb : Nat) (q : Int) (w : World) (hU : Own w B (some ⟨g, 0, none⟩) cap U) (hj : j + N + 1 ≤ U.length)
    (hus : okL ((U.drop j).take (N + 1))) (hv : Rd w b vs) (hvl : vs.length = N) (hvo : okL vs) (hne : ∀ p, b = some p → p.block ≠ g) (hq : 0 ≤ q ∧ q ≤ 999999999) (hN : N ≤ 1099511627776) (_hjl : j ≤ 1099511627776) (hcu : N + 1 ≤ cu) :
    Calls Tryz.prog 72 #[.slice (some ⟨g, j, none⟩) (N + 1) cu, .slice b N cb, .int .i64 q] w fun e w' =>
      ∃ W : List Int, W.length = N + 1 ∧ okL (W.take N) ∧ val W = val ((U.drop j).take (N + 1)) - q * val vs ∧ e = .returned (.bool (decide (W.getD N 0 < 0))) ∧ Own w' B (some ⟨g, 0, none⟩) cap (U.take j ++ W ++ U.drop (j + N + 1)) ∧ Wr w w' g (g + 1) := by
  obtain ⟨us, hu⟩ : ∃ us, us = (U.drop j).take (N + 1) := ⟨_, rfl⟩
  have hul : us.length = N + 1 := by rw [hu, List.length_take, List.length_drop]; omega
  have hA : (U.take j).length = j := by rw [List.length_take]; omega
  have hms := mid_self U j (N + 1)
  rw [← Nat.add_assoc, ← hu] at hms
  rw [← hu] at hus ⊢
  have hU2 : Own w B (some ⟨g, 0, none⟩) cap (U.take j ++ us ++ U.drop (j + N + 1)) := by rw [hms]; exact hU
  have HU := Lib.hid hU2
  have HMS := Lib.hid hms
  have HUD := Lib.hid hu
  have HUL := Lib.hid hul
  have HA := Lib.hid hA
  clear hms hu hU2 hU hul hA
  go_enter Tryz.func72, Tryz.ntmps72
  go_wp2
  go_loopw [7, 8, 9, 10, 13] (fun bv _ _ _ iv wr => ∃ (i : Nat) (bor : Int) (out : List Int), bv = .int .i64 bor ∧ iv = .int .i64 i ∧ i ≤ N ∧ SubT us vs q i bor out ∧ Own wr B (some ⟨g, 0, none⟩) cap (U.take j ++ out ++ U.drop (j + N + 1)) ∧ Wr w wr g (g + 1))
    (fun _ _ _ _ iv _ => N - (intOf iv).toNat)
  case atStart => exact ⟨0, 0, us, rfl, rfl, Nat.zero_le _, SubT.start _ _ hq.1, HU.out, Wr.refl _ _ _⟩
  case round =>
    obtain ⟨i, bor, out, rfl, rfl, hi, hsub, hown, hw⟩ := hrel
    have hol := Lib.hid (hsub.1.trans HUL.out)
    by_cases hI : i < N
    · obtain ⟨bx, ox, x, rfl, hbx, h1, hx1⟩ := (hv.wr hw hne).at i (by omega)
      have gx := okL_get hvo i
      rw [hx1.out] at gx
      obtain ⟨u, ho, ho1⟩ := hown.cellAt (j + i) (by simp only [List.length_append, HA.out, hol.out]; omega)
      have hu1 : us.getD i 0 = u := by rw [← hsub.2.2.2.2 i (Nat.le_refl _), ← ho1.out]; exact (mid_get HA.out (by rw [hol.out]; omega)).symm
      have gu := okL_get hus i
      rw [hu1] at gu
      obtain ⟨hb0, hb1⟩ := hsub.2.2.1
      obtain ⟨n, hn⟩ : ∃ n, n = u - x * q - bor := ⟨_, rfl⟩
      obtain ⟨c1, c2, c3, c4⟩ := subT_bound hq gu gx ⟨hb0, hb1⟩ hn
      obtain ⟨hq0, hq1⟩ := hq
      obtain ⟨gu0, gu1⟩ := gu
      obtain ⟨gx0, gx1⟩ := gx
      have hfz := hown.frozenAt (j + i)
      by_cases hneg : n < 0
      · obtain ⟨d1, d2, d3⟩ := subT_neg hneg c1
        have HN := Lib.hid (hsub.next (by rw [HUL.out]; omega) hu1 hx1.out hn d1 d2 d3)
        obtain ⟨n', hn'⟩ : ∃ n', n' = n + (-n + 1000000000 - 1) / 1000000000 * 1000000000 := ⟨_, rfl⟩
        rw [← hn'] at HN d2
        have hst := hown.stored (j + i) n'
        rw [mid_set HA.out (by rw [hol.out]; omega)] at hst
        have HS := Lib.hid hst
        have hw3 : Wr w (wr.setCell ⟨g, j + i, none⟩ (.int .i64 n')) g (g + 1) := hw.set (by omega) _
        clear hst hown hsub
        go_wp2
        go_roundw
        case rel => subst hn'; subst hn; exact ⟨i + 1, _, _, rfl, by go_num, by omega, HN.out, HS.out, hw3⟩
        case measure => simp [intOf]; omega
      · have HN := Lib.hid (hsub.next (n' := n) (b' := 0) (by rw [HUL.out]; omega) hu1 hx1.out hn (by omega) ⟨by omega, c2⟩ ⟨by omega, hq0⟩)
        have hst := hown.stored (j + i) n
        rw [mid_set HA.out (by rw [hol.out]; omega)] at hst
        have HS := Lib.hid hst
        have hw3 : Wr w (wr.setCell ⟨g, j + i, none⟩ (.int .i64 n)) g (g + 1) := hw.set (by omega) _
        clear hst hown hsub
        go_wp2
        go_roundw
        case rel => subst hn; exact ⟨i + 1, _, _, rfl, by go_num, by omega, HN.out, HS.out, hw3⟩
        case measure => simp [intOf]; omega
    · have e : i = N := by omega
      subst e
      obtain ⟨u, ho, ho1⟩ := hown.cellAt (j + i) (by simp only [List.length_append, HA.out, hol.out]; omega)
      have hu1 : us.getD i 0 = u := by rw [← hsub.2.2.2.2 i (Nat.le_refl _), ← ho1.out]; exact (mid_get HA.out (by rw [hol.out]; omega)).symm
      have gu := okL_get hus i
      rw [hu1] at gu
      obtain ⟨gu0, gu1⟩ := gu
      obtain ⟨hb0, hb1⟩ := hsub.2.2.1
      obtain ⟨hq0, hq1⟩ := hq
      have HD := Lib.hid (hsub.done hvl HUL.out hu1)
      have hfz := hown.frozenAt (j + i)
      have hst := hown.stored (j + i) (u - bor)
      rw [mid_set HA.out (by rw [hol.out]; omega)] at hst
      have HS := Lib.hid hst
      have hw3 : Wr w (wr.setCell ⟨g, j + i, none⟩ (.int .i64 (u - bor))) g (g + 1) := hw.set (by omega) _
      have hget : (out.set i (u - bor)).getD i 0 = u - bor := by rw [List.getD_eq_getElem?_getD, List.getElem?_set_self (by rw [hol.out]; omega)]; rfl
      have HG := Lib.hid hget
      clear hst hown hsub hget
      go_wp2
      go_ret
      refine ⟨_, HD.out.1, HD.out.2.1, HD.out.2.2, ?_, HS.out, hw3⟩
      rw [HG.out]; rfl
set_option maxHeartbeats 1600000 in
theorem addBack_any (g j N cap cu B : Nat) (U vs : List Int) (b : Option Addr) (cb : Nat) (w : World) (hU : Own w B (some ⟨g, 0, none⟩) cap U) (hj : j + N + 1 ≤ U.length)
    (hus : okL (((U.drop j).take (N + 1)).take N)) (htop : -1000000000 ≤ ((U.drop j).take (N + 1)).getD N 0 ∧ ((U.drop j).take (N + 1)).getD N 0 ≤ 1000000000) (hv : Rd w b vs) (hvl : vs.length = N) (hvo : okL vs) (hne : ∀ p, b = some p → p.block ≠ g)
    (hN : N ≤ 1099511627776) (_hjl : j ≤ 1099511627776) (hcu : N + 1 ≤ cu) :
    Calls Tryz.prog 73 #[.slice (some ⟨g, j, none⟩) (N + 1) cu, .slice b N cb] w fun e w' =>
      ∃ W : List Int, W.length = N + 1 ∧ okL (W.take N) ∧ val W = val ((U.drop j).take (N + 1)) + val vs ∧ e = .returned (.tuple #[]) ∧ Own w' B (some ⟨g, 0, none⟩) cap (U.take j ++ W ++ U.drop (j + N + 1)) ∧ Wr w w' g (g + 1) := by
  obtain ⟨us, hu⟩ : ∃ us, us = (U.drop j).take (N + 1) := ⟨_, rfl⟩
  have hul : us.length = N + 1 := by rw [hu, List.length_take, List.length_drop]; omega
  have hA : (U.take j).length = j := by rw [List.length_take]; omega
  have hms := mid_self U j (N + 1)
  rw [← Nat.add_assoc, ← hu] at hms
  rw [← hu] at hus htop ⊢
  have hU2 : Own w B (some ⟨g, 0, none⟩) cap (U.take j ++ us ++ U.drop (j + N + 1)) := by rw [hms]; exact hU
  have HU := Lib.hid hU2
  have HUL := Lib.hid hul
  have HA := Lib.hid hA
  clear hms hu hU2 hU hul hA
  go_enter Tryz.func73, Tryz.ntmps73
  go_wp2
  go_loopw [4, 5, 6, 9] (fun cv _ _ iv wr => ∃ (i : Nat) (c : Int) (out : List Int), cv = .int .i64 c ∧ iv = .int .i64 i ∧ i ≤ N ∧ AddT us vs i c out ∧ Own wr B (some ⟨g, 0, none⟩) cap (U.take j ++ out ++ U.drop (j + N + 1)) ∧ Wr w wr g (g + 1))
    (fun _ _ _ iv _ => N - (intOf iv).toNat)
  case atStart => exact ⟨0, 0, us, rfl, rfl, Nat.zero_le _, AddT.start _ _, HU.out, Wr.refl _ _ _⟩
  case round =>
    obtain ⟨i, c, out, rfl, rfl, hi, hsub, hown, hw⟩ := hrel
    have hol := Lib.hid (hsub.1.trans HUL.out)
    by_cases hI : i < N
    · obtain ⟨bx, ox, x, rfl, hbx, h1, hx1⟩ := (hv.wr hw hne).at i (by omega)
      have gx := okL_get hvo i
      rw [hx1.out] at gx
      obtain ⟨u, ho, ho1⟩ := hown.cellAt (j + i) (by simp only [List.length_append, HA.out, hol.out]; omega)
      have hu1 : us.getD i 0 = u := by rw [← hsub.2.2.2.2 i (Nat.le_refl _), ← ho1.out]; exact (mid_get HA.out (by rw [hol.out]; omega)).symm
      have gu := okL_get hus i
      rw [getD_take_lt hI, hu1] at gu
      obtain ⟨hc0, hc1⟩ := hsub.2.2.1
      obtain ⟨s, hs⟩ : ∃ s, s = c + (u + x) := ⟨_, rfl⟩
      obtain ⟨hn1, hs0, hs1⟩ := hsub.next (by rw [HUL.out]; omega) hu1 hx1.out gu gx hs
      have HN := Lib.hid hn1
      obtain ⟨gu0, gu1⟩ := gu
      obtain ⟨gx0, gx1⟩ := gx
      have hfz := hown.frozenAt (j + i)
      have hst := hown.stored (j + i) (s % 1000000000)
      rw [mid_set HA.out (by rw [hol.out]; omega)] at hst
      have HS := Lib.hid hst
      have hw3 : Wr w (wr.setCell ⟨g, j + i, none⟩ (.int .i64 (s % 1000000000))) g (g + 1) := hw.set (by omega) _
      clear hst hown hsub hn1
      go_wp2
      go_roundw
      case rel => subst hs; exact ⟨i + 1, _, _, rfl, by go_num, by omega, HN.out, HS.out, hw3⟩
      case measure => simp [intOf]; omega
    · have e : i = N := by omega
      subst e
      obtain ⟨u, ho, ho1⟩ := hown.cellAt (j + i) (by simp only [List.length_append, HA.out, hol.out]; omega)
      have hu1 : us.getD i 0 = u := by rw [← hsub.2.2.2.2 i (Nat.le_refl _), ← ho1.out]; exact (mid_get HA.out (by rw [hol.out]; omega)).symm
      rw [hu1] at htop
      obtain ⟨gu0, gu1⟩ := htop
      obtain ⟨hc0, hc1⟩ := hsub.2.2.1
      have HD := Lib.hid (hsub.done hvl HUL.out hu1)
      have hfz := hown.frozenAt (j + i)
      have hst := hown.stored (j + i) (u + c)
      rw [mid_set HA.out (by rw [hol.out]; omega)] at hst
      have HS := Lib.hid hst
      have hw3 : Wr w (wr.setCell ⟨g, j + i, none⟩ (.int .i64 (u + c))) g (g + 1) := hw.set (by omega) _
      clear hst hown hsub
      go_wp2
      refine bodyPost_end (results_none rfl _ _ _) rfl ?_
      exact ⟨_, HD.out.1, HD.out.2.1, HD.out.2.2, rfl, HS.out, hw3⟩
set_option maxHeartbeats 3200000 in
theorem divStep_any (g j L cap cu B : Nat) (U vs : List Int) (b : Option Addr) (cb : Nat) (w : World) (hU : Own w B (some ⟨g, 0, none⟩) cap U) (hj : j + (L + 2) + 1 ≤ U.length)
    (hrow : DigRow ((U.drop j).take (L + 2 + 1)) vs (L + 2)) (hv : Rd w b vs) (hne : ∀ p, b = some p → p.block ≠ g) (hN : L + 2 ≤ 1099511627776) (hjl : j ≤ 1099511627776) (hcu : L + 2 + 1 ≤ cu) :
    Calls Tryz.prog 62 #[.slice (some ⟨g, j, none⟩) (L + 2 + 1) cu, .slice b vs.length cb] w fun e w' =>
      ∃ W : List Int, W.length = L + 2 + 1 ∧ okL W ∧ val W = val ((U.drop j).take (L + 2 + 1)) % val vs ∧ e = .returned (.int .i64 (val ((U.drop j).take (L + 2 + 1)) / val vs)) ∧ Own w' B (some ⟨g, 0, none⟩) cap (U.take j ++ W ++ U.drop (j + (L + 2) + 1)) ∧ Wr w w' g (g + 1) := by
  obtain ⟨us, hu⟩ : ∃ us, us = (U.drop j).take (L + 2 + 1) := ⟨_, rfl⟩
  rw [← hu] at hrow ⊢
  have hgu : ∀ i, i < L + 2 + 1 → ∃ x, w.cell? ⟨g, j + i, none⟩ = some (.int .i64 x) ∧ us.getD i 0 = x := by
    intro i hi
    obtain ⟨x, h1, h2⟩ := hU.cellAt (j + i) (by omega)
    refine ⟨x, h1, ?_⟩
    rw [← h2.out, hu, getD_take_lt hi, List.getD_eq_getElem?_getD, List.getElem?_drop, ← List.getD_eq_getElem?_getD]
  obtain ⟨u0, hu0, gu0⟩ := hgu (L + 2) (by omega)
  obtain ⟨u1, hu1, gu1⟩ := hgu (L + 1) (by omega)
  obtain ⟨u2, hu2, gu2⟩ := hgu L (by omega)
  obtain ⟨bx, ox, v1, rfl, hbx, hv1, gv1⟩ := hv.at (L + 1) (by rw [hrow.lv]; omega)
  obtain ⟨_, _, v2, heq, _, hv2, gv2⟩ := hv.at L (by rw [hrow.lv]; omega)
  simp only [Option.some.injEq, Addr.mk.injEq] at heq
  obtain ⟨rfl, rfl, -⟩ := heq
  have hlv := hrow.lv
  have b0 := okL_get hrow.ou (L + 2)
  have b1 := okL_get hrow.ou (L + 1)
  have b2 := okL_get hrow.ou L
  have c1 := okL_get hrow.ov (L + 1)
  have c2 := okL_get hrow.ov L
  have ct := hrow.top
  have hst := hrow.start rfl
  rw [show L + 2 - 1 = L + 1 by omega] at ct hst
  rw [gu0] at b0 hst
  rw [gu1] at b1 hst
  rw [gu2] at b2
  rw [gv1.out] at c1 ct hst
  rw [gv2.out] at c2
  have HR := Lib.hid hrow
  have HST := Lib.hid hst
  have HUS := Lib.hid hu
  clear hst hrow hu hgu
  obtain ⟨t, ht⟩ : ∃ t, t = (u0 * 1000000000 + u1) / v1 := ⟨_, rfl⟩
  rw [← ht] at HST
  rw [hlv]
  go_enter Tryz.func62, Tryz.ntmps62
  go_wp2_with fail
  go_quiet (fail)
  go_upto_region 3 with fail
  go_cut [7] (fun q wx => q = .int .i64 (min t 999999999) ∧ ∃ n, wx = w.drewN n)
  case first =>
    go_wp2_with fail
    all_goals (go_meet; exact ⟨congrArg (Value.int .i64) (by omega), _, rfl⟩)
  case rest =>
  obtain ⟨rfl, n0, rfl⟩ := hcut
  go_wp2
  go_loopw [7] (fun qv wr => ∃ q, qv = .int .i64 q ∧ DigH us vs (L + 2) q ∧ ∃ n, wr = w.drewN n) (fun qv _ => (intOf qv).toNat)
  case atStart => exact ⟨_, rfl, HST.out, _, rfl⟩
  case round =>
    obtain ⟨q, rfl, hq, n1, rfl⟩ := hrel
    have hnums := HR.out.nums hq
    rw [show L + 2 - 1 = L + 1 by omega, show L + 2 - 2 = L by omega, gu0, gu1, gv1.out, gv2.out] at hnums
    obtain ⟨d1, d2, d3, d4, d5⟩ := hnums
    have HQ := Lib.hid hq
    obtain ⟨e1, e2, -, -⟩ := hq
    go_upto_region 4 with fail
    go_cut [68] (fun c wx => c = .bool (decide (0 < q ∧ u0 * 1000000000 + u1 - q * v1 < 1000000000 ∧ (u0 * 1000000000 + u1 - q * v1) * 1000000000 + u2 < q * v2)) ∧ ∃ n, wx = w.drewN n)
    case first =>
      by_cases h1 : 0 < q
      · by_cases h2 : u0 * 1000000000 + u1 - q * v1 < 1000000000
        · by_cases h3 : (u0 * 1000000000 + u1 - q * v1) * 1000000000 + u2 < q * v2
          · go_quiet (fail)
            go_wp2_with fail
            go_meet
            exact ⟨congrArg Value.bool (decide_eq_true (by omega)).symm, _, by first | rfl | exact World.drewN_drewN _ _ _⟩
          · go_quiet (fail)
            go_wp2_with fail
            go_meet
            exact ⟨congrArg Value.bool (decide_eq_false (by omega)).symm, _, by first | rfl | exact World.drewN_drewN _ _ _⟩
        · go_quiet (fail)
          go_wp2_with fail
          go_meet
          exact ⟨congrArg Value.bool (decide_eq_false (by omega)).symm, _, by first | rfl | exact World.drewN_drewN _ _ _⟩
      · go_quiet (fail)
        go_wp2_with fail
        go_meet
        exact ⟨congrArg Value.bool (decide_eq_false (by omega)).symm, _, by first | rfl | exact World.drewN_drewN _ _ _⟩
    case rest =>
    obtain ⟨rfl, n2, rfl⟩ := hcut
    by_cases hG : 0 < q ∧ u0 * 1000000000 + u1 - q * v1 < 1000000000 ∧ (u0 * 1000000000 + u1 - q * v1) * 1000000000 + u2 < q * v2
    · rw [decide_eq_true hG]
      have HD := Lib.hid (HR.out.down HQ.out (by rw [show L + 2 - 1 = L + 1 by omega, show L + 2 - 2 = L by omega, gu0, gu1, gu2, gv1.out, gv2.out]; exact hG.2.2))
      have h0 := hG.1
      clear hG
      go_wp2
      go_roundw
      case rel => exact ⟨_, rfl, HD.out, _, rfl⟩
      case measure => simp [intOf]; omega
    · rw [decide_eq_false hG]
      have hcase := HR.out.stop HQ.out (by
        rw [show L + 2 - 1 = L + 1 by omega, show L + 2 - 2 = L by omega, gu0, gu1, gu2, gv1.out, gv2.out]
        omega)
      clear hG
      have hus : okL ((U.drop j).take (L + 2 + 1)) := by rw [← HUS.out]; exact HR.out.ou
      go_wp2_with fail
      refine (subTimes_any g j (L + 2) cap cu B U vs _ cb q _ (hU.below (bel_drewN (Below.refl w.heap.size w) _) (Nat.le_refl _)) hj hus (hv.below (bel_drewN (Below.refl w.heap.size w) _) (Nat.le_refl _)) hlv HR.out.ov hne ⟨e1, e2⟩ (by omega) hjl hcu).mono ?_
      rintro e w1 ⟨W, hW1, hW2, hW3, rfl, hW4, hw1⟩
      rw [← HUS.out] at hW3
      have hw0 : Wr w w1 g (g + 1) := (Wr.of (bel_drewN (Below.refl w.heap.size w) _) _ _).trans hw1
      have hAl : (U.take j).length = j := by rw [List.length_take]; omega
      rcases hcase with rfl | rfl
      · obtain ⟨r1, r2, r3, r4⟩ := dig_rest HR.out hW1 hW2 hW3
        rw [r1]
        go_wp2
        go_ret
        exact ⟨W, hW1, r2, r3, rfl, hW4, hw0⟩
      · have hneg := dig_over HR.out hW1 hW2 hW3
        have hrange := dig_over2 HR.out hW1 hW2 hW3
        rw [decide_eq_true hneg]
        have hmid : ((U.take j ++ W ++ U.drop (j + (L + 2) + 1)).drop j).take (L + 2 + 1) = W := mid_drop hAl hW1
        have hlen : (U.take j ++ W ++ U.drop (j + (L + 2) + 1)).length = U.length := by simp only [List.length_append, hAl, hW1, List.length_drop]; omega
        have hm1 : (U.take j ++ W ++ U.drop (j + (L + 2) + 1)).take j = U.take j := mid_take hAl
        have hm2 : (U.take j ++ W ++ U.drop (j + (L + 2) + 1)).drop (j + (L + 2) + 1) = U.drop (j + (L + 2) + 1) := (show (U.take j ++ W ++ U.drop (j + (L + 2) + 1)).drop (j + (L + 2 + 1)) = U.drop (j + (L + 2) + 1) from mid_rest hAl hW1)
        obtain ⟨Q, hQ⟩ : ∃ Q, Q = val us / val vs := ⟨_, rfl⟩
        rw [← hQ] at hW3 e1 e2 HQ
        rw [← hQ]
        have hQ0 : 0 ≤ Q := by rw [hQ]; exact HR.out.q_lt.1
        go_wp2_with fail
        refine (addBack_any g j (L + 2) cap cu B _ vs _ cb _ hW4 (by rw [hlen]; exact hj) (by rw [hmid]; exact hW2) (by rw [hmid]; exact hrange) (hv.wr hw0 hne) hlv HR.out.ov hne (by omega) hjl hcu).mono ?_
        rintro e w2 ⟨W2, hX1, hX2, hX3, rfl, hX4, hw2⟩
        rw [hmid] at hX3
        rw [hm1, hm2] at hX4
        have hval : val W2 = val us - val us / val vs * val vs := by rw [hX3, hW3, ← hQ, Int.add_mul]; omega
        obtain ⟨r1, r2, r3, r4⟩ := dig_rest HR.out hX1 hX2 hval
        go_wp2
        go_ret
        exact ⟨W2, hX1, r2, r3, by go_num, hX4, hw0.trans hw2⟩
end Go.Proofs.YtogkonenejfgmaaGreatDoor
