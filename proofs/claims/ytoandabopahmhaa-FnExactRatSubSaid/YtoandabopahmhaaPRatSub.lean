/- The law FnExactRatSub answers true at every input. No condition. (The walk is printed by gen_law.py off the law's text.) -/
import Derived.Test.YtoandabopahmhaaRows
import Derived.Test.YtoandabopahmhaaWRatSub
import Derived.Test.YtoandabopahmhaaWRatSubS
import Derived.ProofKit
import Derived.OpenShut
import Derived.ShutString
import Derived.ChangeOld
import Derived.Lib.SmallJoins
import Derived.Deep.RegionWith
import Derived.Deep.RegionHeld3
import Derived.Deep.DeepCutAuto
import Derived.Below
namespace Go.Proofs.Ytoandabopahmhaa.fnExactRatSub
open Go.ChangeShapes Go.WideShapes Go.ChangeAt Go.RowKit
open Go.ChangeMaps (open_string shut_string)
set_option linter.unusedVariables false

set_option maxRecDepth 100000 in
set_option maxHeartbeats 40000000 in
theorem walk (n0 : Bool) (a0 : Option Addr) (c0 : Nat) (xs0 : List Int) (b0 : Option Addr) (d0 : Nat) (ys0 : List Int) (n1 : Bool) (a1 : Option Addr) (c1 : Nat) (xs1 : List Int) (b1 : Option Addr) (d1 : Nat) (ys1 : List Int) (w : World) (hp0 : (Rd w a0 xs0 ∧ xs0.length ≤ maxLen) ∧ (Rd w b0 ys0 ∧ ys0.length ≤ maxLen)) (hp1 : (Rd w a1 xs1 ∧ xs1.length ≤ maxLen) ∧ (Rd w b1 ys1 ∧ ys1.length ≤ maxLen)) :
    Calls Try.prog 13 #[.agg #[.bool n0, .slice a0 xs0.length c0, .slice b0 ys0.length d0], .agg #[.bool n1, .slice a1 xs1.length c1, .slice b1 ys1.length d1]] w fun e w' => e = .returned (.bool true) ∧ Below w.heap.size w w' := by
  have hb0 := Below.refl w.heap.size w
  have hm0 := hp0.1.2
  unfold maxLen at hm0
  have hk0 := hp0.2.2
  unfold maxLen at hk0
  have hm1 := hp1.1.2
  unfold maxLen at hm1
  have hk1 := hp1.2.2
  unfold maxLen at hk1
  by_cases hs0 : (xs0.length : Int) + ys0.length ≤ 1048576
  rotate_left
  · replace hb0 := hb0.trans ((bel_alloc w (.cells #[.bool n0, .slice a0 xs0.length c0, .slice b0 ys0.length d0] 26)).mono (by simp))
    replace hb0 := hb0.trans ((bel_alloc _ (.cells #[.bool n1, .slice a1 xs1.length c1, .slice b1 ys1.length d1] 26)).mono (by simp; try omega))
    have zbox : w.heap.size + 2 ≤ ((World.alloc (World.alloc w (.cells #[.bool n0, .slice a0 xs0.length c0, .slice b0 ys0.length d0] 26)) (.cells #[.bool n1, .slice a1 xs1.length c1, .slice b1 ys1.length d1] 26))).heap.size := by simp
    go_enter Try.func13, Try.ntmps13
    go_wp2_with fail
    refine (szRat_no _ _ _ _ _ _ _ _ _ (by omega) (by omega) (by omega) hp0.1.2 hp0.2.2).mono ?_
    rintro e wz ⟨rfl, hbz⟩
    replace hb0 := hb0.trans (hbz.mono hb0.size)
    go_wp2
    go_ret
    exact ⟨rfl, hb0⟩
  by_cases hs1 : (xs1.length : Int) + ys1.length ≤ 1048576 - (xs0.length : Int) - (ys0.length : Int)
  rotate_left
  · replace hb0 := hb0.trans ((bel_alloc w (.cells #[.bool n0, .slice a0 xs0.length c0, .slice b0 ys0.length d0] 26)).mono (by simp))
    replace hb0 := hb0.trans ((bel_alloc _ (.cells #[.bool n1, .slice a1 xs1.length c1, .slice b1 ys1.length d1] 26)).mono (by simp; try omega))
    have zbox : w.heap.size + 2 ≤ ((World.alloc (World.alloc w (.cells #[.bool n0, .slice a0 xs0.length c0, .slice b0 ys0.length d0] 26)) (.cells #[.bool n1, .slice a1 xs1.length c1, .slice b1 ys1.length d1] 26))).heap.size := by simp
    go_enter Try.func13, Try.ntmps13
    go_wp2_with fail
    refine (szRat_yes _ _ _ _ _ _ _ _ _ (by omega) (by omega)).mono ?_
    rintro e wz0 ⟨rfl, hb⟩
    have zwz0 : (World.alloc (World.alloc w (.cells #[.bool n0, .slice a0 xs0.length c0, .slice b0 ys0.length d0] 26)) (.cells #[.bool n1, .slice a1 xs1.length c1, .slice b1 ys1.length d1] 26)).heap.size ≤ wz0.heap.size := hb.size
    have hx0_0 : wz0.cell? ⟨w.heap.size, 0, none⟩ = some (.bool n0) := cell_keep hb (cell_keep (bel_alloc _ (.cells #[.bool n1, .slice a1 xs1.length c1, .slice b1 ys1.length d1] 26)) (cell_box w _ _ _ 0 _ (by simp) rfl) (Nat.le_refl _)) (Nat.le_refl _)
    have hx0_1 : wz0.cell? ⟨w.heap.size, 1, none⟩ = some (.slice a0 xs0.length c0) := cell_keep hb (cell_keep (bel_alloc _ (.cells #[.bool n1, .slice a1 xs1.length c1, .slice b1 ys1.length d1] 26)) (cell_box w _ _ _ 1 _ (by simp) rfl) (Nat.le_refl _)) (Nat.le_refl _)
    have hx0_2 : wz0.cell? ⟨w.heap.size, 2, none⟩ = some (.slice b0 ys0.length d0) := cell_keep hb (cell_keep (bel_alloc _ (.cells #[.bool n1, .slice a1 xs1.length c1, .slice b1 ys1.length d1] 26)) (cell_box w _ _ _ 2 _ (by simp) rfl) (Nat.le_refl _)) (Nat.le_refl _)
    have hx1_0 : wz0.cell? ⟨w.heap.size + 1, 0, none⟩ = some (.bool n1) := cell_keep hb (cell_box (World.alloc w (.cells #[.bool n0, .slice a0 xs0.length c0, .slice b0 ys0.length d0] 26)) _ _ _ 0 _ (by simp) rfl) (Nat.le_refl _)
    have hx1_1 : wz0.cell? ⟨w.heap.size + 1, 1, none⟩ = some (.slice a1 xs1.length c1) := cell_keep hb (cell_box (World.alloc w (.cells #[.bool n0, .slice a0 xs0.length c0, .slice b0 ys0.length d0] 26)) _ _ _ 1 _ (by simp) rfl) (Nat.le_refl _)
    have hx1_2 : wz0.cell? ⟨w.heap.size + 1, 2, none⟩ = some (.slice b1 ys1.length d1) := cell_keep hb (cell_box (World.alloc w (.cells #[.bool n0, .slice a0 xs0.length c0, .slice b0 ys0.length d0] 26)) _ _ _ 2 _ (by simp) rfl) (Nat.le_refl _)
    replace hb0 := hb0.trans (hb.mono hb0.size)
    clear hb
    go_wp2_with fail
    refine (szRat_no _ _ _ _ _ _ _ _ _ (by omega) (by omega) (by omega) hp1.1.2 hp1.2.2).mono ?_
    rintro e wz ⟨rfl, hbz⟩
    replace hb0 := hb0.trans (hbz.mono hb0.size)
    go_wp2
    go_ret
    exact ⟨rfl, hb0⟩
  replace hb0 := hb0.trans ((bel_alloc w (.cells #[.bool n0, .slice a0 xs0.length c0, .slice b0 ys0.length d0] 26)).mono (by simp))
  replace hb0 := hb0.trans ((bel_alloc _ (.cells #[.bool n1, .slice a1 xs1.length c1, .slice b1 ys1.length d1] 26)).mono (by simp; try omega))
  have zbox : w.heap.size + 2 ≤ ((World.alloc (World.alloc w (.cells #[.bool n0, .slice a0 xs0.length c0, .slice b0 ys0.length d0] 26)) (.cells #[.bool n1, .slice a1 xs1.length c1, .slice b1 ys1.length d1] 26))).heap.size := by simp
  go_enter Try.func13, Try.ntmps13
  go_wp2_with fail
  refine (szRat_yes _ _ _ _ _ _ _ _ _ (by omega) (by omega)).mono ?_
  rintro e wz0 ⟨rfl, hb⟩
  have zwz0 : (World.alloc (World.alloc w (.cells #[.bool n0, .slice a0 xs0.length c0, .slice b0 ys0.length d0] 26)) (.cells #[.bool n1, .slice a1 xs1.length c1, .slice b1 ys1.length d1] 26)).heap.size ≤ wz0.heap.size := hb.size
  have hx0_0 : wz0.cell? ⟨w.heap.size, 0, none⟩ = some (.bool n0) := cell_keep hb (cell_keep (bel_alloc _ (.cells #[.bool n1, .slice a1 xs1.length c1, .slice b1 ys1.length d1] 26)) (cell_box w _ _ _ 0 _ (by simp) rfl) (Nat.le_refl _)) (Nat.le_refl _)
  have hx0_1 : wz0.cell? ⟨w.heap.size, 1, none⟩ = some (.slice a0 xs0.length c0) := cell_keep hb (cell_keep (bel_alloc _ (.cells #[.bool n1, .slice a1 xs1.length c1, .slice b1 ys1.length d1] 26)) (cell_box w _ _ _ 1 _ (by simp) rfl) (Nat.le_refl _)) (Nat.le_refl _)
  have hx0_2 : wz0.cell? ⟨w.heap.size, 2, none⟩ = some (.slice b0 ys0.length d0) := cell_keep hb (cell_keep (bel_alloc _ (.cells #[.bool n1, .slice a1 xs1.length c1, .slice b1 ys1.length d1] 26)) (cell_box w _ _ _ 2 _ (by simp) rfl) (Nat.le_refl _)) (Nat.le_refl _)
  have hx1_0 : wz0.cell? ⟨w.heap.size + 1, 0, none⟩ = some (.bool n1) := cell_keep hb (cell_box (World.alloc w (.cells #[.bool n0, .slice a0 xs0.length c0, .slice b0 ys0.length d0] 26)) _ _ _ 0 _ (by simp) rfl) (Nat.le_refl _)
  have hx1_1 : wz0.cell? ⟨w.heap.size + 1, 1, none⟩ = some (.slice a1 xs1.length c1) := cell_keep hb (cell_box (World.alloc w (.cells #[.bool n0, .slice a0 xs0.length c0, .slice b0 ys0.length d0] 26)) _ _ _ 1 _ (by simp) rfl) (Nat.le_refl _)
  have hx1_2 : wz0.cell? ⟨w.heap.size + 1, 2, none⟩ = some (.slice b1 ys1.length d1) := cell_keep hb (cell_box (World.alloc w (.cells #[.bool n0, .slice a0 xs0.length c0, .slice b0 ys0.length d0] 26)) _ _ _ 2 _ (by simp) rfl) (Nat.le_refl _)
  replace hb0 := hb0.trans (hb.mono hb0.size)
  clear hb
  go_wp2_with fail
  refine (szRat_yes _ _ _ _ _ _ _ _ _ (by omega) (by omega)).mono ?_
  rintro e wz1 ⟨rfl, hb⟩
  have zwz1 : wz0.heap.size ≤ wz1.heap.size := hb.size
  replace hx0_0 := cell_keep hb hx0_0 (Nat.le_refl _)
  replace hx0_1 := cell_keep hb hx0_1 (Nat.le_refl _)
  replace hx0_2 := cell_keep hb hx0_2 (Nat.le_refl _)
  replace hx1_0 := cell_keep hb hx1_0 (Nat.le_refl _)
  replace hx1_1 := cell_keep hb hx1_1 (Nat.le_refl _)
  replace hx1_2 := cell_keep hb hx1_2 (Nat.le_refl _)
  replace hb0 := hb0.trans (hb.mono hb0.size)
  clear hb
  go_upto_region 8 with fail
  go_cut [6, 7] (fun t u wx => ∃ (kb : Nat) (ad : Option Addr) (cp : Nat) (bd : Option Addr) (dp : Nat), t = .pointer (some ⟨kb, 0, none⟩) ∧ u = .bool (fRatSub n0 xs0 ys0 n1 xs1 ys1).2 ∧ wx.cell? ⟨kb, 0, none⟩ = some (.bool (fRatSub n0 xs0 ys0 n1 xs1 ys1).1.1) ∧ wx.cell? ⟨kb, 1, none⟩ = some (.slice ad (fRatSub n0 xs0 ys0 n1 xs1 ys1).1.2.1.length cp) ∧ wx.cell? ⟨kb, 2, none⟩ = some (.slice bd (fRatSub n0 xs0 ys0 n1 xs1 ys1).1.2.2.length dp) ∧ Own wx wz1.heap.size ad cp (fRatSub n0 xs0 ys0 n1 xs1 ys1).1.2.1 ∧ (fRatSub n0 xs0 ys0 n1 xs1 ys1).1.2.1.length ≤ 50 ∧ Own wx wz1.heap.size bd dp (fRatSub n0 xs0 ys0 n1 xs1 ys1).1.2.2 ∧ (fRatSub n0 xs0 ys0 n1 xs1 ys1).1.2.2.length ≤ 50 ∧ Below wz1.heap.size wz1 wx)
  case first =>
    have hbq : Below wz1.heap.size wz1 (World.drew wz1) := (Below.refl _ _).drew
    have np0 : w.heap.size < wz1.heap.size := by omega
    have np1 : w.heap.size + 1 < wz1.heap.size := by omega
    go_region_held3 (fun w' => w'.cell? ⟨w.heap.size, 0, none⟩ = some (.bool n0) ∧ w'.cell? ⟨w.heap.size, 1, none⟩ = some (.slice a0 xs0.length c0) ∧ w'.cell? ⟨w.heap.size, 2, none⟩ = some (.slice b0 ys0.length d0) ∧ w'.cell? ⟨w.heap.size + 1, 0, none⟩ = some (.bool n1) ∧ w'.cell? ⟨w.heap.size + 1, 1, none⟩ = some (.slice a1 xs1.length c1) ∧ w'.cell? ⟨w.heap.size + 1, 2, none⟩ = some (.slice b1 ys1.length d1))
      (first | (exact ⟨cell_keep hbq hx0_0 (Nat.le_refl _), cell_keep hbq hx0_1 (Nat.le_refl _), cell_keep hbq hx0_2 (Nat.le_refl _), cell_keep hbq hx1_0 (Nat.le_refl _), cell_keep hbq hx1_1 (Nat.le_refl _), cell_keep hbq hx1_2 (Nat.le_refl _)⟩) | (exact ⟨hx0_0, hx0_1, hx0_2, hx1_0, hx1_1, hx1_2⟩) | (exact ⟨cell_keep (bel_alloc _ _) (cell_keep hbq hx0_0 (Nat.le_refl _)) (Nat.le_refl _), cell_keep (bel_alloc _ _) (cell_keep hbq hx0_1 (Nat.le_refl _)) (Nat.le_refl _), cell_keep (bel_alloc _ _) (cell_keep hbq hx0_2 (Nat.le_refl _)) (Nat.le_refl _), cell_keep (bel_alloc _ _) (cell_keep hbq hx1_0 (Nat.le_refl _)) (Nat.le_refl _), cell_keep (bel_alloc _ _) (cell_keep hbq hx1_1 (Nat.le_refl _)) (Nat.le_refl _), cell_keep (bel_alloc _ _) (cell_keep hbq hx1_2 (Nat.le_refl _)) (Nat.le_refl _)⟩) | (exact ⟨cell_keep (bel_alloc _ _) hx0_0 (Nat.le_refl _), cell_keep (bel_alloc _ _) hx0_1 (Nat.le_refl _), cell_keep (bel_alloc _ _) hx0_2 (Nat.le_refl _), cell_keep (bel_alloc _ _) hx1_0 (Nat.le_refl _), cell_keep (bel_alloc _ _) hx1_1 (Nat.le_refl _), cell_keep (bel_alloc _ _) hx1_2 (Nat.le_refl _)⟩) | (exact ⟨far3 (ne_blk hLn np0) (cell_keep hbq hx0_0 (Nat.le_refl _)), far3 (ne_blk hLn np0) (cell_keep hbq hx0_1 (Nat.le_refl _)), far3 (ne_blk hLn np0) (cell_keep hbq hx0_2 (Nat.le_refl _)), far3 (ne_blk hLn np1) (cell_keep hbq hx1_0 (Nat.le_refl _)), far3 (ne_blk hLn np1) (cell_keep hbq hx1_1 (Nat.le_refl _)), far3 (ne_blk hLn np1) (cell_keep hbq hx1_2 (Nat.le_refl _))⟩) | go_keep)
      (first | (go_at_call 44; (try ((with_reducible show Calls _ _ _ (World.alloc _ _) _); have gq := alloc_step3 hbq (.bool false) (.slice none 0 0) (.slice none 0 0) 31; replace hbq := gq.1; have hL := gq.2.1; have hLn := gq.2.2; clear gq; (try replace s0Q := s0Q.below (bel_alloc _ (.cells #[.bool false, .slice none 0 0, .slice none 0 0] 31)) s0Q.1); (try replace s0R := s0R.below (bel_alloc _ (.cells #[.bool false, .slice none 0 0, .slice none 0 0] 31)) s0R.1); (try replace s1Q := s1Q.below (bel_alloc _ (.cells #[.bool false, .slice none 0 0, .slice none 0 0] 31)) s1Q.1); (try replace s1R := s1R.below (bel_alloc _ (.cells #[.bool false, .slice none 0 0, .slice none 0 0] 31)) s1R.1))); (try have hLt := hL.lt); have zq := hbq.size; refine (spec_RatSub _ _ _ _ _ _ _ _ _ _ _ _ _ _ _ (Slot.inn s0Q (by omega)) (Slot.inn s0R (by omega)) (Slot.inn s1Q (by omega)) (Slot.inn s1R (by omega))).mono ?_; rintro e qC ⟨⟨adC, cpC, bdC, dpC, rfl, oC1, nC1, oC2, nC2⟩, hq⟩; (try replace s0Q := s0Q.below hq s0Q.1); (try replace s0R := s0R.below hq s0R.1); (try replace s1Q := s1Q.below hq s1Q.1); (try replace s1R := s1R.below hq s1R.1); (try replace hL := hL.below hq (Nat.le_refl _)); have zs := hq.size; replace hbq := hbq.trans (hq.mono hbq.size); clear hq; (try (have hLL := hL; obtain ⟨⟨lc0, lc1, lc2⟩, lf0, lf1, lf2⟩ := hLL))) | (go_at_call 17; (try ((with_reducible show Calls _ _ _ (World.alloc _ _) _); have gq := alloc_step3 hbq (.bool false) (.slice none 0 0) (.slice none 0 0) 31; replace hbq := gq.1; have hL := gq.2.1; have hLn := gq.2.2; clear gq; (try replace s0Q := s0Q.below (bel_alloc _ (.cells #[.bool false, .slice none 0 0, .slice none 0 0] 31)) s0Q.1); (try replace s0R := s0R.below (bel_alloc _ (.cells #[.bool false, .slice none 0 0, .slice none 0 0] 31)) s0R.1); (try replace s1Q := s1Q.below (bel_alloc _ (.cells #[.bool false, .slice none 0 0, .slice none 0 0] 31)) s1Q.1); (try replace s1R := s1R.below (bel_alloc _ (.cells #[.bool false, .slice none 0 0, .slice none 0 0] 31)) s1R.1))); (try ((with_reducible show Calls _ _ _ (World.drew (World.alloc _ _)) _); have gq := alloc_drew3 wz1 (.bool false) (.slice none 0 0) (.slice none 0 0) 31; replace hbq := gq.1; have hL := gq.2.1; have hLn := gq.2.2; clear gq)); (with_reducible show Calls _ _ #[Value.agg #[Value.bool n0, _, _]] _ _); refine (toRat_any n0 a0 c0 xs0 b0 d0 ys0 _ (hp0.1.1.below (hb0.trans (hbq.mono hb0.size)) (Nat.le_refl _)) (hp0.2.1.below (hb0.trans (hbq.mono hb0.size)) (Nat.le_refl _)) (by omega) (by omega)).mono ?_; rintro e q0 ⟨⟨ad0Q, cp0Q, bd0Q, dp0Q, lo0Q, up0Q, lo0R, up0R, rfl, s0Q, s0R, -, -, -⟩, hq⟩; (try replace s1Q := s1Q.below hq s1Q.1); (try replace s1R := s1R.below hq s1R.1); (try replace oC1 := oC1.below hq (Nat.le_refl _)); (try replace oC2 := oC2.below hq (Nat.le_refl _)); (try replace hL := hL.below hq (Nat.le_refl _)); have zs := hq.size; replace hbq := hbq.trans (hq.mono hbq.size); clear hq) | (go_at_call 17; (try ((with_reducible show Calls _ _ _ (World.alloc _ _) _); have gq := alloc_step3 hbq (.bool false) (.slice none 0 0) (.slice none 0 0) 31; replace hbq := gq.1; have hL := gq.2.1; have hLn := gq.2.2; clear gq; (try replace s0Q := s0Q.below (bel_alloc _ (.cells #[.bool false, .slice none 0 0, .slice none 0 0] 31)) s0Q.1); (try replace s0R := s0R.below (bel_alloc _ (.cells #[.bool false, .slice none 0 0, .slice none 0 0] 31)) s0R.1); (try replace s1Q := s1Q.below (bel_alloc _ (.cells #[.bool false, .slice none 0 0, .slice none 0 0] 31)) s1Q.1); (try replace s1R := s1R.below (bel_alloc _ (.cells #[.bool false, .slice none 0 0, .slice none 0 0] 31)) s1R.1))); (try ((with_reducible show Calls _ _ _ (World.drew (World.alloc _ _)) _); have gq := alloc_drew3 wz1 (.bool false) (.slice none 0 0) (.slice none 0 0) 31; replace hbq := gq.1; have hL := gq.2.1; have hLn := gq.2.2; clear gq)); (with_reducible show Calls _ _ #[Value.agg #[Value.bool n1, _, _]] _ _); refine (toRat_any n1 a1 c1 xs1 b1 d1 ys1 _ (hp1.1.1.below (hb0.trans (hbq.mono hb0.size)) (Nat.le_refl _)) (hp1.2.1.below (hb0.trans (hbq.mono hb0.size)) (Nat.le_refl _)) (by omega) (by omega)).mono ?_; rintro e q1 ⟨⟨ad1Q, cp1Q, bd1Q, dp1Q, lo1Q, up1Q, lo1R, up1R, rfl, s1Q, s1R, -, -, -⟩, hq⟩; (try replace s0Q := s0Q.below hq s0Q.1); (try replace s0R := s0R.below hq s0R.1); (try replace oC1 := oC1.below hq (Nat.le_refl _)); (try replace oC2 := oC2.below hq (Nat.le_refl _)); (try replace hL := hL.below hq (Nat.le_refl _)); have zs := hq.size; replace hbq := hbq.trans (hq.mono hbq.size); clear hq))
    all_goals (go_wp2_with fail; go_meet; first | (have gL := hL; exact ⟨_, _, _, _, _, rfl, rfl, set3_cell0 lc0, set3_cell1 lc1, set3_cell2 lc2, set3_own oC1 hLt (by omega), nC1, set3_own oC2 hLt (by omega), nC2, set3_below hbq hLn⟩) | (exact ⟨_, _, _, _, _, rfl, rfl, cell_box _ _ _ _ 0 _ rfl rfl, cell_box _ _ _ _ 1 _ rfl rfl, cell_box _ _ _ _ 2 _ rfl rfl, (oC1.mono (by omega)).alloc _, nC1, (oC2.mono (by omega)).alloc _, nC2, hbq.trans ((bel_alloc _ _).mono hbq.size)⟩))
  case rest =>
  obtain ⟨kb1, ad2, cp3, bd4, dp5, rfl, rfl, hv10, hv11, hv12, ho6, hn7, ho8, hn9, hb⟩ := hcut
  obtain ⟨w1, hW⟩ : ∃ x : World, x = wc := ⟨_, rfl⟩
  rw [← hW] at hv10 hv11 hv12 ho6 ho8 hb ⊢
  clear hW
  have zk13 : kb1 < w1.heap.size := World.block_lt_of_cell? w1 ⟨kb1, 0, none⟩ hv10
  have s14 := Slot.of ho6
  have lc15 := (ho6.inn (by omega)).2.1
  clear ho6
  have s16 := Slot.of ho8
  have lc17 := (ho8.inn (by omega)).2.1
  clear ho8
  have zw1 : wz1.heap.size ≤ w1.heap.size := hb.size
  replace hx0_0 := cell_keep hb hx0_0 (Nat.le_refl _)
  replace hx0_1 := cell_keep hb hx0_1 (Nat.le_refl _)
  replace hx0_2 := cell_keep hb hx0_2 (Nat.le_refl _)
  replace hx1_0 := cell_keep hb hx1_0 (Nat.le_refl _)
  replace hx1_1 := cell_keep hb hx1_1 (Nat.le_refl _)
  replace hx1_2 := cell_keep hb hx1_2 (Nat.le_refl _)
  replace hb0 := hb0.trans (hb.mono hb0.size)
  clear hb
  go_wp2_with fail
  refine (toRat_any _ _ _ _ _ _ _ _ (hp0.1.1.below hb0 (Nat.le_refl _)) (hp0.2.1.below hb0 (Nat.le_refl _)) (by omega) (by omega)).mono ?_
  rintro e w2 ⟨⟨ad18, cp19, bd21, dp22, lo23, up24, lo25, up26, rfl, s27, s28, g29, g30, d31⟩, hb⟩
  have lc32 := s27.le
  have lc33 := s28.le
  have s27u := s27.1
  have s28u := s28.1
  have zw2 : w1.heap.size ≤ w2.heap.size := hb.size
  replace s14 := s14.below hb s14.1
  replace s16 := s16.below hb s16.1
  replace hx0_0 := cell_keep hb hx0_0 (Nat.le_refl _)
  replace hx0_1 := cell_keep hb hx0_1 (Nat.le_refl _)
  replace hx0_2 := cell_keep hb hx0_2 (Nat.le_refl _)
  replace hx1_0 := cell_keep hb hx1_0 (Nat.le_refl _)
  replace hx1_1 := cell_keep hb hx1_1 (Nat.le_refl _)
  replace hx1_2 := cell_keep hb hx1_2 (Nat.le_refl _)
  replace hv10 := cell_keep hb hv10 (Nat.le_refl _)
  replace hv11 := cell_keep hb hv11 (Nat.le_refl _)
  replace hv12 := cell_keep hb hv12 (Nat.le_refl _)
  replace hb0 := hb0.trans (hb.mono hb0.size)
  clear hb
  have hb := bel_alloc w2 (.cells #[.bool n0, .slice ad18 xs0.length cp19, .slice bd21 ys0.length dp22] 31)
  have zb34 : w2.heap.size + 1 ≤ (World.alloc w2 (.cells #[.bool n0, .slice ad18 xs0.length cp19, .slice bd21 ys0.length dp22] 31)).heap.size := by simp
  replace s14 := s14.below hb s14.1
  replace s16 := s16.below hb s16.1
  replace s27 := s27.below hb s27.1
  replace s28 := s28.below hb s28.1
  replace hx0_0 := cell_keep hb hx0_0 (Nat.le_refl _)
  replace hx0_1 := cell_keep hb hx0_1 (Nat.le_refl _)
  replace hx0_2 := cell_keep hb hx0_2 (Nat.le_refl _)
  replace hx1_0 := cell_keep hb hx1_0 (Nat.le_refl _)
  replace hx1_1 := cell_keep hb hx1_1 (Nat.le_refl _)
  replace hx1_2 := cell_keep hb hx1_2 (Nat.le_refl _)
  replace hv10 := cell_keep hb hv10 (Nat.le_refl _)
  replace hv11 := cell_keep hb hv11 (Nat.le_refl _)
  replace hv12 := cell_keep hb hv12 (Nat.le_refl _)
  have hv35 : (World.alloc w2 (.cells #[.bool n0, .slice ad18 xs0.length cp19, .slice bd21 ys0.length dp22] 31)).cell? ⟨w2.heap.size, 0, none⟩ = some (.bool n0) := cell_box w2 _ _ _ 0 _ (by simp) rfl
  have hv36 : (World.alloc w2 (.cells #[.bool n0, .slice ad18 xs0.length cp19, .slice bd21 ys0.length dp22] 31)).cell? ⟨w2.heap.size, 1, none⟩ = some (.slice ad18 xs0.length cp19) := cell_box w2 _ _ _ 1 _ (by simp) rfl
  have hv37 : (World.alloc w2 (.cells #[.bool n0, .slice ad18 xs0.length cp19, .slice bd21 ys0.length dp22] 31)).cell? ⟨w2.heap.size, 2, none⟩ = some (.slice bd21 ys0.length dp22) := cell_box w2 _ _ _ 2 _ (by simp) rfl
  replace hb0 := hb0.trans (hb.mono hb0.size)
  clear hb
  go_wp2_with fail
  refine (toRat_any _ _ _ _ _ _ _ _ (hp1.1.1.below hb0 (Nat.le_refl _)) (hp1.2.1.below hb0 (Nat.le_refl _)) (by omega) (by omega)).mono ?_
  rintro e w3 ⟨⟨ad38, cp39, bd41, dp42, lo43, up44, lo45, up46, rfl, s47, s48, g49, g50, d51⟩, hb⟩
  have lc52 := s47.le
  have lc53 := s48.le
  have s47u := s47.1
  have s48u := s48.1
  have zw3 : (World.alloc w2 (.cells #[.bool n0, .slice ad18 xs0.length cp19, .slice bd21 ys0.length dp22] 31)).heap.size ≤ w3.heap.size := hb.size
  replace s14 := s14.below hb s14.1
  replace s16 := s16.below hb s16.1
  replace s27 := s27.below hb s27.1
  replace s28 := s28.below hb s28.1
  replace hx0_0 := cell_keep hb hx0_0 (Nat.le_refl _)
  replace hx0_1 := cell_keep hb hx0_1 (Nat.le_refl _)
  replace hx0_2 := cell_keep hb hx0_2 (Nat.le_refl _)
  replace hx1_0 := cell_keep hb hx1_0 (Nat.le_refl _)
  replace hx1_1 := cell_keep hb hx1_1 (Nat.le_refl _)
  replace hx1_2 := cell_keep hb hx1_2 (Nat.le_refl _)
  replace hv10 := cell_keep hb hv10 (Nat.le_refl _)
  replace hv11 := cell_keep hb hv11 (Nat.le_refl _)
  replace hv12 := cell_keep hb hv12 (Nat.le_refl _)
  replace hv35 := cell_keep hb hv35 (Nat.le_refl _)
  replace hv36 := cell_keep hb hv36 (Nat.le_refl _)
  replace hv37 := cell_keep hb hv37 (Nat.le_refl _)
  replace hb0 := hb0.trans (hb.mono hb0.size)
  clear hb
  have hb := bel_alloc w3 (.cells #[.bool n1, .slice ad38 xs1.length cp39, .slice bd41 ys1.length dp42] 31)
  have zb54 : w3.heap.size + 1 ≤ (World.alloc w3 (.cells #[.bool n1, .slice ad38 xs1.length cp39, .slice bd41 ys1.length dp42] 31)).heap.size := by simp
  replace s14 := s14.below hb s14.1
  replace s16 := s16.below hb s16.1
  replace s27 := s27.below hb s27.1
  replace s28 := s28.below hb s28.1
  replace s47 := s47.below hb s47.1
  replace s48 := s48.below hb s48.1
  replace hx0_0 := cell_keep hb hx0_0 (Nat.le_refl _)
  replace hx0_1 := cell_keep hb hx0_1 (Nat.le_refl _)
  replace hx0_2 := cell_keep hb hx0_2 (Nat.le_refl _)
  replace hx1_0 := cell_keep hb hx1_0 (Nat.le_refl _)
  replace hx1_1 := cell_keep hb hx1_1 (Nat.le_refl _)
  replace hx1_2 := cell_keep hb hx1_2 (Nat.le_refl _)
  replace hv10 := cell_keep hb hv10 (Nat.le_refl _)
  replace hv11 := cell_keep hb hv11 (Nat.le_refl _)
  replace hv12 := cell_keep hb hv12 (Nat.le_refl _)
  replace hv35 := cell_keep hb hv35 (Nat.le_refl _)
  replace hv36 := cell_keep hb hv36 (Nat.le_refl _)
  replace hv37 := cell_keep hb hv37 (Nat.le_refl _)
  have hv55 : (World.alloc w3 (.cells #[.bool n1, .slice ad38 xs1.length cp39, .slice bd41 ys1.length dp42] 31)).cell? ⟨w3.heap.size, 0, none⟩ = some (.bool n1) := cell_box w3 _ _ _ 0 _ (by simp) rfl
  have hv56 : (World.alloc w3 (.cells #[.bool n1, .slice ad38 xs1.length cp39, .slice bd41 ys1.length dp42] 31)).cell? ⟨w3.heap.size, 1, none⟩ = some (.slice ad38 xs1.length cp39) := cell_box w3 _ _ _ 1 _ (by simp) rfl
  have hv57 : (World.alloc w3 (.cells #[.bool n1, .slice ad38 xs1.length cp39, .slice bd41 ys1.length dp42] 31)).cell? ⟨w3.heap.size, 2, none⟩ = some (.slice bd41 ys1.length dp42) := cell_box w3 _ _ _ 2 _ (by simp) rfl
  replace hb0 := hb0.trans (hb.mono hb0.size)
  clear hb
  go_wp2_with fail
  refine (impl_RatSub _ _ _ _ _ _ _ _ _ _ _ _ _ _ _ ⟨s27.rd, lc32, (by omega)⟩ ⟨s28.rd, lc33, (by omega)⟩ ⟨s47.rd, lc52, (by omega)⟩ ⟨s48.rd, lc53, (by omega)⟩).mono ?_
  rintro e w4 ⟨⟨ad58, cp59, bd60, dp61, lo62, up63, lo64, up65, rfl, s66, hn67, s68, hn69, g70, g71, d72⟩, hb⟩
  have s66u := s66.1
  have s68u := s68.1
  have zw4 : (World.alloc w3 (.cells #[.bool n1, .slice ad38 xs1.length cp39, .slice bd41 ys1.length dp42] 31)).heap.size ≤ w4.heap.size := hb.size
  replace s14 := s14.below hb s14.1
  replace s16 := s16.below hb s16.1
  replace s27 := s27.below hb s27.1
  replace s28 := s28.below hb s28.1
  replace s47 := s47.below hb s47.1
  replace s48 := s48.below hb s48.1
  replace hx0_0 := cell_keep hb hx0_0 (Nat.le_refl _)
  replace hx0_1 := cell_keep hb hx0_1 (Nat.le_refl _)
  replace hx0_2 := cell_keep hb hx0_2 (Nat.le_refl _)
  replace hx1_0 := cell_keep hb hx1_0 (Nat.le_refl _)
  replace hx1_1 := cell_keep hb hx1_1 (Nat.le_refl _)
  replace hx1_2 := cell_keep hb hx1_2 (Nat.le_refl _)
  replace hv10 := cell_keep hb hv10 (Nat.le_refl _)
  replace hv11 := cell_keep hb hv11 (Nat.le_refl _)
  replace hv12 := cell_keep hb hv12 (Nat.le_refl _)
  replace hv35 := cell_keep hb hv35 (Nat.le_refl _)
  replace hv36 := cell_keep hb hv36 (Nat.le_refl _)
  replace hv37 := cell_keep hb hv37 (Nat.le_refl _)
  replace hv55 := cell_keep hb hv55 (Nat.le_refl _)
  replace hv56 := cell_keep hb hv56 (Nat.le_refl _)
  replace hv57 := cell_keep hb hv57 (Nat.le_refl _)
  replace hb0 := hb0.trans (hb.mono hb0.size)
  clear hb
  have hb := bel_alloc w4 (.cells #[.bool (fRatSub n0 xs0 ys0 n1 xs1 ys1).1.1, .slice ad58 (fRatSub n0 xs0 ys0 n1 xs1 ys1).1.2.1.length cp59, .slice bd60 (fRatSub n0 xs0 ys0 n1 xs1 ys1).1.2.2.length dp61] 31)
  have zb73 : w4.heap.size + 1 ≤ (World.alloc w4 (.cells #[.bool (fRatSub n0 xs0 ys0 n1 xs1 ys1).1.1, .slice ad58 (fRatSub n0 xs0 ys0 n1 xs1 ys1).1.2.1.length cp59, .slice bd60 (fRatSub n0 xs0 ys0 n1 xs1 ys1).1.2.2.length dp61] 31)).heap.size := by simp
  replace s14 := s14.below hb s14.1
  replace s16 := s16.below hb s16.1
  replace s27 := s27.below hb s27.1
  replace s28 := s28.below hb s28.1
  replace s47 := s47.below hb s47.1
  replace s48 := s48.below hb s48.1
  replace s66 := s66.below hb s66.1
  replace s68 := s68.below hb s68.1
  replace hx0_0 := cell_keep hb hx0_0 (Nat.le_refl _)
  replace hx0_1 := cell_keep hb hx0_1 (Nat.le_refl _)
  replace hx0_2 := cell_keep hb hx0_2 (Nat.le_refl _)
  replace hx1_0 := cell_keep hb hx1_0 (Nat.le_refl _)
  replace hx1_1 := cell_keep hb hx1_1 (Nat.le_refl _)
  replace hx1_2 := cell_keep hb hx1_2 (Nat.le_refl _)
  replace hv10 := cell_keep hb hv10 (Nat.le_refl _)
  replace hv11 := cell_keep hb hv11 (Nat.le_refl _)
  replace hv12 := cell_keep hb hv12 (Nat.le_refl _)
  replace hv35 := cell_keep hb hv35 (Nat.le_refl _)
  replace hv36 := cell_keep hb hv36 (Nat.le_refl _)
  replace hv37 := cell_keep hb hv37 (Nat.le_refl _)
  replace hv55 := cell_keep hb hv55 (Nat.le_refl _)
  replace hv56 := cell_keep hb hv56 (Nat.le_refl _)
  replace hv57 := cell_keep hb hv57 (Nat.le_refl _)
  have hv74 : (World.alloc w4 (.cells #[.bool (fRatSub n0 xs0 ys0 n1 xs1 ys1).1.1, .slice ad58 (fRatSub n0 xs0 ys0 n1 xs1 ys1).1.2.1.length cp59, .slice bd60 (fRatSub n0 xs0 ys0 n1 xs1 ys1).1.2.2.length dp61] 31)).cell? ⟨w4.heap.size, 0, none⟩ = some (.bool (fRatSub n0 xs0 ys0 n1 xs1 ys1).1.1) := cell_box w4 _ _ _ 0 _ (by simp) rfl
  have hv75 : (World.alloc w4 (.cells #[.bool (fRatSub n0 xs0 ys0 n1 xs1 ys1).1.1, .slice ad58 (fRatSub n0 xs0 ys0 n1 xs1 ys1).1.2.1.length cp59, .slice bd60 (fRatSub n0 xs0 ys0 n1 xs1 ys1).1.2.2.length dp61] 31)).cell? ⟨w4.heap.size, 1, none⟩ = some (.slice ad58 (fRatSub n0 xs0 ys0 n1 xs1 ys1).1.2.1.length cp59) := cell_box w4 _ _ _ 1 _ (by simp) rfl
  have hv76 : (World.alloc w4 (.cells #[.bool (fRatSub n0 xs0 ys0 n1 xs1 ys1).1.1, .slice ad58 (fRatSub n0 xs0 ys0 n1 xs1 ys1).1.2.1.length cp59, .slice bd60 (fRatSub n0 xs0 ys0 n1 xs1 ys1).1.2.2.length dp61] 31)).cell? ⟨w4.heap.size, 2, none⟩ = some (.slice bd60 (fRatSub n0 xs0 ys0 n1 xs1 ys1).1.2.2.length dp61) := cell_box w4 _ _ _ 2 _ (by simp) rfl
  replace hb0 := hb0.trans (hb.mono hb0.size)
  clear hb
  go_wp2_with fail
  refine (eqRat_same _ _ _ _ _ _ _ _ _ _ _ _ s66.rd s14.rd s68.rd s16.rd (by omega) (by omega)).mono ?_
  rintro e w5 ⟨rfl, hb⟩
  have zw5 : (World.alloc w4 (.cells #[.bool (fRatSub n0 xs0 ys0 n1 xs1 ys1).1.1, .slice ad58 (fRatSub n0 xs0 ys0 n1 xs1 ys1).1.2.1.length cp59, .slice bd60 (fRatSub n0 xs0 ys0 n1 xs1 ys1).1.2.2.length dp61] 31)).heap.size ≤ w5.heap.size := hb.size
  replace s14 := s14.below hb s14.1
  replace s16 := s16.below hb s16.1
  replace s27 := s27.below hb s27.1
  replace s28 := s28.below hb s28.1
  replace s47 := s47.below hb s47.1
  replace s48 := s48.below hb s48.1
  replace s66 := s66.below hb s66.1
  replace s68 := s68.below hb s68.1
  replace hx0_0 := cell_keep hb hx0_0 (Nat.le_refl _)
  replace hx0_1 := cell_keep hb hx0_1 (Nat.le_refl _)
  replace hx0_2 := cell_keep hb hx0_2 (Nat.le_refl _)
  replace hx1_0 := cell_keep hb hx1_0 (Nat.le_refl _)
  replace hx1_1 := cell_keep hb hx1_1 (Nat.le_refl _)
  replace hx1_2 := cell_keep hb hx1_2 (Nat.le_refl _)
  replace hv10 := cell_keep hb hv10 (Nat.le_refl _)
  replace hv11 := cell_keep hb hv11 (Nat.le_refl _)
  replace hv12 := cell_keep hb hv12 (Nat.le_refl _)
  replace hv35 := cell_keep hb hv35 (Nat.le_refl _)
  replace hv36 := cell_keep hb hv36 (Nat.le_refl _)
  replace hv37 := cell_keep hb hv37 (Nat.le_refl _)
  replace hv55 := cell_keep hb hv55 (Nat.le_refl _)
  replace hv56 := cell_keep hb hv56 (Nat.le_refl _)
  replace hv57 := cell_keep hb hv57 (Nat.le_refl _)
  replace hv74 := cell_keep hb hv74 (Nat.le_refl _)
  replace hv75 := cell_keep hb hv75 (Nat.le_refl _)
  replace hv76 := cell_keep hb hv76 (Nat.le_refl _)
  replace hb0 := hb0.trans (hb.mono hb0.size)
  clear hb
  go_upto_region 14 with fail
  go_cut [58] (fun t wx => t = .bool false ∧ Below w5.heap.size w5 wx)
  case first =>
    go_region_with (first | (go_at_call 17; refine (toRat_any _ _ _ _ _ _ _ (World.drew w5) (hp0.1.1.below hb0.drew (Nat.le_refl _)) (hp0.2.1.below hb0.drew (Nat.le_refl _)) ?_ ?_).mono ?_; omega; omega; rintro e wA ⟨⟨adA, cpA, bdA, dpA, loA, upA, loA2, upA2, rfl, sA, sA2, gA, gA2, dA⟩, hbA⟩; replace hbA := (Below.refl (w5).heap.size w5).drew.trans hbA; have qhx0_0 := cell_keep hbA hx0_0 (Nat.le_refl _); have qhx0_1 := cell_keep hbA hx0_1 (Nat.le_refl _); have qhx0_2 := cell_keep hbA hx0_2 (Nat.le_refl _); have qhx1_0 := cell_keep hbA hx1_0 (Nat.le_refl _); have qhx1_1 := cell_keep hbA hx1_1 (Nat.le_refl _); have qhx1_2 := cell_keep hbA hx1_2 (Nat.le_refl _); have qhv10 := cell_keep hbA hv10 (Nat.le_refl _); have qhv11 := cell_keep hbA hv11 (Nat.le_refl _); have qhv12 := cell_keep hbA hv12 (Nat.le_refl _); have qhv35 := cell_keep hbA hv35 (Nat.le_refl _); have qhv36 := cell_keep hbA hv36 (Nat.le_refl _); have qhv37 := cell_keep hbA hv37 (Nat.le_refl _); have qhv55 := cell_keep hbA hv55 (Nat.le_refl _); have qhv56 := cell_keep hbA hv56 (Nat.le_refl _); have qhv57 := cell_keep hbA hv57 (Nat.le_refl _); have qhv74 := cell_keep hbA hv74 (Nat.le_refl _); have qhv75 := cell_keep hbA hv75 (Nat.le_refl _); have qhv76 := cell_keep hbA hv76 (Nat.le_refl _)) | (go_at_call 19; refine (eqRat_same _ _ _ _ _ _ _ _ _ _ _ _ (s27.below hbA s27.1).rd sA.rd (s28.below hbA s28.1).rd sA2.rd ?_ ?_).mono ?_; omega; omega; rintro e wB ⟨rfl, hbB⟩))
    all_goals (go_wp2_with fail; go_meet; exact ⟨rfl, hbA.trans (hbB.mono hbA.size)⟩)
  case rest =>
  obtain ⟨rfl, hb⟩ := hcut
  obtain ⟨w6, hW⟩ : ∃ x : World, x = wc := ⟨_, rfl⟩
  rw [← hW] at hb ⊢
  clear hW
  have zw6 : w5.heap.size ≤ w6.heap.size := hb.size
  replace s14 := s14.below hb s14.1
  replace s16 := s16.below hb s16.1
  replace s27 := s27.below hb s27.1
  replace s28 := s28.below hb s28.1
  replace s47 := s47.below hb s47.1
  replace s48 := s48.below hb s48.1
  replace s66 := s66.below hb s66.1
  replace s68 := s68.below hb s68.1
  replace hx0_0 := cell_keep hb hx0_0 (Nat.le_refl _)
  replace hx0_1 := cell_keep hb hx0_1 (Nat.le_refl _)
  replace hx0_2 := cell_keep hb hx0_2 (Nat.le_refl _)
  replace hx1_0 := cell_keep hb hx1_0 (Nat.le_refl _)
  replace hx1_1 := cell_keep hb hx1_1 (Nat.le_refl _)
  replace hx1_2 := cell_keep hb hx1_2 (Nat.le_refl _)
  replace hv10 := cell_keep hb hv10 (Nat.le_refl _)
  replace hv11 := cell_keep hb hv11 (Nat.le_refl _)
  replace hv12 := cell_keep hb hv12 (Nat.le_refl _)
  replace hv35 := cell_keep hb hv35 (Nat.le_refl _)
  replace hv36 := cell_keep hb hv36 (Nat.le_refl _)
  replace hv37 := cell_keep hb hv37 (Nat.le_refl _)
  replace hv55 := cell_keep hb hv55 (Nat.le_refl _)
  replace hv56 := cell_keep hb hv56 (Nat.le_refl _)
  replace hv57 := cell_keep hb hv57 (Nat.le_refl _)
  replace hv74 := cell_keep hb hv74 (Nat.le_refl _)
  replace hv75 := cell_keep hb hv75 (Nat.le_refl _)
  replace hv76 := cell_keep hb hv76 (Nat.le_refl _)
  replace hb0 := hb0.trans (hb.mono hb0.size)
  clear hb
  go_upto_region 16 with fail
  go_cut [63] (fun t wx => t = .bool false ∧ Below w6.heap.size w6 wx)
  case first =>
    go_region_with (first | (go_at_call 17; refine (toRat_any _ _ _ _ _ _ _ (World.drew w6) (hp1.1.1.below hb0.drew (Nat.le_refl _)) (hp1.2.1.below hb0.drew (Nat.le_refl _)) ?_ ?_).mono ?_; omega; omega; rintro e wA ⟨⟨adA, cpA, bdA, dpA, loA, upA, loA2, upA2, rfl, sA, sA2, gA, gA2, dA⟩, hbA⟩; replace hbA := (Below.refl (w6).heap.size w6).drew.trans hbA; have qhx0_0 := cell_keep hbA hx0_0 (Nat.le_refl _); have qhx0_1 := cell_keep hbA hx0_1 (Nat.le_refl _); have qhx0_2 := cell_keep hbA hx0_2 (Nat.le_refl _); have qhx1_0 := cell_keep hbA hx1_0 (Nat.le_refl _); have qhx1_1 := cell_keep hbA hx1_1 (Nat.le_refl _); have qhx1_2 := cell_keep hbA hx1_2 (Nat.le_refl _); have qhv10 := cell_keep hbA hv10 (Nat.le_refl _); have qhv11 := cell_keep hbA hv11 (Nat.le_refl _); have qhv12 := cell_keep hbA hv12 (Nat.le_refl _); have qhv35 := cell_keep hbA hv35 (Nat.le_refl _); have qhv36 := cell_keep hbA hv36 (Nat.le_refl _); have qhv37 := cell_keep hbA hv37 (Nat.le_refl _); have qhv55 := cell_keep hbA hv55 (Nat.le_refl _); have qhv56 := cell_keep hbA hv56 (Nat.le_refl _); have qhv57 := cell_keep hbA hv57 (Nat.le_refl _); have qhv74 := cell_keep hbA hv74 (Nat.le_refl _); have qhv75 := cell_keep hbA hv75 (Nat.le_refl _); have qhv76 := cell_keep hbA hv76 (Nat.le_refl _)) | (go_at_call 19; refine (eqRat_same _ _ _ _ _ _ _ _ _ _ _ _ (s47.below hbA s47.1).rd sA.rd (s48.below hbA s48.1).rd sA2.rd ?_ ?_).mono ?_; omega; omega; rintro e wB ⟨rfl, hbB⟩))
    all_goals (go_wp2_with fail; go_meet; exact ⟨rfl, hbA.trans (hbB.mono hbA.size)⟩)
  case rest =>
  obtain ⟨rfl, hb⟩ := hcut
  obtain ⟨w7, hW⟩ : ∃ x : World, x = wc := ⟨_, rfl⟩
  rw [← hW] at hb ⊢
  clear hW
  have zw7 : w6.heap.size ≤ w7.heap.size := hb.size
  replace s14 := s14.below hb s14.1
  replace s16 := s16.below hb s16.1
  replace s27 := s27.below hb s27.1
  replace s28 := s28.below hb s28.1
  replace s47 := s47.below hb s47.1
  replace s48 := s48.below hb s48.1
  replace s66 := s66.below hb s66.1
  replace s68 := s68.below hb s68.1
  replace hx0_0 := cell_keep hb hx0_0 (Nat.le_refl _)
  replace hx0_1 := cell_keep hb hx0_1 (Nat.le_refl _)
  replace hx0_2 := cell_keep hb hx0_2 (Nat.le_refl _)
  replace hx1_0 := cell_keep hb hx1_0 (Nat.le_refl _)
  replace hx1_1 := cell_keep hb hx1_1 (Nat.le_refl _)
  replace hx1_2 := cell_keep hb hx1_2 (Nat.le_refl _)
  replace hv10 := cell_keep hb hv10 (Nat.le_refl _)
  replace hv11 := cell_keep hb hv11 (Nat.le_refl _)
  replace hv12 := cell_keep hb hv12 (Nat.le_refl _)
  replace hv35 := cell_keep hb hv35 (Nat.le_refl _)
  replace hv36 := cell_keep hb hv36 (Nat.le_refl _)
  replace hv37 := cell_keep hb hv37 (Nat.le_refl _)
  replace hv55 := cell_keep hb hv55 (Nat.le_refl _)
  replace hv56 := cell_keep hb hv56 (Nat.le_refl _)
  replace hv57 := cell_keep hb hv57 (Nat.le_refl _)
  replace hv74 := cell_keep hb hv74 (Nat.le_refl _)
  replace hv75 := cell_keep hb hv75 (Nat.le_refl _)
  replace hv76 := cell_keep hb hv76 (Nat.le_refl _)
  replace hb0 := hb0.trans (hb.mono hb0.size)
  clear hb
  go_wp2_with fail
  refine (markRat_any _ _ _ _ _ _ _ _ _ _ _ _ _ s27 s28 d31 (by omega) (by omega) (by omega)).mono ?_
  rintro e w8 ⟨rfl, w9, s77, s78, hw, hw2⟩
  replace s14 := (s14.wr hw (by omega)).wr hw2 (by omega)
  replace s16 := (s16.wr hw (by omega)).wr hw2 (by omega)
  replace s47 := (s47.wr hw (by omega)).wr hw2 (by omega)
  replace s48 := (s48.wr hw (by omega)).wr hw2 (by omega)
  replace s66 := (s66.wr hw (by omega)).wr hw2 (by omega)
  replace s68 := (s68.wr hw (by omega)).wr hw2 (by omega)
  clear s27 s28
  replace hb0 := below_wr hb0 hw (by omega) hb0.size
  replace hb0 := below_wr hb0 hw2 (by omega) hb0.size
  have zw9 : w7.heap.size ≤ w9.heap.size := hw.size
  have zw8 : w9.heap.size ≤ w8.heap.size := hw2.size
  replace hx0_0 := cell_keep_wr hw2 (cell_keep_wr hw hx0_0 (by omega)) (by omega)
  replace hx0_1 := cell_keep_wr hw2 (cell_keep_wr hw hx0_1 (by omega)) (by omega)
  replace hx0_2 := cell_keep_wr hw2 (cell_keep_wr hw hx0_2 (by omega)) (by omega)
  replace hx1_0 := cell_keep_wr hw2 (cell_keep_wr hw hx1_0 (by omega)) (by omega)
  replace hx1_1 := cell_keep_wr hw2 (cell_keep_wr hw hx1_1 (by omega)) (by omega)
  replace hx1_2 := cell_keep_wr hw2 (cell_keep_wr hw hx1_2 (by omega)) (by omega)
  replace hv10 := cell_keep_wr hw2 (cell_keep_wr hw hv10 (by omega)) (by omega)
  replace hv11 := cell_keep_wr hw2 (cell_keep_wr hw hv11 (by omega)) (by omega)
  replace hv12 := cell_keep_wr hw2 (cell_keep_wr hw hv12 (by omega)) (by omega)
  replace hv35 := cell_keep_wr hw2 (cell_keep_wr hw hv35 (by omega)) (by omega)
  replace hv36 := cell_keep_wr hw2 (cell_keep_wr hw hv36 (by omega)) (by omega)
  replace hv37 := cell_keep_wr hw2 (cell_keep_wr hw hv37 (by omega)) (by omega)
  replace hv55 := cell_keep_wr hw2 (cell_keep_wr hw hv55 (by omega)) (by omega)
  replace hv56 := cell_keep_wr hw2 (cell_keep_wr hw hv56 (by omega)) (by omega)
  replace hv57 := cell_keep_wr hw2 (cell_keep_wr hw hv57 (by omega)) (by omega)
  replace hv74 := cell_keep_wr hw2 (cell_keep_wr hw hv74 (by omega)) (by omega)
  replace hv75 := cell_keep_wr hw2 (cell_keep_wr hw hv75 (by omega)) (by omega)
  replace hv76 := cell_keep_wr hw2 (cell_keep_wr hw hv76 (by omega)) (by omega)
  clear hw hw2
  go_wp2_with fail
  refine (markRat_any _ _ _ _ _ _ _ _ _ _ _ _ _ s47 s48 d51 (by omega) (by omega) (by omega)).mono ?_
  rintro e w10 ⟨rfl, w11, s79, s80, hw, hw2⟩
  replace s14 := (s14.wr hw (by omega)).wr hw2 (by omega)
  replace s16 := (s16.wr hw (by omega)).wr hw2 (by omega)
  replace s77 := (s77.wr hw (by omega)).wr hw2 (by omega)
  replace s78 := (s78.wr hw (by omega)).wr hw2 (by omega)
  replace s66 := (s66.wr hw (by omega)).wr hw2 (by omega)
  replace s68 := (s68.wr hw (by omega)).wr hw2 (by omega)
  clear s47 s48
  replace hb0 := below_wr hb0 hw (by omega) hb0.size
  replace hb0 := below_wr hb0 hw2 (by omega) hb0.size
  have zw11 : w8.heap.size ≤ w11.heap.size := hw.size
  have zw10 : w11.heap.size ≤ w10.heap.size := hw2.size
  replace hx0_0 := cell_keep_wr hw2 (cell_keep_wr hw hx0_0 (by omega)) (by omega)
  replace hx0_1 := cell_keep_wr hw2 (cell_keep_wr hw hx0_1 (by omega)) (by omega)
  replace hx0_2 := cell_keep_wr hw2 (cell_keep_wr hw hx0_2 (by omega)) (by omega)
  replace hx1_0 := cell_keep_wr hw2 (cell_keep_wr hw hx1_0 (by omega)) (by omega)
  replace hx1_1 := cell_keep_wr hw2 (cell_keep_wr hw hx1_1 (by omega)) (by omega)
  replace hx1_2 := cell_keep_wr hw2 (cell_keep_wr hw hx1_2 (by omega)) (by omega)
  replace hv10 := cell_keep_wr hw2 (cell_keep_wr hw hv10 (by omega)) (by omega)
  replace hv11 := cell_keep_wr hw2 (cell_keep_wr hw hv11 (by omega)) (by omega)
  replace hv12 := cell_keep_wr hw2 (cell_keep_wr hw hv12 (by omega)) (by omega)
  replace hv35 := cell_keep_wr hw2 (cell_keep_wr hw hv35 (by omega)) (by omega)
  replace hv36 := cell_keep_wr hw2 (cell_keep_wr hw hv36 (by omega)) (by omega)
  replace hv37 := cell_keep_wr hw2 (cell_keep_wr hw hv37 (by omega)) (by omega)
  replace hv55 := cell_keep_wr hw2 (cell_keep_wr hw hv55 (by omega)) (by omega)
  replace hv56 := cell_keep_wr hw2 (cell_keep_wr hw hv56 (by omega)) (by omega)
  replace hv57 := cell_keep_wr hw2 (cell_keep_wr hw hv57 (by omega)) (by omega)
  replace hv74 := cell_keep_wr hw2 (cell_keep_wr hw hv74 (by omega)) (by omega)
  replace hv75 := cell_keep_wr hw2 (cell_keep_wr hw hv75 (by omega)) (by omega)
  replace hv76 := cell_keep_wr hw2 (cell_keep_wr hw hv76 (by omega)) (by omega)
  clear hw hw2
  go_wp2_with fail
  refine (eqRat_same _ _ _ _ _ _ _ _ _ _ _ _ s66.rd s14.rd s68.rd s16.rd (by omega) (by omega)).mono ?_
  rintro e w12 ⟨rfl, hb⟩
  have zw12 : w10.heap.size ≤ w12.heap.size := hb.size
  replace s14 := s14.below hb s14.1
  replace s16 := s16.below hb s16.1
  replace s77 := s77.below hb s77.1
  replace s78 := s78.below hb s78.1
  replace s79 := s79.below hb s79.1
  replace s80 := s80.below hb s80.1
  replace s66 := s66.below hb s66.1
  replace s68 := s68.below hb s68.1
  replace hx0_0 := cell_keep hb hx0_0 (Nat.le_refl _)
  replace hx0_1 := cell_keep hb hx0_1 (Nat.le_refl _)
  replace hx0_2 := cell_keep hb hx0_2 (Nat.le_refl _)
  replace hx1_0 := cell_keep hb hx1_0 (Nat.le_refl _)
  replace hx1_1 := cell_keep hb hx1_1 (Nat.le_refl _)
  replace hx1_2 := cell_keep hb hx1_2 (Nat.le_refl _)
  replace hv10 := cell_keep hb hv10 (Nat.le_refl _)
  replace hv11 := cell_keep hb hv11 (Nat.le_refl _)
  replace hv12 := cell_keep hb hv12 (Nat.le_refl _)
  replace hv35 := cell_keep hb hv35 (Nat.le_refl _)
  replace hv36 := cell_keep hb hv36 (Nat.le_refl _)
  replace hv37 := cell_keep hb hv37 (Nat.le_refl _)
  replace hv55 := cell_keep hb hv55 (Nat.le_refl _)
  replace hv56 := cell_keep hb hv56 (Nat.le_refl _)
  replace hv57 := cell_keep hb hv57 (Nat.le_refl _)
  replace hv74 := cell_keep hb hv74 (Nat.le_refl _)
  replace hv75 := cell_keep hb hv75 (Nat.le_refl _)
  replace hv76 := cell_keep hb hv76 (Nat.le_refl _)
  replace hb0 := hb0.trans (hb.mono hb0.size)
  clear hb
  go_wp2_with fail
  refine (markRat_any _ _ _ _ _ _ _ _ _ _ _ _ _ s66 s68 d72 (by omega) (by omega) (by omega)).mono ?_
  rintro e w13 ⟨rfl, w14, s81, s82, hw, hw2⟩
  replace s14 := (s14.wr hw (by omega)).wr hw2 (by omega)
  replace s16 := (s16.wr hw (by omega)).wr hw2 (by omega)
  replace s77 := (s77.wr hw (by omega)).wr hw2 (by omega)
  replace s78 := (s78.wr hw (by omega)).wr hw2 (by omega)
  replace s79 := (s79.wr hw (by omega)).wr hw2 (by omega)
  replace s80 := (s80.wr hw (by omega)).wr hw2 (by omega)
  clear s66 s68
  replace hb0 := below_wr hb0 hw (by omega) hb0.size
  replace hb0 := below_wr hb0 hw2 (by omega) hb0.size
  have zw14 : w12.heap.size ≤ w14.heap.size := hw.size
  have zw13 : w14.heap.size ≤ w13.heap.size := hw2.size
  replace hx0_0 := cell_keep_wr hw2 (cell_keep_wr hw hx0_0 (by omega)) (by omega)
  replace hx0_1 := cell_keep_wr hw2 (cell_keep_wr hw hx0_1 (by omega)) (by omega)
  replace hx0_2 := cell_keep_wr hw2 (cell_keep_wr hw hx0_2 (by omega)) (by omega)
  replace hx1_0 := cell_keep_wr hw2 (cell_keep_wr hw hx1_0 (by omega)) (by omega)
  replace hx1_1 := cell_keep_wr hw2 (cell_keep_wr hw hx1_1 (by omega)) (by omega)
  replace hx1_2 := cell_keep_wr hw2 (cell_keep_wr hw hx1_2 (by omega)) (by omega)
  replace hv10 := cell_keep_wr hw2 (cell_keep_wr hw hv10 (by omega)) (by omega)
  replace hv11 := cell_keep_wr hw2 (cell_keep_wr hw hv11 (by omega)) (by omega)
  replace hv12 := cell_keep_wr hw2 (cell_keep_wr hw hv12 (by omega)) (by omega)
  replace hv35 := cell_keep_wr hw2 (cell_keep_wr hw hv35 (by omega)) (by omega)
  replace hv36 := cell_keep_wr hw2 (cell_keep_wr hw hv36 (by omega)) (by omega)
  replace hv37 := cell_keep_wr hw2 (cell_keep_wr hw hv37 (by omega)) (by omega)
  replace hv55 := cell_keep_wr hw2 (cell_keep_wr hw hv55 (by omega)) (by omega)
  replace hv56 := cell_keep_wr hw2 (cell_keep_wr hw hv56 (by omega)) (by omega)
  replace hv57 := cell_keep_wr hw2 (cell_keep_wr hw hv57 (by omega)) (by omega)
  replace hv74 := cell_keep_wr hw2 (cell_keep_wr hw hv74 (by omega)) (by omega)
  replace hv75 := cell_keep_wr hw2 (cell_keep_wr hw hv75 (by omega)) (by omega)
  replace hv76 := cell_keep_wr hw2 (cell_keep_wr hw hv76 (by omega)) (by omega)
  clear hw hw2
  go_wp2_with fail
  refine (heldRat_any _ _ _ _ _ _ _ _ _ s81.rd s82.rd (by omega) (by omega) (by omega)).mono ?_
  rintro e w15 ⟨rfl, hb⟩
  have zw15 : w13.heap.size ≤ w15.heap.size := hb.size
  replace s14 := s14.below hb s14.1
  replace s16 := s16.below hb s16.1
  replace s77 := s77.below hb s77.1
  replace s78 := s78.below hb s78.1
  replace s79 := s79.below hb s79.1
  replace s80 := s80.below hb s80.1
  replace s81 := s81.below hb s81.1
  replace s82 := s82.below hb s82.1
  replace hx0_0 := cell_keep hb hx0_0 (Nat.le_refl _)
  replace hx0_1 := cell_keep hb hx0_1 (Nat.le_refl _)
  replace hx0_2 := cell_keep hb hx0_2 (Nat.le_refl _)
  replace hx1_0 := cell_keep hb hx1_0 (Nat.le_refl _)
  replace hx1_1 := cell_keep hb hx1_1 (Nat.le_refl _)
  replace hx1_2 := cell_keep hb hx1_2 (Nat.le_refl _)
  replace hv10 := cell_keep hb hv10 (Nat.le_refl _)
  replace hv11 := cell_keep hb hv11 (Nat.le_refl _)
  replace hv12 := cell_keep hb hv12 (Nat.le_refl _)
  replace hv35 := cell_keep hb hv35 (Nat.le_refl _)
  replace hv36 := cell_keep hb hv36 (Nat.le_refl _)
  replace hv37 := cell_keep hb hv37 (Nat.le_refl _)
  replace hv55 := cell_keep hb hv55 (Nat.le_refl _)
  replace hv56 := cell_keep hb hv56 (Nat.le_refl _)
  replace hv57 := cell_keep hb hv57 (Nat.le_refl _)
  replace hv74 := cell_keep hb hv74 (Nat.le_refl _)
  replace hv75 := cell_keep hb hv75 (Nat.le_refl _)
  replace hv76 := cell_keep hb hv76 (Nat.le_refl _)
  replace hb0 := hb0.trans (hb.mono hb0.size)
  clear hb
  go_upto_region 31 with fail
  go_cut [15, 16] (fun t u wx => ∃ (kb : Nat) (ad : Option Addr) (cp : Nat) (bd : Option Addr) (dp lo up lo2 up2 : Nat), t = .pointer (some ⟨kb, 0, none⟩) ∧ u = .bool (fRatSub n0 xs0 ys0 n1 xs1 ys1).2 ∧ wx.cell? ⟨kb, 0, none⟩ = some (.bool (fRatSub n0 xs0 ys0 n1 xs1 ys1).1.1) ∧ wx.cell? ⟨kb, 1, none⟩ = some (.slice ad (fRatSub n0 xs0 ys0 n1 xs1 ys1).1.2.1.length cp) ∧ wx.cell? ⟨kb, 2, none⟩ = some (.slice bd (fRatSub n0 xs0 ys0 n1 xs1 ys1).1.2.2.length dp) ∧ Slot wx lo up ad cp (fRatSub n0 xs0 ys0 n1 xs1 ys1).1.2.1 ∧ (fRatSub n0 xs0 ys0 n1 xs1 ys1).1.2.1.length ≤ 50 ∧ Slot wx lo2 up2 bd dp (fRatSub n0 xs0 ys0 n1 xs1 ys1).1.2.2 ∧ (fRatSub n0 xs0 ys0 n1 xs1 ys1).1.2.2.length ≤ 50 ∧ Below w15.heap.size w15 wx)
  case first =>
    have hbq : Below w15.heap.size w15 (World.drew w15) := (Below.refl _ _).drew
    have np0 : w.heap.size < w15.heap.size := by omega
    have np1 : w.heap.size + 1 < w15.heap.size := by omega
    go_region_held3 (fun w' => w'.cell? ⟨w.heap.size, 0, none⟩ = some (.bool n0) ∧ w'.cell? ⟨w.heap.size, 1, none⟩ = some (.slice a0 xs0.length c0) ∧ w'.cell? ⟨w.heap.size, 2, none⟩ = some (.slice b0 ys0.length d0) ∧ w'.cell? ⟨w.heap.size + 1, 0, none⟩ = some (.bool n1) ∧ w'.cell? ⟨w.heap.size + 1, 1, none⟩ = some (.slice a1 xs1.length c1) ∧ w'.cell? ⟨w.heap.size + 1, 2, none⟩ = some (.slice b1 ys1.length d1))
      (first | (exact ⟨cell_keep hbq hx0_0 (Nat.le_refl _), cell_keep hbq hx0_1 (Nat.le_refl _), cell_keep hbq hx0_2 (Nat.le_refl _), cell_keep hbq hx1_0 (Nat.le_refl _), cell_keep hbq hx1_1 (Nat.le_refl _), cell_keep hbq hx1_2 (Nat.le_refl _)⟩) | (exact ⟨hx0_0, hx0_1, hx0_2, hx1_0, hx1_1, hx1_2⟩) | (exact ⟨cell_keep (bel_alloc _ _) (cell_keep hbq hx0_0 (Nat.le_refl _)) (Nat.le_refl _), cell_keep (bel_alloc _ _) (cell_keep hbq hx0_1 (Nat.le_refl _)) (Nat.le_refl _), cell_keep (bel_alloc _ _) (cell_keep hbq hx0_2 (Nat.le_refl _)) (Nat.le_refl _), cell_keep (bel_alloc _ _) (cell_keep hbq hx1_0 (Nat.le_refl _)) (Nat.le_refl _), cell_keep (bel_alloc _ _) (cell_keep hbq hx1_1 (Nat.le_refl _)) (Nat.le_refl _), cell_keep (bel_alloc _ _) (cell_keep hbq hx1_2 (Nat.le_refl _)) (Nat.le_refl _)⟩) | (exact ⟨cell_keep (bel_alloc _ _) hx0_0 (Nat.le_refl _), cell_keep (bel_alloc _ _) hx0_1 (Nat.le_refl _), cell_keep (bel_alloc _ _) hx0_2 (Nat.le_refl _), cell_keep (bel_alloc _ _) hx1_0 (Nat.le_refl _), cell_keep (bel_alloc _ _) hx1_1 (Nat.le_refl _), cell_keep (bel_alloc _ _) hx1_2 (Nat.le_refl _)⟩) | (exact ⟨far3 (ne_blk hLn np0) (cell_keep hbq hx0_0 (Nat.le_refl _)), far3 (ne_blk hLn np0) (cell_keep hbq hx0_1 (Nat.le_refl _)), far3 (ne_blk hLn np0) (cell_keep hbq hx0_2 (Nat.le_refl _)), far3 (ne_blk hLn np1) (cell_keep hbq hx1_0 (Nat.le_refl _)), far3 (ne_blk hLn np1) (cell_keep hbq hx1_1 (Nat.le_refl _)), far3 (ne_blk hLn np1) (cell_keep hbq hx1_2 (Nat.le_refl _))⟩) | go_keep)
      (first | (go_at_call 45; (try ((with_reducible show Calls _ _ _ (World.alloc _ _) _); have gq := alloc_step3 hbq (.bool false) (.slice none 0 0) (.slice none 0 0) 31; replace hbq := gq.1; have hL := gq.2.1; have hLn := gq.2.2; clear gq; (try replace s0Q := s0Q.below (bel_alloc _ (.cells #[.bool false, .slice none 0 0, .slice none 0 0] 31)) s0Q.1); (try replace s0R := s0R.below (bel_alloc _ (.cells #[.bool false, .slice none 0 0, .slice none 0 0] 31)) s0R.1); (try replace s1Q := s1Q.below (bel_alloc _ (.cells #[.bool false, .slice none 0 0, .slice none 0 0] 31)) s1Q.1); (try replace s1R := s1R.below (bel_alloc _ (.cells #[.bool false, .slice none 0 0, .slice none 0 0] 31)) s1R.1))); (try have hLt := hL.lt); have zq := hbq.size; refine (impl_RatSub _ _ _ _ _ _ _ _ _ _ _ _ _ _ _ (Slot.inn s0Q (by omega)) (Slot.inn s0R (by omega)) (Slot.inn s1Q (by omega)) (Slot.inn s1R (by omega))).mono ?_; rintro e qC ⟨⟨adC, cpC, bdC, dpC, loC, upC, loD, upD, rfl, oC1, nC1, oC2, nC2, kC1, kC2, -⟩, hq⟩; (try replace s0Q := s0Q.below hq s0Q.1); (try replace s0R := s0R.below hq s0R.1); (try replace s1Q := s1Q.below hq s1Q.1); (try replace s1R := s1R.below hq s1R.1); (try replace hL := hL.below hq (Nat.le_refl _)); have zs := hq.size; replace hbq := hbq.trans (hq.mono hbq.size); clear hq; (try (have hLL := hL; obtain ⟨⟨lc0, lc1, lc2⟩, lf0, lf1, lf2⟩ := hLL))) | (go_at_call 17; (try ((with_reducible show Calls _ _ _ (World.alloc _ _) _); have gq := alloc_step3 hbq (.bool false) (.slice none 0 0) (.slice none 0 0) 31; replace hbq := gq.1; have hL := gq.2.1; have hLn := gq.2.2; clear gq; (try replace s0Q := s0Q.below (bel_alloc _ (.cells #[.bool false, .slice none 0 0, .slice none 0 0] 31)) s0Q.1); (try replace s0R := s0R.below (bel_alloc _ (.cells #[.bool false, .slice none 0 0, .slice none 0 0] 31)) s0R.1); (try replace s1Q := s1Q.below (bel_alloc _ (.cells #[.bool false, .slice none 0 0, .slice none 0 0] 31)) s1Q.1); (try replace s1R := s1R.below (bel_alloc _ (.cells #[.bool false, .slice none 0 0, .slice none 0 0] 31)) s1R.1))); (try ((with_reducible show Calls _ _ _ (World.drew (World.alloc _ _)) _); have gq := alloc_drew3 w15 (.bool false) (.slice none 0 0) (.slice none 0 0) 31; replace hbq := gq.1; have hL := gq.2.1; have hLn := gq.2.2; clear gq)); (with_reducible show Calls _ _ #[Value.agg #[Value.bool n0, _, _]] _ _); refine (toRat_any n0 a0 c0 xs0 b0 d0 ys0 _ (hp0.1.1.below (hb0.trans (hbq.mono hb0.size)) (Nat.le_refl _)) (hp0.2.1.below (hb0.trans (hbq.mono hb0.size)) (Nat.le_refl _)) (by omega) (by omega)).mono ?_; rintro e q0 ⟨⟨ad0Q, cp0Q, bd0Q, dp0Q, lo0Q, up0Q, lo0R, up0R, rfl, s0Q, s0R, -, -, -⟩, hq⟩; (try replace s1Q := s1Q.below hq s1Q.1); (try replace s1R := s1R.below hq s1R.1); (try replace oC1 := oC1.below hq (Nat.le_refl _)); (try replace oC2 := oC2.below hq (Nat.le_refl _)); (try replace hL := hL.below hq (Nat.le_refl _)); have zs := hq.size; replace hbq := hbq.trans (hq.mono hbq.size); clear hq) | (go_at_call 17; (try ((with_reducible show Calls _ _ _ (World.alloc _ _) _); have gq := alloc_step3 hbq (.bool false) (.slice none 0 0) (.slice none 0 0) 31; replace hbq := gq.1; have hL := gq.2.1; have hLn := gq.2.2; clear gq; (try replace s0Q := s0Q.below (bel_alloc _ (.cells #[.bool false, .slice none 0 0, .slice none 0 0] 31)) s0Q.1); (try replace s0R := s0R.below (bel_alloc _ (.cells #[.bool false, .slice none 0 0, .slice none 0 0] 31)) s0R.1); (try replace s1Q := s1Q.below (bel_alloc _ (.cells #[.bool false, .slice none 0 0, .slice none 0 0] 31)) s1Q.1); (try replace s1R := s1R.below (bel_alloc _ (.cells #[.bool false, .slice none 0 0, .slice none 0 0] 31)) s1R.1))); (try ((with_reducible show Calls _ _ _ (World.drew (World.alloc _ _)) _); have gq := alloc_drew3 w15 (.bool false) (.slice none 0 0) (.slice none 0 0) 31; replace hbq := gq.1; have hL := gq.2.1; have hLn := gq.2.2; clear gq)); (with_reducible show Calls _ _ #[Value.agg #[Value.bool n1, _, _]] _ _); refine (toRat_any n1 a1 c1 xs1 b1 d1 ys1 _ (hp1.1.1.below (hb0.trans (hbq.mono hb0.size)) (Nat.le_refl _)) (hp1.2.1.below (hb0.trans (hbq.mono hb0.size)) (Nat.le_refl _)) (by omega) (by omega)).mono ?_; rintro e q1 ⟨⟨ad1Q, cp1Q, bd1Q, dp1Q, lo1Q, up1Q, lo1R, up1R, rfl, s1Q, s1R, -, -, -⟩, hq⟩; (try replace s0Q := s0Q.below hq s0Q.1); (try replace s0R := s0R.below hq s0R.1); (try replace oC1 := oC1.below hq (Nat.le_refl _)); (try replace oC2 := oC2.below hq (Nat.le_refl _)); (try replace hL := hL.below hq (Nat.le_refl _)); have zs := hq.size; replace hbq := hbq.trans (hq.mono hbq.size); clear hq))
    all_goals (go_wp2_with fail; go_meet; first | (have gL := hL; exact ⟨_, _, _, _, _, _, _, _, _, rfl, rfl, set3_cell0 lc0, set3_cell1 lc1, set3_cell2 lc2, oC1.set3 (by omega), nC1, oC2.set3 (by omega), nC2, set3_below hbq hLn⟩) | (exact ⟨_, _, _, _, _, _, _, _, _, rfl, rfl, cell_box _ _ _ _ 0 _ rfl rfl, cell_box _ _ _ _ 1 _ rfl rfl, cell_box _ _ _ _ 2 _ rfl rfl, oC1.below (bel_alloc _ _) oC1.1, nC1, oC2.below (bel_alloc _ _) oC2.1, nC2, hbq.trans ((bel_alloc _ _).mono hbq.size)⟩))
  case rest =>
  obtain ⟨kb83, ad84, cp85, bd86, dp87, lo95, up96, lo97, up98, rfl, rfl, hv92, hv93, hv94, ho88, hn89, ho90, hn91, hb⟩ := hcut
  obtain ⟨w16, hW⟩ : ∃ x : World, x = wc := ⟨_, rfl⟩
  rw [← hW] at hv92 hv93 hv94 ho88 ho90 hb ⊢
  clear hW
  have zk99 : kb83 < w16.heap.size := World.block_lt_of_cell? w16 ⟨kb83, 0, none⟩ hv92
  have zw16 : w15.heap.size ≤ w16.heap.size := hb.size
  replace s14 := s14.below hb s14.1
  replace s16 := s16.below hb s16.1
  replace s77 := s77.below hb s77.1
  replace s78 := s78.below hb s78.1
  replace s79 := s79.below hb s79.1
  replace s80 := s80.below hb s80.1
  replace s81 := s81.below hb s81.1
  replace s82 := s82.below hb s82.1
  replace hx0_0 := cell_keep hb hx0_0 (Nat.le_refl _)
  replace hx0_1 := cell_keep hb hx0_1 (Nat.le_refl _)
  replace hx0_2 := cell_keep hb hx0_2 (Nat.le_refl _)
  replace hx1_0 := cell_keep hb hx1_0 (Nat.le_refl _)
  replace hx1_1 := cell_keep hb hx1_1 (Nat.le_refl _)
  replace hx1_2 := cell_keep hb hx1_2 (Nat.le_refl _)
  replace hv10 := cell_keep hb hv10 (Nat.le_refl _)
  replace hv11 := cell_keep hb hv11 (Nat.le_refl _)
  replace hv12 := cell_keep hb hv12 (Nat.le_refl _)
  replace hv35 := cell_keep hb hv35 (Nat.le_refl _)
  replace hv36 := cell_keep hb hv36 (Nat.le_refl _)
  replace hv37 := cell_keep hb hv37 (Nat.le_refl _)
  replace hv55 := cell_keep hb hv55 (Nat.le_refl _)
  replace hv56 := cell_keep hb hv56 (Nat.le_refl _)
  replace hv57 := cell_keep hb hv57 (Nat.le_refl _)
  replace hv74 := cell_keep hb hv74 (Nat.le_refl _)
  replace hv75 := cell_keep hb hv75 (Nat.le_refl _)
  replace hv76 := cell_keep hb hv76 (Nat.le_refl _)
  replace hb0 := hb0.trans (hb.mono hb0.size)
  clear hb
  go_wp2_with fail
  refine (eqRat_same _ _ _ _ _ _ _ _ _ _ _ _ ho88.rd s14.rd ho90.rd s16.rd (by omega) (by omega)).mono ?_
  rintro e w17 ⟨rfl, hb⟩
  have zw17 : w16.heap.size ≤ w17.heap.size := hb.size
  replace s14 := s14.below hb s14.1
  replace s16 := s16.below hb s16.1
  replace s77 := s77.below hb s77.1
  replace s78 := s78.below hb s78.1
  replace s79 := s79.below hb s79.1
  replace s80 := s80.below hb s80.1
  replace s81 := s81.below hb s81.1
  replace s82 := s82.below hb s82.1
  replace ho88 := ho88.below hb ho88.1
  replace ho90 := ho90.below hb ho90.1
  replace hx0_0 := cell_keep hb hx0_0 (Nat.le_refl _)
  replace hx0_1 := cell_keep hb hx0_1 (Nat.le_refl _)
  replace hx0_2 := cell_keep hb hx0_2 (Nat.le_refl _)
  replace hx1_0 := cell_keep hb hx1_0 (Nat.le_refl _)
  replace hx1_1 := cell_keep hb hx1_1 (Nat.le_refl _)
  replace hx1_2 := cell_keep hb hx1_2 (Nat.le_refl _)
  replace hv10 := cell_keep hb hv10 (Nat.le_refl _)
  replace hv11 := cell_keep hb hv11 (Nat.le_refl _)
  replace hv12 := cell_keep hb hv12 (Nat.le_refl _)
  replace hv35 := cell_keep hb hv35 (Nat.le_refl _)
  replace hv36 := cell_keep hb hv36 (Nat.le_refl _)
  replace hv37 := cell_keep hb hv37 (Nat.le_refl _)
  replace hv55 := cell_keep hb hv55 (Nat.le_refl _)
  replace hv56 := cell_keep hb hv56 (Nat.le_refl _)
  replace hv57 := cell_keep hb hv57 (Nat.le_refl _)
  replace hv74 := cell_keep hb hv74 (Nat.le_refl _)
  replace hv75 := cell_keep hb hv75 (Nat.le_refl _)
  replace hv76 := cell_keep hb hv76 (Nat.le_refl _)
  replace hv92 := cell_keep hb hv92 (Nat.le_refl _)
  replace hv93 := cell_keep hb hv93 (Nat.le_refl _)
  replace hv94 := cell_keep hb hv94 (Nat.le_refl _)
  replace hb0 := hb0.trans (hb.mono hb0.size)
  clear hb
  go_wp2_with fail
  refine (heldRat_any _ _ _ _ _ _ _ _ _ s81.rd s82.rd (by omega) (by omega) (by omega)).mono ?_
  rintro e w18 ⟨rfl, hb⟩
  have zw18 : w17.heap.size ≤ w18.heap.size := hb.size
  replace s14 := s14.below hb s14.1
  replace s16 := s16.below hb s16.1
  replace s77 := s77.below hb s77.1
  replace s78 := s78.below hb s78.1
  replace s79 := s79.below hb s79.1
  replace s80 := s80.below hb s80.1
  replace s81 := s81.below hb s81.1
  replace s82 := s82.below hb s82.1
  replace ho88 := ho88.below hb ho88.1
  replace ho90 := ho90.below hb ho90.1
  replace hx0_0 := cell_keep hb hx0_0 (Nat.le_refl _)
  replace hx0_1 := cell_keep hb hx0_1 (Nat.le_refl _)
  replace hx0_2 := cell_keep hb hx0_2 (Nat.le_refl _)
  replace hx1_0 := cell_keep hb hx1_0 (Nat.le_refl _)
  replace hx1_1 := cell_keep hb hx1_1 (Nat.le_refl _)
  replace hx1_2 := cell_keep hb hx1_2 (Nat.le_refl _)
  replace hv10 := cell_keep hb hv10 (Nat.le_refl _)
  replace hv11 := cell_keep hb hv11 (Nat.le_refl _)
  replace hv12 := cell_keep hb hv12 (Nat.le_refl _)
  replace hv35 := cell_keep hb hv35 (Nat.le_refl _)
  replace hv36 := cell_keep hb hv36 (Nat.le_refl _)
  replace hv37 := cell_keep hb hv37 (Nat.le_refl _)
  replace hv55 := cell_keep hb hv55 (Nat.le_refl _)
  replace hv56 := cell_keep hb hv56 (Nat.le_refl _)
  replace hv57 := cell_keep hb hv57 (Nat.le_refl _)
  replace hv74 := cell_keep hb hv74 (Nat.le_refl _)
  replace hv75 := cell_keep hb hv75 (Nat.le_refl _)
  replace hv76 := cell_keep hb hv76 (Nat.le_refl _)
  replace hv92 := cell_keep hb hv92 (Nat.le_refl _)
  replace hv93 := cell_keep hb hv93 (Nat.le_refl _)
  replace hv94 := cell_keep hb hv94 (Nat.le_refl _)
  replace hb0 := hb0.trans (hb.mono hb0.size)
  clear hb
  go_wp2
  go_ret
  exact ⟨rfl, hb0⟩

theorem own : ownKnob Try.prog.godebug = none := by kernel_rfl
theorem laidOut : laidOutB Try.prog = true := by kernel_rfl
set_option maxRecDepth 100000 in
theorem lifted (os : Os) (started : os.Started) (H : Type) (enc : TypeId × Value → H) :
    ReturnsInHanded {} Try.checked os 13 .any (Rows.fnExactRatSubSpec.pre6 enc Try.prog Try.f13 Rows.fnExactRatSubRow.domain false) (Rows.fnExactRatSubSpec.post enc Try.prog Try.f13 false true false false) := by
  refine returnsInHanded_of_change (C := Try.checked) own started (by kernel_rfl) Try.func13
    (ChangeSpec.witness6 (enc := enc) (C := Try.checked) false ⟨#[], #[.agg #[.bool false, .slice none 0 0, .slice none 0 0], .agg #[.bool false, .slice none 0 0, .slice none 0 0]], []⟩ 8 (by kernel_rfl) (by kernel_rfl) (by kernel_rfl) (by kernel_rfl)) ?_
  intro W base args ds gs before hval0 hW hcnd _
  have hval : ∀ (j : Nat) t v, Try.f13.params[j]? = some t → args[j]? = some v → Value.okWide Try.prog W .any base t v := hval0
  have hW' := hW
  obtain ⟨p, q, hA0, hV, rfl, hfz, hnd⟩ := hW
  have hA : DataW.TrodAll enc Try.prog W 0 (fun _ => true) true Try.f13.params.toList args.toList ds p := hA0
  rw [Try.params13] at hA hval
  obtain ⟨v0, vs0, d0, ds0, p0, q0, hargs, rfl, rfl, h0, r0⟩ := trodAll_cons hA
  obtain ⟨v1, vs1, d1, ds1, p1, q1, rfl, rfl, rfl, h1, r1⟩ := trodAll_cons r0
  obtain ⟨rfl, rfl, rfl⟩ := trodAll_nil r1
  obtain rfl : args = #[v0, v1] := by cases args; simp_all
  obtain ⟨rfl, rfl⟩ := trodVars_none hV
  have k0 := h0
  have lt0 : ∀ x ∈ p0, x.block < W.heap.size := by obtain ⟨m, hm⟩ := k0; exact DataW.trod_lt m _ _ _ hm
  have k1 := h1
  have lt1 : ∀ x ∈ p1, x.block < W.heap.size := by obtain ⟨m, hm⟩ := k1; exact DataW.trod_lt m _ _ _ hm
  obtain ⟨n0, a0, cap0, xs0, b0, dap0, ys0, rfl, w0⟩ := open_rat (hval 0 26 v0 rfl rfl) h0 rfl
  obtain ⟨n1, a1, cap1, xs1, b1, dap1, ys1, rfl, w1⟩ := open_rat (hval 1 26 v1 rfl rfl) h1 rfl
  clear hA0 hval0
  refine (walk n0 a0 cap0 xs0 b0 dap0 ys0 n1 a1 cap1 xs1 b1 dap1 ys1 W w0 w1).mono fun e W' ⟨he, bel⟩ => ?_
  subst he
  exact ⟨_, rfl, _, _, _, [], _, [], hW', trodAll_mk1 (shut_bool Try.underlying4 _), (trodAll_cons_mk (Below.trod laidOut (by kernel_rfl) (of_decide_eq_true (by kernel_rfl)) k0 bel lt0) (trodAll_cons_mk (Below.trod laidOut (by kernel_rfl) (of_decide_eq_true (by kernel_rfl)) k1 bel lt1) trodAll_mk0)), rfl, bel.frame _, fun h => by cases h⟩

theorem over : Rows.fnExactRatSubRow.holds Try.pinned (OpenSpec.ofChange Rows.fnExactRatSubSpec) :=
  OpenClaim.holds_of_wide 13 Try.f13 rfl rfl rfl rfl rfl rfl rfl ⟨rfl, rfl, rfl, rfl, rfl⟩ rfl rfl rfl rfl rfl (by kernel_rfl) Try.func13 (by kernel_rfl)
    (of_decide_eq_true (by kernel_rfl)) (by unfold Func.isWrapper; first | (rw [if_pos (by decide +kernel)]; kernel_rfl) | (rw [if_neg (by decide +kernel)]; exact ⟨rfl, rfl⟩))
    (fun os started H enc _ => lifted os started H enc)

theorem proved : Rows.FnExactRatSubSaid := over
#print axioms proved
end Go.Proofs.Ytoandabopahmhaa.fnExactRatSub
