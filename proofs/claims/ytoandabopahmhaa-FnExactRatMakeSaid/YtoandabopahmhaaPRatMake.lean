/- The law FnExactRatMake answers true at every input. No condition. (The walk is printed by gen_law.py off the law's text.) -/
import Derived.Test.YtoandabopahmhaaRows
import Derived.Test.YtoandabopahmhaaWRatMake
import Derived.Test.YtoandabopahmhaaWRatMakeS
import Derived.Test.YtoandabopahmhaaWRatD
import Derived.ProofKit
import Derived.OpenShut
import Derived.ShutString
import Derived.ChangeOld
import Derived.Lib.SmallJoins
import Derived.Deep.RegionWith
import Derived.Deep.RegionHeld3
import Derived.Deep.DeepCutAuto
import Derived.Below
namespace Go.Proofs.Ytoandabopahmhaa.fnExactRatMake
open Go.ChangeShapes Go.WideShapes Go.ChangeAt Go.RowKit
open Go.ChangeMaps (open_string shut_string)
set_option linter.unusedVariables false

set_option maxRecDepth 100000 in
set_option maxHeartbeats 40000000 in
theorem walk (n0 : Bool) (a0 : Option Addr) (c0 : Nat) (xs0 : List Int) (n1 : Bool) (a1 : Option Addr) (c1 : Nat) (xs1 : List Int) (w : World) (hp0 : Rd w a0 xs0 ∧ xs0.length ≤ maxLen) (hp1 : Rd w a1 xs1 ∧ xs1.length ≤ maxLen) :
    Calls Try.prog 6 #[.agg #[.bool n0, .slice a0 xs0.length c0], .agg #[.bool n1, .slice a1 xs1.length c1]] w fun e w' => e = .returned (.bool true) ∧ Below w.heap.size w w' := by
  have hb0 := Below.refl w.heap.size w
  have hm0 := hp0.2
  unfold maxLen at hm0
  have hm1 := hp1.2
  unfold maxLen at hm1
  by_cases hs0 : (xs0.length : Int) ≤ 1048576
  rotate_left
  · replace hb0 := hb0.trans ((bel_alloc w (.cells #[.bool n0, .slice a0 xs0.length c0] 24)).mono (by simp))
    replace hb0 := hb0.trans ((bel_alloc _ (.cells #[.bool n1, .slice a1 xs1.length c1] 24)).mono (by simp; try omega))
    have zbox : w.heap.size + 2 ≤ ((World.alloc (World.alloc w (.cells #[.bool n0, .slice a0 xs0.length c0] 24)) (.cells #[.bool n1, .slice a1 xs1.length c1] 24))).heap.size := by simp
    go_enter Try.func6, Try.ntmps6
    go_wp2_with fail
    refine (szSigned_no _ _ _ _ _ _ (by omega) (by omega) (by omega) hp0.2).mono ?_
    rintro e wz ⟨rfl, hbz⟩
    replace hb0 := hb0.trans (hbz.mono hb0.size)
    go_wp2
    go_ret
    exact ⟨rfl, hb0⟩
  by_cases hs1 : (xs1.length : Int) ≤ 1048576 - (xs0.length : Int)
  rotate_left
  · replace hb0 := hb0.trans ((bel_alloc w (.cells #[.bool n0, .slice a0 xs0.length c0] 24)).mono (by simp))
    replace hb0 := hb0.trans ((bel_alloc _ (.cells #[.bool n1, .slice a1 xs1.length c1] 24)).mono (by simp; try omega))
    have zbox : w.heap.size + 2 ≤ ((World.alloc (World.alloc w (.cells #[.bool n0, .slice a0 xs0.length c0] 24)) (.cells #[.bool n1, .slice a1 xs1.length c1] 24))).heap.size := by simp
    go_enter Try.func6, Try.ntmps6
    go_wp2_with fail
    refine (szSigned_yes _ _ _ _ _ _ (by omega) (by omega)).mono ?_
    rintro e wz0 ⟨rfl, hb⟩
    have zwz0 : (World.alloc (World.alloc w (.cells #[.bool n0, .slice a0 xs0.length c0] 24)) (.cells #[.bool n1, .slice a1 xs1.length c1] 24)).heap.size ≤ wz0.heap.size := hb.size
    have hx0_0 : wz0.cell? ⟨w.heap.size, 0, none⟩ = some (.bool n0) := cell_keep hb (cell_keep (bel_alloc _ (.cells #[.bool n1, .slice a1 xs1.length c1] 24)) (cell_box w _ _ _ 0 _ (by simp) rfl) (Nat.le_refl _)) (Nat.le_refl _)
    have hx0_1 : wz0.cell? ⟨w.heap.size, 1, none⟩ = some (.slice a0 xs0.length c0) := cell_keep hb (cell_keep (bel_alloc _ (.cells #[.bool n1, .slice a1 xs1.length c1] 24)) (cell_box w _ _ _ 1 _ (by simp) rfl) (Nat.le_refl _)) (Nat.le_refl _)
    have hx1_0 : wz0.cell? ⟨w.heap.size + 1, 0, none⟩ = some (.bool n1) := cell_keep hb (cell_box (World.alloc w (.cells #[.bool n0, .slice a0 xs0.length c0] 24)) _ _ _ 0 _ (by simp) rfl) (Nat.le_refl _)
    have hx1_1 : wz0.cell? ⟨w.heap.size + 1, 1, none⟩ = some (.slice a1 xs1.length c1) := cell_keep hb (cell_box (World.alloc w (.cells #[.bool n0, .slice a0 xs0.length c0] 24)) _ _ _ 1 _ (by simp) rfl) (Nat.le_refl _)
    replace hb0 := hb0.trans (hb.mono hb0.size)
    clear hb
    go_wp2_with fail
    refine (szSigned_no _ _ _ _ _ _ (by omega) (by omega) (by omega) hp1.2).mono ?_
    rintro e wz ⟨rfl, hbz⟩
    replace hb0 := hb0.trans (hbz.mono hb0.size)
    go_wp2
    go_ret
    exact ⟨rfl, hb0⟩
  replace hb0 := hb0.trans ((bel_alloc w (.cells #[.bool n0, .slice a0 xs0.length c0] 24)).mono (by simp))
  replace hb0 := hb0.trans ((bel_alloc _ (.cells #[.bool n1, .slice a1 xs1.length c1] 24)).mono (by simp; try omega))
  have zbox : w.heap.size + 2 ≤ ((World.alloc (World.alloc w (.cells #[.bool n0, .slice a0 xs0.length c0] 24)) (.cells #[.bool n1, .slice a1 xs1.length c1] 24))).heap.size := by simp
  go_enter Try.func6, Try.ntmps6
  go_wp2_with fail
  refine (szSigned_yes _ _ _ _ _ _ (by omega) (by omega)).mono ?_
  rintro e wz0 ⟨rfl, hb⟩
  have zwz0 : (World.alloc (World.alloc w (.cells #[.bool n0, .slice a0 xs0.length c0] 24)) (.cells #[.bool n1, .slice a1 xs1.length c1] 24)).heap.size ≤ wz0.heap.size := hb.size
  have hx0_0 : wz0.cell? ⟨w.heap.size, 0, none⟩ = some (.bool n0) := cell_keep hb (cell_keep (bel_alloc _ (.cells #[.bool n1, .slice a1 xs1.length c1] 24)) (cell_box w _ _ _ 0 _ (by simp) rfl) (Nat.le_refl _)) (Nat.le_refl _)
  have hx0_1 : wz0.cell? ⟨w.heap.size, 1, none⟩ = some (.slice a0 xs0.length c0) := cell_keep hb (cell_keep (bel_alloc _ (.cells #[.bool n1, .slice a1 xs1.length c1] 24)) (cell_box w _ _ _ 1 _ (by simp) rfl) (Nat.le_refl _)) (Nat.le_refl _)
  have hx1_0 : wz0.cell? ⟨w.heap.size + 1, 0, none⟩ = some (.bool n1) := cell_keep hb (cell_box (World.alloc w (.cells #[.bool n0, .slice a0 xs0.length c0] 24)) _ _ _ 0 _ (by simp) rfl) (Nat.le_refl _)
  have hx1_1 : wz0.cell? ⟨w.heap.size + 1, 1, none⟩ = some (.slice a1 xs1.length c1) := cell_keep hb (cell_box (World.alloc w (.cells #[.bool n0, .slice a0 xs0.length c0] 24)) _ _ _ 1 _ (by simp) rfl) (Nat.le_refl _)
  replace hb0 := hb0.trans (hb.mono hb0.size)
  clear hb
  go_wp2_with fail
  refine (szSigned_yes _ _ _ _ _ _ (by omega) (by omega)).mono ?_
  rintro e wz1 ⟨rfl, hb⟩
  have zwz1 : wz0.heap.size ≤ wz1.heap.size := hb.size
  replace hx0_0 := cell_keep hb hx0_0 (Nat.le_refl _)
  replace hx0_1 := cell_keep hb hx0_1 (Nat.le_refl _)
  replace hx1_0 := cell_keep hb hx1_0 (Nat.le_refl _)
  replace hx1_1 := cell_keep hb hx1_1 (Nat.le_refl _)
  replace hb0 := hb0.trans (hb.mono hb0.size)
  clear hb
  go_upto_region 8 with fail
  go_cut [6, 7] (fun t u wx => ∃ (kb : Nat) (ad : Option Addr) (cp : Nat) (bd : Option Addr) (dp : Nat), t = .pointer (some ⟨kb, 0, none⟩) ∧ u = .bool (fRatMake n0 xs0 n1 xs1).2 ∧ wx.cell? ⟨kb, 0, none⟩ = some (.bool (fRatMake n0 xs0 n1 xs1).1.1) ∧ wx.cell? ⟨kb, 1, none⟩ = some (.slice ad (fRatMake n0 xs0 n1 xs1).1.2.1.length cp) ∧ wx.cell? ⟨kb, 2, none⟩ = some (.slice bd (fRatMake n0 xs0 n1 xs1).1.2.2.length dp) ∧ Own wx wz1.heap.size ad cp (fRatMake n0 xs0 n1 xs1).1.2.1 ∧ (fRatMake n0 xs0 n1 xs1).1.2.1.length ≤ 50 ∧ Own wx wz1.heap.size bd dp (fRatMake n0 xs0 n1 xs1).1.2.2 ∧ (fRatMake n0 xs0 n1 xs1).1.2.2.length ≤ 50 ∧ Below wz1.heap.size wz1 wx)
  case first =>
    have hbq : Below wz1.heap.size wz1 (World.drew wz1) := (Below.refl _ _).drew
    have np0 : w.heap.size < wz1.heap.size := by omega
    have np1 : w.heap.size + 1 < wz1.heap.size := by omega
    go_region_held3 (fun w' => w'.cell? ⟨w.heap.size, 0, none⟩ = some (.bool n0) ∧ w'.cell? ⟨w.heap.size, 1, none⟩ = some (.slice a0 xs0.length c0) ∧ w'.cell? ⟨w.heap.size + 1, 0, none⟩ = some (.bool n1) ∧ w'.cell? ⟨w.heap.size + 1, 1, none⟩ = some (.slice a1 xs1.length c1))
      (first | (exact ⟨cell_keep hbq hx0_0 (Nat.le_refl _), cell_keep hbq hx0_1 (Nat.le_refl _), cell_keep hbq hx1_0 (Nat.le_refl _), cell_keep hbq hx1_1 (Nat.le_refl _)⟩) | (exact ⟨hx0_0, hx0_1, hx1_0, hx1_1⟩) | (exact ⟨cell_keep (bel_alloc _ _) (cell_keep hbq hx0_0 (Nat.le_refl _)) (Nat.le_refl _), cell_keep (bel_alloc _ _) (cell_keep hbq hx0_1 (Nat.le_refl _)) (Nat.le_refl _), cell_keep (bel_alloc _ _) (cell_keep hbq hx1_0 (Nat.le_refl _)) (Nat.le_refl _), cell_keep (bel_alloc _ _) (cell_keep hbq hx1_1 (Nat.le_refl _)) (Nat.le_refl _)⟩) | (exact ⟨cell_keep (bel_alloc _ _) hx0_0 (Nat.le_refl _), cell_keep (bel_alloc _ _) hx0_1 (Nat.le_refl _), cell_keep (bel_alloc _ _) hx1_0 (Nat.le_refl _), cell_keep (bel_alloc _ _) hx1_1 (Nat.le_refl _)⟩) | (exact ⟨far3 (ne_blk hLn np0) (cell_keep hbq hx0_0 (Nat.le_refl _)), far3 (ne_blk hLn np0) (cell_keep hbq hx0_1 (Nat.le_refl _)), far3 (ne_blk hLn np1) (cell_keep hbq hx1_0 (Nat.le_refl _)), far3 (ne_blk hLn np1) (cell_keep hbq hx1_1 (Nat.le_refl _))⟩) | go_keep)
      (first | (go_at_call 25; (try ((with_reducible show Calls _ _ _ (World.alloc _ _) _); have gq := alloc_step3 hbq (.bool false) (.slice none 0 0) (.slice none 0 0) 31; replace hbq := gq.1; have hL := gq.2.1; have hLn := gq.2.2; clear gq; (try replace o0Q := o0Q.alloc (.cells #[.bool false, .slice none 0 0, .slice none 0 0] 31)); (try replace o1Q := o1Q.alloc (.cells #[.bool false, .slice none 0 0, .slice none 0 0] 31)))); (try have hLt := hL.lt); have zq := hbq.size; refine (spec_RatMake _ _ _ _ _ _ _ _ _ (Own.inn o0Q (by omega)) (Own.inn o1Q (by omega))).mono ?_; rintro e qC ⟨⟨adC, cpC, bdC, dpC, rfl, oC1, nC1, oC2, nC2⟩, hq⟩; (try replace o0Q := o0Q.below hq (Nat.le_refl _)); (try replace o1Q := o1Q.below hq (Nat.le_refl _)); (try replace hL := hL.below hq (Nat.le_refl _)); have zs := hq.size; replace hbq := hbq.trans (hq.mono hbq.size); clear hq; (try (have hLL := hL; obtain ⟨⟨lc0, lc1, lc2⟩, lf0, lf1, lf2⟩ := hLL))) | (go_at_call 26; (try ((with_reducible show Calls _ _ _ (World.alloc _ _) _); have gq := alloc_step3 hbq (.bool false) (.slice none 0 0) (.slice none 0 0) 31; replace hbq := gq.1; have hL := gq.2.1; have hLn := gq.2.2; clear gq; (try replace o0Q := o0Q.alloc (.cells #[.bool false, .slice none 0 0, .slice none 0 0] 31)); (try replace o1Q := o1Q.alloc (.cells #[.bool false, .slice none 0 0, .slice none 0 0] 31)))); (try ((with_reducible show Calls _ _ _ (World.drew (World.alloc _ _)) _); have gq := alloc_drew3 wz1 (.bool false) (.slice none 0 0) (.slice none 0 0) 31; replace hbq := gq.1; have hL := gq.2.1; have hLn := gq.2.2; clear gq)); (with_reducible show Calls _ _ #[Value.agg #[Value.bool n0, _]] _ _); refine (toSigned_any n0 a0 c0 xs0 _ (hp0.1.below (hb0.trans (hbq.mono hb0.size)) (Nat.le_refl _)) (by omega)).mono ?_; rintro e q0 ⟨⟨ad0Q, cp0Q, rfl, o0Q⟩, hq⟩; (try replace o1Q := o1Q.below hq (Nat.le_refl _)); (try replace oC1 := oC1.below hq (Nat.le_refl _)); (try replace oC2 := oC2.below hq (Nat.le_refl _)); (try replace hL := hL.below hq (Nat.le_refl _)); have zs := hq.size; replace hbq := hbq.trans (hq.mono hbq.size); clear hq) | (go_at_call 26; (try ((with_reducible show Calls _ _ _ (World.alloc _ _) _); have gq := alloc_step3 hbq (.bool false) (.slice none 0 0) (.slice none 0 0) 31; replace hbq := gq.1; have hL := gq.2.1; have hLn := gq.2.2; clear gq; (try replace o0Q := o0Q.alloc (.cells #[.bool false, .slice none 0 0, .slice none 0 0] 31)); (try replace o1Q := o1Q.alloc (.cells #[.bool false, .slice none 0 0, .slice none 0 0] 31)))); (try ((with_reducible show Calls _ _ _ (World.drew (World.alloc _ _)) _); have gq := alloc_drew3 wz1 (.bool false) (.slice none 0 0) (.slice none 0 0) 31; replace hbq := gq.1; have hL := gq.2.1; have hLn := gq.2.2; clear gq)); (with_reducible show Calls _ _ #[Value.agg #[Value.bool n1, _]] _ _); refine (toSigned_any n1 a1 c1 xs1 _ (hp1.1.below (hb0.trans (hbq.mono hb0.size)) (Nat.le_refl _)) (by omega)).mono ?_; rintro e q1 ⟨⟨ad1Q, cp1Q, rfl, o1Q⟩, hq⟩; (try replace o0Q := o0Q.below hq (Nat.le_refl _)); (try replace oC1 := oC1.below hq (Nat.le_refl _)); (try replace oC2 := oC2.below hq (Nat.le_refl _)); (try replace hL := hL.below hq (Nat.le_refl _)); have zs := hq.size; replace hbq := hbq.trans (hq.mono hbq.size); clear hq))
    all_goals (go_wp2_with fail; go_meet; first | (have gL := hL; exact ⟨_, _, _, _, _, rfl, rfl, set3_cell0 lc0, set3_cell1 lc1, set3_cell2 lc2, set3_own oC1 hLt (by omega), nC1, set3_own oC2 hLt (by omega), nC2, set3_below hbq hLn⟩) | (exact ⟨_, _, _, _, _, rfl, rfl, cell_box _ _ _ _ 0 _ rfl rfl, cell_box _ _ _ _ 1 _ rfl rfl, cell_box _ _ _ _ 2 _ rfl rfl, (oC1.mono (by omega)).alloc _, nC1, (oC2.mono (by omega)).alloc _, nC2, hbq.trans ((bel_alloc _ _).mono hbq.size)⟩))
  case rest =>
  obtain ⟨kb1, ad2, cp3, bd4, dp5, rfl, rfl, hv10, hv11, hv12, ho6, hn7, ho8, hn9, hb⟩ := hcut
  obtain ⟨w1, hW⟩ : ∃ x : World, x = wc := ⟨_, rfl⟩
  rw [← hW] at hv10 hv11 hv12 ho6 ho8 hb ⊢
  clear hW
  have zk13 : kb1 < w1.heap.size := World.block_lt_of_cell? w1 ⟨kb1, 0, none⟩ hv10
  have s14 := Slot.of ho6
  have lc15 := (ho6.inn (by omega)).2.1
  clear ho6
  have s16 := Slot.of ho8
  have lc17 := (ho8.inn (by omega)).2.1
  clear ho8
  have zw1 : wz1.heap.size ≤ w1.heap.size := hb.size
  replace hx0_0 := cell_keep hb hx0_0 (Nat.le_refl _)
  replace hx0_1 := cell_keep hb hx0_1 (Nat.le_refl _)
  replace hx1_0 := cell_keep hb hx1_0 (Nat.le_refl _)
  replace hx1_1 := cell_keep hb hx1_1 (Nat.le_refl _)
  replace hb0 := hb0.trans (hb.mono hb0.size)
  clear hb
  go_wp2_with fail
  refine (toSigned_any _ _ _ _ _ (hp0.1.below hb0 (Nat.le_refl _)) (by omega)).mono ?_
  rintro e w2 ⟨⟨ad18, cp19, rfl, ho20⟩, hb⟩
  have s21 := Slot.of ho20
  have lc22 := (ho20.inn (by omega)).2.1
  clear ho20
  have zw2 : w1.heap.size ≤ w2.heap.size := hb.size
  replace s14 := s14.below hb s14.1
  replace s16 := s16.below hb s16.1
  replace hx0_0 := cell_keep hb hx0_0 (Nat.le_refl _)
  replace hx0_1 := cell_keep hb hx0_1 (Nat.le_refl _)
  replace hx1_0 := cell_keep hb hx1_0 (Nat.le_refl _)
  replace hx1_1 := cell_keep hb hx1_1 (Nat.le_refl _)
  replace hv10 := cell_keep hb hv10 (Nat.le_refl _)
  replace hv11 := cell_keep hb hv11 (Nat.le_refl _)
  replace hv12 := cell_keep hb hv12 (Nat.le_refl _)
  replace hb0 := hb0.trans (hb.mono hb0.size)
  clear hb
  have hb := bel_alloc w2 (.cells #[.bool n0, .slice ad18 xs0.length cp19] 29)
  have zb23 : w2.heap.size + 1 ≤ (World.alloc w2 (.cells #[.bool n0, .slice ad18 xs0.length cp19] 29)).heap.size := by simp
  replace s14 := s14.below hb s14.1
  replace s16 := s16.below hb s16.1
  replace s21 := s21.below hb s21.1
  replace hx0_0 := cell_keep hb hx0_0 (Nat.le_refl _)
  replace hx0_1 := cell_keep hb hx0_1 (Nat.le_refl _)
  replace hx1_0 := cell_keep hb hx1_0 (Nat.le_refl _)
  replace hx1_1 := cell_keep hb hx1_1 (Nat.le_refl _)
  replace hv10 := cell_keep hb hv10 (Nat.le_refl _)
  replace hv11 := cell_keep hb hv11 (Nat.le_refl _)
  replace hv12 := cell_keep hb hv12 (Nat.le_refl _)
  have hv24 : (World.alloc w2 (.cells #[.bool n0, .slice ad18 xs0.length cp19] 29)).cell? ⟨w2.heap.size, 0, none⟩ = some (.bool n0) := cell_box w2 _ _ _ 0 _ (by simp) rfl
  have hv25 : (World.alloc w2 (.cells #[.bool n0, .slice ad18 xs0.length cp19] 29)).cell? ⟨w2.heap.size, 1, none⟩ = some (.slice ad18 xs0.length cp19) := cell_box w2 _ _ _ 1 _ (by simp) rfl
  replace hb0 := hb0.trans (hb.mono hb0.size)
  clear hb
  go_wp2_with fail
  refine (toSigned_any _ _ _ _ _ (hp1.1.below hb0 (Nat.le_refl _)) (by omega)).mono ?_
  rintro e w3 ⟨⟨ad26, cp27, rfl, ho28⟩, hb⟩
  have s29 := Slot.of ho28
  have lc30 := (ho28.inn (by omega)).2.1
  clear ho28
  have zw3 : (World.alloc w2 (.cells #[.bool n0, .slice ad18 xs0.length cp19] 29)).heap.size ≤ w3.heap.size := hb.size
  replace s14 := s14.below hb s14.1
  replace s16 := s16.below hb s16.1
  replace s21 := s21.below hb s21.1
  replace hx0_0 := cell_keep hb hx0_0 (Nat.le_refl _)
  replace hx0_1 := cell_keep hb hx0_1 (Nat.le_refl _)
  replace hx1_0 := cell_keep hb hx1_0 (Nat.le_refl _)
  replace hx1_1 := cell_keep hb hx1_1 (Nat.le_refl _)
  replace hv10 := cell_keep hb hv10 (Nat.le_refl _)
  replace hv11 := cell_keep hb hv11 (Nat.le_refl _)
  replace hv12 := cell_keep hb hv12 (Nat.le_refl _)
  replace hv24 := cell_keep hb hv24 (Nat.le_refl _)
  replace hv25 := cell_keep hb hv25 (Nat.le_refl _)
  replace hb0 := hb0.trans (hb.mono hb0.size)
  clear hb
  have hb := bel_alloc w3 (.cells #[.bool n1, .slice ad26 xs1.length cp27] 29)
  have zb31 : w3.heap.size + 1 ≤ (World.alloc w3 (.cells #[.bool n1, .slice ad26 xs1.length cp27] 29)).heap.size := by simp
  replace s14 := s14.below hb s14.1
  replace s16 := s16.below hb s16.1
  replace s21 := s21.below hb s21.1
  replace s29 := s29.below hb s29.1
  replace hx0_0 := cell_keep hb hx0_0 (Nat.le_refl _)
  replace hx0_1 := cell_keep hb hx0_1 (Nat.le_refl _)
  replace hx1_0 := cell_keep hb hx1_0 (Nat.le_refl _)
  replace hx1_1 := cell_keep hb hx1_1 (Nat.le_refl _)
  replace hv10 := cell_keep hb hv10 (Nat.le_refl _)
  replace hv11 := cell_keep hb hv11 (Nat.le_refl _)
  replace hv12 := cell_keep hb hv12 (Nat.le_refl _)
  replace hv24 := cell_keep hb hv24 (Nat.le_refl _)
  replace hv25 := cell_keep hb hv25 (Nat.le_refl _)
  have hv32 : (World.alloc w3 (.cells #[.bool n1, .slice ad26 xs1.length cp27] 29)).cell? ⟨w3.heap.size, 0, none⟩ = some (.bool n1) := cell_box w3 _ _ _ 0 _ (by simp) rfl
  have hv33 : (World.alloc w3 (.cells #[.bool n1, .slice ad26 xs1.length cp27] 29)).cell? ⟨w3.heap.size, 1, none⟩ = some (.slice ad26 xs1.length cp27) := cell_box w3 _ _ _ 1 _ (by simp) rfl
  replace hb0 := hb0.trans (hb.mono hb0.size)
  clear hb
  go_wp2_with fail
  refine (impl_RatMake _ _ _ _ _ _ _ _ _ ⟨s21.rd, lc22, (by omega)⟩ ⟨s29.rd, lc30, (by omega)⟩).mono ?_
  rintro e w4 ⟨⟨ad34, cp35, bd36, dp37, lo38, up39, lo40, up41, rfl, s42, hn43, s44, hn45, g46, g47, d48⟩, hb⟩
  have s42u := s42.1
  have s44u := s44.1
  have zw4 : (World.alloc w3 (.cells #[.bool n1, .slice ad26 xs1.length cp27] 29)).heap.size ≤ w4.heap.size := hb.size
  replace s14 := s14.below hb s14.1
  replace s16 := s16.below hb s16.1
  replace s21 := s21.below hb s21.1
  replace s29 := s29.below hb s29.1
  replace hx0_0 := cell_keep hb hx0_0 (Nat.le_refl _)
  replace hx0_1 := cell_keep hb hx0_1 (Nat.le_refl _)
  replace hx1_0 := cell_keep hb hx1_0 (Nat.le_refl _)
  replace hx1_1 := cell_keep hb hx1_1 (Nat.le_refl _)
  replace hv10 := cell_keep hb hv10 (Nat.le_refl _)
  replace hv11 := cell_keep hb hv11 (Nat.le_refl _)
  replace hv12 := cell_keep hb hv12 (Nat.le_refl _)
  replace hv24 := cell_keep hb hv24 (Nat.le_refl _)
  replace hv25 := cell_keep hb hv25 (Nat.le_refl _)
  replace hv32 := cell_keep hb hv32 (Nat.le_refl _)
  replace hv33 := cell_keep hb hv33 (Nat.le_refl _)
  replace hb0 := hb0.trans (hb.mono hb0.size)
  clear hb
  have hb := bel_alloc w4 (.cells #[.bool (fRatMake n0 xs0 n1 xs1).1.1, .slice ad34 (fRatMake n0 xs0 n1 xs1).1.2.1.length cp35, .slice bd36 (fRatMake n0 xs0 n1 xs1).1.2.2.length dp37] 31)
  have zb49 : w4.heap.size + 1 ≤ (World.alloc w4 (.cells #[.bool (fRatMake n0 xs0 n1 xs1).1.1, .slice ad34 (fRatMake n0 xs0 n1 xs1).1.2.1.length cp35, .slice bd36 (fRatMake n0 xs0 n1 xs1).1.2.2.length dp37] 31)).heap.size := by simp
  replace s14 := s14.below hb s14.1
  replace s16 := s16.below hb s16.1
  replace s21 := s21.below hb s21.1
  replace s29 := s29.below hb s29.1
  replace s42 := s42.below hb s42.1
  replace s44 := s44.below hb s44.1
  replace hx0_0 := cell_keep hb hx0_0 (Nat.le_refl _)
  replace hx0_1 := cell_keep hb hx0_1 (Nat.le_refl _)
  replace hx1_0 := cell_keep hb hx1_0 (Nat.le_refl _)
  replace hx1_1 := cell_keep hb hx1_1 (Nat.le_refl _)
  replace hv10 := cell_keep hb hv10 (Nat.le_refl _)
  replace hv11 := cell_keep hb hv11 (Nat.le_refl _)
  replace hv12 := cell_keep hb hv12 (Nat.le_refl _)
  replace hv24 := cell_keep hb hv24 (Nat.le_refl _)
  replace hv25 := cell_keep hb hv25 (Nat.le_refl _)
  replace hv32 := cell_keep hb hv32 (Nat.le_refl _)
  replace hv33 := cell_keep hb hv33 (Nat.le_refl _)
  have hv50 : (World.alloc w4 (.cells #[.bool (fRatMake n0 xs0 n1 xs1).1.1, .slice ad34 (fRatMake n0 xs0 n1 xs1).1.2.1.length cp35, .slice bd36 (fRatMake n0 xs0 n1 xs1).1.2.2.length dp37] 31)).cell? ⟨w4.heap.size, 0, none⟩ = some (.bool (fRatMake n0 xs0 n1 xs1).1.1) := cell_box w4 _ _ _ 0 _ (by simp) rfl
  have hv51 : (World.alloc w4 (.cells #[.bool (fRatMake n0 xs0 n1 xs1).1.1, .slice ad34 (fRatMake n0 xs0 n1 xs1).1.2.1.length cp35, .slice bd36 (fRatMake n0 xs0 n1 xs1).1.2.2.length dp37] 31)).cell? ⟨w4.heap.size, 1, none⟩ = some (.slice ad34 (fRatMake n0 xs0 n1 xs1).1.2.1.length cp35) := cell_box w4 _ _ _ 1 _ (by simp) rfl
  have hv52 : (World.alloc w4 (.cells #[.bool (fRatMake n0 xs0 n1 xs1).1.1, .slice ad34 (fRatMake n0 xs0 n1 xs1).1.2.1.length cp35, .slice bd36 (fRatMake n0 xs0 n1 xs1).1.2.2.length dp37] 31)).cell? ⟨w4.heap.size, 2, none⟩ = some (.slice bd36 (fRatMake n0 xs0 n1 xs1).1.2.2.length dp37) := cell_box w4 _ _ _ 2 _ (by simp) rfl
  replace hb0 := hb0.trans (hb.mono hb0.size)
  clear hb
  go_wp2_with fail
  refine (eqRat_same _ _ _ _ _ _ _ _ _ _ _ _ s42.rd s14.rd s44.rd s16.rd (by omega) (by omega)).mono ?_
  rintro e w5 ⟨rfl, hb⟩
  have zw5 : (World.alloc w4 (.cells #[.bool (fRatMake n0 xs0 n1 xs1).1.1, .slice ad34 (fRatMake n0 xs0 n1 xs1).1.2.1.length cp35, .slice bd36 (fRatMake n0 xs0 n1 xs1).1.2.2.length dp37] 31)).heap.size ≤ w5.heap.size := hb.size
  replace s14 := s14.below hb s14.1
  replace s16 := s16.below hb s16.1
  replace s21 := s21.below hb s21.1
  replace s29 := s29.below hb s29.1
  replace s42 := s42.below hb s42.1
  replace s44 := s44.below hb s44.1
  replace hx0_0 := cell_keep hb hx0_0 (Nat.le_refl _)
  replace hx0_1 := cell_keep hb hx0_1 (Nat.le_refl _)
  replace hx1_0 := cell_keep hb hx1_0 (Nat.le_refl _)
  replace hx1_1 := cell_keep hb hx1_1 (Nat.le_refl _)
  replace hv10 := cell_keep hb hv10 (Nat.le_refl _)
  replace hv11 := cell_keep hb hv11 (Nat.le_refl _)
  replace hv12 := cell_keep hb hv12 (Nat.le_refl _)
  replace hv24 := cell_keep hb hv24 (Nat.le_refl _)
  replace hv25 := cell_keep hb hv25 (Nat.le_refl _)
  replace hv32 := cell_keep hb hv32 (Nat.le_refl _)
  replace hv33 := cell_keep hb hv33 (Nat.le_refl _)
  replace hv50 := cell_keep hb hv50 (Nat.le_refl _)
  replace hv51 := cell_keep hb hv51 (Nat.le_refl _)
  replace hv52 := cell_keep hb hv52 (Nat.le_refl _)
  replace hb0 := hb0.trans (hb.mono hb0.size)
  clear hb
  go_upto_region 14 with fail
  go_cut [58] (fun t wx => t = .bool false ∧ Below w5.heap.size w5 wx)
  case first =>
    go_region_with (first | (go_at_call 26; refine (toSigned_any _ _ _ _ (World.drew w5) (hp0.1.below hb0.drew (Nat.le_refl _)) ?_).mono ?_; omega; rintro e wA ⟨⟨adA, cpA, rfl, hoA⟩, hbA⟩; replace hbA := (Below.refl (w5).heap.size w5).drew.trans hbA; have qhx0_0 := cell_keep hbA hx0_0 (Nat.le_refl _); have qhx0_1 := cell_keep hbA hx0_1 (Nat.le_refl _); have qhx1_0 := cell_keep hbA hx1_0 (Nat.le_refl _); have qhx1_1 := cell_keep hbA hx1_1 (Nat.le_refl _); have qhv10 := cell_keep hbA hv10 (Nat.le_refl _); have qhv11 := cell_keep hbA hv11 (Nat.le_refl _); have qhv12 := cell_keep hbA hv12 (Nat.le_refl _); have qhv24 := cell_keep hbA hv24 (Nat.le_refl _); have qhv25 := cell_keep hbA hv25 (Nat.le_refl _); have qhv32 := cell_keep hbA hv32 (Nat.le_refl _); have qhv33 := cell_keep hbA hv33 (Nat.le_refl _); have qhv50 := cell_keep hbA hv50 (Nat.le_refl _); have qhv51 := cell_keep hbA hv51 (Nat.le_refl _); have qhv52 := cell_keep hbA hv52 (Nat.le_refl _)) | (go_at_call 28; refine (eqSigned_same _ _ _ _ _ _ _ (s21.below hbA s21.1).rd hoA.rd ?_).mono ?_; omega; rintro e wB ⟨rfl, hbB⟩))
    all_goals (go_wp2_with fail; go_meet; exact ⟨rfl, hbA.trans (hbB.mono hbA.size)⟩)
  case rest =>
  obtain ⟨rfl, hb⟩ := hcut
  obtain ⟨w6, hW⟩ : ∃ x : World, x = wc := ⟨_, rfl⟩
  rw [← hW] at hb ⊢
  clear hW
  have zw6 : w5.heap.size ≤ w6.heap.size := hb.size
  replace s14 := s14.below hb s14.1
  replace s16 := s16.below hb s16.1
  replace s21 := s21.below hb s21.1
  replace s29 := s29.below hb s29.1
  replace s42 := s42.below hb s42.1
  replace s44 := s44.below hb s44.1
  replace hx0_0 := cell_keep hb hx0_0 (Nat.le_refl _)
  replace hx0_1 := cell_keep hb hx0_1 (Nat.le_refl _)
  replace hx1_0 := cell_keep hb hx1_0 (Nat.le_refl _)
  replace hx1_1 := cell_keep hb hx1_1 (Nat.le_refl _)
  replace hv10 := cell_keep hb hv10 (Nat.le_refl _)
  replace hv11 := cell_keep hb hv11 (Nat.le_refl _)
  replace hv12 := cell_keep hb hv12 (Nat.le_refl _)
  replace hv24 := cell_keep hb hv24 (Nat.le_refl _)
  replace hv25 := cell_keep hb hv25 (Nat.le_refl _)
  replace hv32 := cell_keep hb hv32 (Nat.le_refl _)
  replace hv33 := cell_keep hb hv33 (Nat.le_refl _)
  replace hv50 := cell_keep hb hv50 (Nat.le_refl _)
  replace hv51 := cell_keep hb hv51 (Nat.le_refl _)
  replace hv52 := cell_keep hb hv52 (Nat.le_refl _)
  replace hb0 := hb0.trans (hb.mono hb0.size)
  clear hb
  go_upto_region 16 with fail
  go_cut [63] (fun t wx => t = .bool false ∧ Below w6.heap.size w6 wx)
  case first =>
    go_region_with (first | (go_at_call 26; refine (toSigned_any _ _ _ _ (World.drew w6) (hp1.1.below hb0.drew (Nat.le_refl _)) ?_).mono ?_; omega; rintro e wA ⟨⟨adA, cpA, rfl, hoA⟩, hbA⟩; replace hbA := (Below.refl (w6).heap.size w6).drew.trans hbA; have qhx0_0 := cell_keep hbA hx0_0 (Nat.le_refl _); have qhx0_1 := cell_keep hbA hx0_1 (Nat.le_refl _); have qhx1_0 := cell_keep hbA hx1_0 (Nat.le_refl _); have qhx1_1 := cell_keep hbA hx1_1 (Nat.le_refl _); have qhv10 := cell_keep hbA hv10 (Nat.le_refl _); have qhv11 := cell_keep hbA hv11 (Nat.le_refl _); have qhv12 := cell_keep hbA hv12 (Nat.le_refl _); have qhv24 := cell_keep hbA hv24 (Nat.le_refl _); have qhv25 := cell_keep hbA hv25 (Nat.le_refl _); have qhv32 := cell_keep hbA hv32 (Nat.le_refl _); have qhv33 := cell_keep hbA hv33 (Nat.le_refl _); have qhv50 := cell_keep hbA hv50 (Nat.le_refl _); have qhv51 := cell_keep hbA hv51 (Nat.le_refl _); have qhv52 := cell_keep hbA hv52 (Nat.le_refl _)) | (go_at_call 28; refine (eqSigned_same _ _ _ _ _ _ _ (s29.below hbA s29.1).rd hoA.rd ?_).mono ?_; omega; rintro e wB ⟨rfl, hbB⟩))
    all_goals (go_wp2_with fail; go_meet; exact ⟨rfl, hbA.trans (hbB.mono hbA.size)⟩)
  case rest =>
  obtain ⟨rfl, hb⟩ := hcut
  obtain ⟨w7, hW⟩ : ∃ x : World, x = wc := ⟨_, rfl⟩
  rw [← hW] at hb ⊢
  clear hW
  have zw7 : w6.heap.size ≤ w7.heap.size := hb.size
  replace s14 := s14.below hb s14.1
  replace s16 := s16.below hb s16.1
  replace s21 := s21.below hb s21.1
  replace s29 := s29.below hb s29.1
  replace s42 := s42.below hb s42.1
  replace s44 := s44.below hb s44.1
  replace hx0_0 := cell_keep hb hx0_0 (Nat.le_refl _)
  replace hx0_1 := cell_keep hb hx0_1 (Nat.le_refl _)
  replace hx1_0 := cell_keep hb hx1_0 (Nat.le_refl _)
  replace hx1_1 := cell_keep hb hx1_1 (Nat.le_refl _)
  replace hv10 := cell_keep hb hv10 (Nat.le_refl _)
  replace hv11 := cell_keep hb hv11 (Nat.le_refl _)
  replace hv12 := cell_keep hb hv12 (Nat.le_refl _)
  replace hv24 := cell_keep hb hv24 (Nat.le_refl _)
  replace hv25 := cell_keep hb hv25 (Nat.le_refl _)
  replace hv32 := cell_keep hb hv32 (Nat.le_refl _)
  replace hv33 := cell_keep hb hv33 (Nat.le_refl _)
  replace hv50 := cell_keep hb hv50 (Nat.le_refl _)
  replace hv51 := cell_keep hb hv51 (Nat.le_refl _)
  replace hv52 := cell_keep hb hv52 (Nat.le_refl _)
  replace hb0 := hb0.trans (hb.mono hb0.size)
  clear hb
  go_wp2_with fail
  refine (markSigned_any _ _ _ _ _ _ _ _ s21 (by omega) (by omega)).mono ?_
  rintro e w8 ⟨rfl, s53, hw⟩
  replace s14 := s14.wr hw (by omega)
  replace s16 := s16.wr hw (by omega)
  replace s29 := s29.wr hw (by omega)
  replace s42 := s42.wr hw (by omega)
  replace s44 := s44.wr hw (by omega)
  clear s21
  replace hb0 := below_wr hb0 hw (by omega) hb0.size
  have zw8 : w7.heap.size ≤ w8.heap.size := hw.size
  replace hx0_0 := cell_keep_wr hw hx0_0 (by omega)
  replace hx0_1 := cell_keep_wr hw hx0_1 (by omega)
  replace hx1_0 := cell_keep_wr hw hx1_0 (by omega)
  replace hx1_1 := cell_keep_wr hw hx1_1 (by omega)
  replace hv10 := cell_keep_wr hw hv10 (by omega)
  replace hv11 := cell_keep_wr hw hv11 (by omega)
  replace hv12 := cell_keep_wr hw hv12 (by omega)
  replace hv24 := cell_keep_wr hw hv24 (by omega)
  replace hv25 := cell_keep_wr hw hv25 (by omega)
  replace hv32 := cell_keep_wr hw hv32 (by omega)
  replace hv33 := cell_keep_wr hw hv33 (by omega)
  replace hv50 := cell_keep_wr hw hv50 (by omega)
  replace hv51 := cell_keep_wr hw hv51 (by omega)
  replace hv52 := cell_keep_wr hw hv52 (by omega)
  clear hw
  go_wp2_with fail
  refine (markSigned_any _ _ _ _ _ _ _ _ s29 (by omega) (by omega)).mono ?_
  rintro e w9 ⟨rfl, s54, hw⟩
  replace s14 := s14.wr hw (by omega)
  replace s16 := s16.wr hw (by omega)
  replace s53 := s53.wr hw (by omega)
  replace s42 := s42.wr hw (by omega)
  replace s44 := s44.wr hw (by omega)
  clear s29
  replace hb0 := below_wr hb0 hw (by omega) hb0.size
  have zw9 : w8.heap.size ≤ w9.heap.size := hw.size
  replace hx0_0 := cell_keep_wr hw hx0_0 (by omega)
  replace hx0_1 := cell_keep_wr hw hx0_1 (by omega)
  replace hx1_0 := cell_keep_wr hw hx1_0 (by omega)
  replace hx1_1 := cell_keep_wr hw hx1_1 (by omega)
  replace hv10 := cell_keep_wr hw hv10 (by omega)
  replace hv11 := cell_keep_wr hw hv11 (by omega)
  replace hv12 := cell_keep_wr hw hv12 (by omega)
  replace hv24 := cell_keep_wr hw hv24 (by omega)
  replace hv25 := cell_keep_wr hw hv25 (by omega)
  replace hv32 := cell_keep_wr hw hv32 (by omega)
  replace hv33 := cell_keep_wr hw hv33 (by omega)
  replace hv50 := cell_keep_wr hw hv50 (by omega)
  replace hv51 := cell_keep_wr hw hv51 (by omega)
  replace hv52 := cell_keep_wr hw hv52 (by omega)
  clear hw
  go_wp2_with fail
  refine (eqRat_same _ _ _ _ _ _ _ _ _ _ _ _ s42.rd s14.rd s44.rd s16.rd (by omega) (by omega)).mono ?_
  rintro e w10 ⟨rfl, hb⟩
  have zw10 : w9.heap.size ≤ w10.heap.size := hb.size
  replace s14 := s14.below hb s14.1
  replace s16 := s16.below hb s16.1
  replace s53 := s53.below hb s53.1
  replace s54 := s54.below hb s54.1
  replace s42 := s42.below hb s42.1
  replace s44 := s44.below hb s44.1
  replace hx0_0 := cell_keep hb hx0_0 (Nat.le_refl _)
  replace hx0_1 := cell_keep hb hx0_1 (Nat.le_refl _)
  replace hx1_0 := cell_keep hb hx1_0 (Nat.le_refl _)
  replace hx1_1 := cell_keep hb hx1_1 (Nat.le_refl _)
  replace hv10 := cell_keep hb hv10 (Nat.le_refl _)
  replace hv11 := cell_keep hb hv11 (Nat.le_refl _)
  replace hv12 := cell_keep hb hv12 (Nat.le_refl _)
  replace hv24 := cell_keep hb hv24 (Nat.le_refl _)
  replace hv25 := cell_keep hb hv25 (Nat.le_refl _)
  replace hv32 := cell_keep hb hv32 (Nat.le_refl _)
  replace hv33 := cell_keep hb hv33 (Nat.le_refl _)
  replace hv50 := cell_keep hb hv50 (Nat.le_refl _)
  replace hv51 := cell_keep hb hv51 (Nat.le_refl _)
  replace hv52 := cell_keep hb hv52 (Nat.le_refl _)
  replace hb0 := hb0.trans (hb.mono hb0.size)
  clear hb
  go_wp2_with fail
  refine (markRat_any _ _ _ _ _ _ _ _ _ _ _ _ _ s42 s44 d48 (by omega) (by omega) (by omega)).mono ?_
  rintro e w11 ⟨rfl, w12, s55, s56, hw, hw2⟩
  replace s14 := (s14.wr hw (by omega)).wr hw2 (by omega)
  replace s16 := (s16.wr hw (by omega)).wr hw2 (by omega)
  replace s53 := (s53.wr hw (by omega)).wr hw2 (by omega)
  replace s54 := (s54.wr hw (by omega)).wr hw2 (by omega)
  clear s42 s44
  replace hb0 := below_wr hb0 hw (by omega) hb0.size
  replace hb0 := below_wr hb0 hw2 (by omega) hb0.size
  have zw12 : w10.heap.size ≤ w12.heap.size := hw.size
  have zw11 : w12.heap.size ≤ w11.heap.size := hw2.size
  replace hx0_0 := cell_keep_wr hw2 (cell_keep_wr hw hx0_0 (by omega)) (by omega)
  replace hx0_1 := cell_keep_wr hw2 (cell_keep_wr hw hx0_1 (by omega)) (by omega)
  replace hx1_0 := cell_keep_wr hw2 (cell_keep_wr hw hx1_0 (by omega)) (by omega)
  replace hx1_1 := cell_keep_wr hw2 (cell_keep_wr hw hx1_1 (by omega)) (by omega)
  replace hv10 := cell_keep_wr hw2 (cell_keep_wr hw hv10 (by omega)) (by omega)
  replace hv11 := cell_keep_wr hw2 (cell_keep_wr hw hv11 (by omega)) (by omega)
  replace hv12 := cell_keep_wr hw2 (cell_keep_wr hw hv12 (by omega)) (by omega)
  replace hv24 := cell_keep_wr hw2 (cell_keep_wr hw hv24 (by omega)) (by omega)
  replace hv25 := cell_keep_wr hw2 (cell_keep_wr hw hv25 (by omega)) (by omega)
  replace hv32 := cell_keep_wr hw2 (cell_keep_wr hw hv32 (by omega)) (by omega)
  replace hv33 := cell_keep_wr hw2 (cell_keep_wr hw hv33 (by omega)) (by omega)
  replace hv50 := cell_keep_wr hw2 (cell_keep_wr hw hv50 (by omega)) (by omega)
  replace hv51 := cell_keep_wr hw2 (cell_keep_wr hw hv51 (by omega)) (by omega)
  replace hv52 := cell_keep_wr hw2 (cell_keep_wr hw hv52 (by omega)) (by omega)
  clear hw hw2
  go_wp2_with fail
  refine (heldRat_any _ _ _ _ _ _ _ _ _ s55.rd s56.rd (by omega) (by omega) (by omega)).mono ?_
  rintro e w13 ⟨rfl, hb⟩
  have zw13 : w11.heap.size ≤ w13.heap.size := hb.size
  replace s14 := s14.below hb s14.1
  replace s16 := s16.below hb s16.1
  replace s53 := s53.below hb s53.1
  replace s54 := s54.below hb s54.1
  replace s55 := s55.below hb s55.1
  replace s56 := s56.below hb s56.1
  replace hx0_0 := cell_keep hb hx0_0 (Nat.le_refl _)
  replace hx0_1 := cell_keep hb hx0_1 (Nat.le_refl _)
  replace hx1_0 := cell_keep hb hx1_0 (Nat.le_refl _)
  replace hx1_1 := cell_keep hb hx1_1 (Nat.le_refl _)
  replace hv10 := cell_keep hb hv10 (Nat.le_refl _)
  replace hv11 := cell_keep hb hv11 (Nat.le_refl _)
  replace hv12 := cell_keep hb hv12 (Nat.le_refl _)
  replace hv24 := cell_keep hb hv24 (Nat.le_refl _)
  replace hv25 := cell_keep hb hv25 (Nat.le_refl _)
  replace hv32 := cell_keep hb hv32 (Nat.le_refl _)
  replace hv33 := cell_keep hb hv33 (Nat.le_refl _)
  replace hv50 := cell_keep hb hv50 (Nat.le_refl _)
  replace hv51 := cell_keep hb hv51 (Nat.le_refl _)
  replace hv52 := cell_keep hb hv52 (Nat.le_refl _)
  replace hb0 := hb0.trans (hb.mono hb0.size)
  clear hb
  go_upto_region 31 with fail
  go_cut [15, 16] (fun t u wx => ∃ (kb : Nat) (ad : Option Addr) (cp : Nat) (bd : Option Addr) (dp lo up lo2 up2 : Nat), t = .pointer (some ⟨kb, 0, none⟩) ∧ u = .bool (fRatMake n0 xs0 n1 xs1).2 ∧ wx.cell? ⟨kb, 0, none⟩ = some (.bool (fRatMake n0 xs0 n1 xs1).1.1) ∧ wx.cell? ⟨kb, 1, none⟩ = some (.slice ad (fRatMake n0 xs0 n1 xs1).1.2.1.length cp) ∧ wx.cell? ⟨kb, 2, none⟩ = some (.slice bd (fRatMake n0 xs0 n1 xs1).1.2.2.length dp) ∧ Slot wx lo up ad cp (fRatMake n0 xs0 n1 xs1).1.2.1 ∧ (fRatMake n0 xs0 n1 xs1).1.2.1.length ≤ 50 ∧ Slot wx lo2 up2 bd dp (fRatMake n0 xs0 n1 xs1).1.2.2 ∧ (fRatMake n0 xs0 n1 xs1).1.2.2.length ≤ 50 ∧ Below w13.heap.size w13 wx)
  case first =>
    have hbq : Below w13.heap.size w13 (World.drew w13) := (Below.refl _ _).drew
    have np0 : w.heap.size < w13.heap.size := by omega
    have np1 : w.heap.size + 1 < w13.heap.size := by omega
    go_region_held3 (fun w' => w'.cell? ⟨w.heap.size, 0, none⟩ = some (.bool n0) ∧ w'.cell? ⟨w.heap.size, 1, none⟩ = some (.slice a0 xs0.length c0) ∧ w'.cell? ⟨w.heap.size + 1, 0, none⟩ = some (.bool n1) ∧ w'.cell? ⟨w.heap.size + 1, 1, none⟩ = some (.slice a1 xs1.length c1))
      (first | (exact ⟨cell_keep hbq hx0_0 (Nat.le_refl _), cell_keep hbq hx0_1 (Nat.le_refl _), cell_keep hbq hx1_0 (Nat.le_refl _), cell_keep hbq hx1_1 (Nat.le_refl _)⟩) | (exact ⟨hx0_0, hx0_1, hx1_0, hx1_1⟩) | (exact ⟨cell_keep (bel_alloc _ _) (cell_keep hbq hx0_0 (Nat.le_refl _)) (Nat.le_refl _), cell_keep (bel_alloc _ _) (cell_keep hbq hx0_1 (Nat.le_refl _)) (Nat.le_refl _), cell_keep (bel_alloc _ _) (cell_keep hbq hx1_0 (Nat.le_refl _)) (Nat.le_refl _), cell_keep (bel_alloc _ _) (cell_keep hbq hx1_1 (Nat.le_refl _)) (Nat.le_refl _)⟩) | (exact ⟨cell_keep (bel_alloc _ _) hx0_0 (Nat.le_refl _), cell_keep (bel_alloc _ _) hx0_1 (Nat.le_refl _), cell_keep (bel_alloc _ _) hx1_0 (Nat.le_refl _), cell_keep (bel_alloc _ _) hx1_1 (Nat.le_refl _)⟩) | (exact ⟨far3 (ne_blk hLn np0) (cell_keep hbq hx0_0 (Nat.le_refl _)), far3 (ne_blk hLn np0) (cell_keep hbq hx0_1 (Nat.le_refl _)), far3 (ne_blk hLn np1) (cell_keep hbq hx1_0 (Nat.le_refl _)), far3 (ne_blk hLn np1) (cell_keep hbq hx1_1 (Nat.le_refl _))⟩) | go_keep)
      (first | (go_at_call 27; (try ((with_reducible show Calls _ _ _ (World.alloc _ _) _); have gq := alloc_step3 hbq (.bool false) (.slice none 0 0) (.slice none 0 0) 31; replace hbq := gq.1; have hL := gq.2.1; have hLn := gq.2.2; clear gq; (try replace o0Q := o0Q.alloc (.cells #[.bool false, .slice none 0 0, .slice none 0 0] 31)); (try replace o1Q := o1Q.alloc (.cells #[.bool false, .slice none 0 0, .slice none 0 0] 31)))); (try have hLt := hL.lt); have zq := hbq.size; refine (impl_RatMake _ _ _ _ _ _ _ _ _ (Own.inn o0Q (by omega)) (Own.inn o1Q (by omega))).mono ?_; rintro e qC ⟨⟨adC, cpC, bdC, dpC, loC, upC, loD, upD, rfl, oC1, nC1, oC2, nC2, kC1, kC2, -⟩, hq⟩; (try replace o0Q := o0Q.below hq (Nat.le_refl _)); (try replace o1Q := o1Q.below hq (Nat.le_refl _)); (try replace hL := hL.below hq (Nat.le_refl _)); have zs := hq.size; replace hbq := hbq.trans (hq.mono hbq.size); clear hq; (try (have hLL := hL; obtain ⟨⟨lc0, lc1, lc2⟩, lf0, lf1, lf2⟩ := hLL))) | (go_at_call 26; (try ((with_reducible show Calls _ _ _ (World.alloc _ _) _); have gq := alloc_step3 hbq (.bool false) (.slice none 0 0) (.slice none 0 0) 31; replace hbq := gq.1; have hL := gq.2.1; have hLn := gq.2.2; clear gq; (try replace o0Q := o0Q.alloc (.cells #[.bool false, .slice none 0 0, .slice none 0 0] 31)); (try replace o1Q := o1Q.alloc (.cells #[.bool false, .slice none 0 0, .slice none 0 0] 31)))); (try ((with_reducible show Calls _ _ _ (World.drew (World.alloc _ _)) _); have gq := alloc_drew3 w13 (.bool false) (.slice none 0 0) (.slice none 0 0) 31; replace hbq := gq.1; have hL := gq.2.1; have hLn := gq.2.2; clear gq)); (with_reducible show Calls _ _ #[Value.agg #[Value.bool n0, _]] _ _); refine (toSigned_any n0 a0 c0 xs0 _ (hp0.1.below (hb0.trans (hbq.mono hb0.size)) (Nat.le_refl _)) (by omega)).mono ?_; rintro e q0 ⟨⟨ad0Q, cp0Q, rfl, o0Q⟩, hq⟩; (try replace o1Q := o1Q.below hq (Nat.le_refl _)); (try replace oC1 := oC1.below hq (Nat.le_refl _)); (try replace oC2 := oC2.below hq (Nat.le_refl _)); (try replace hL := hL.below hq (Nat.le_refl _)); have zs := hq.size; replace hbq := hbq.trans (hq.mono hbq.size); clear hq) | (go_at_call 26; (try ((with_reducible show Calls _ _ _ (World.alloc _ _) _); have gq := alloc_step3 hbq (.bool false) (.slice none 0 0) (.slice none 0 0) 31; replace hbq := gq.1; have hL := gq.2.1; have hLn := gq.2.2; clear gq; (try replace o0Q := o0Q.alloc (.cells #[.bool false, .slice none 0 0, .slice none 0 0] 31)); (try replace o1Q := o1Q.alloc (.cells #[.bool false, .slice none 0 0, .slice none 0 0] 31)))); (try ((with_reducible show Calls _ _ _ (World.drew (World.alloc _ _)) _); have gq := alloc_drew3 w13 (.bool false) (.slice none 0 0) (.slice none 0 0) 31; replace hbq := gq.1; have hL := gq.2.1; have hLn := gq.2.2; clear gq)); (with_reducible show Calls _ _ #[Value.agg #[Value.bool n1, _]] _ _); refine (toSigned_any n1 a1 c1 xs1 _ (hp1.1.below (hb0.trans (hbq.mono hb0.size)) (Nat.le_refl _)) (by omega)).mono ?_; rintro e q1 ⟨⟨ad1Q, cp1Q, rfl, o1Q⟩, hq⟩; (try replace o0Q := o0Q.below hq (Nat.le_refl _)); (try replace oC1 := oC1.below hq (Nat.le_refl _)); (try replace oC2 := oC2.below hq (Nat.le_refl _)); (try replace hL := hL.below hq (Nat.le_refl _)); have zs := hq.size; replace hbq := hbq.trans (hq.mono hbq.size); clear hq))
    all_goals (go_wp2_with fail; go_meet; first | (have gL := hL; exact ⟨_, _, _, _, _, _, _, _, _, rfl, rfl, set3_cell0 lc0, set3_cell1 lc1, set3_cell2 lc2, oC1.set3 (by omega), nC1, oC2.set3 (by omega), nC2, set3_below hbq hLn⟩) | (exact ⟨_, _, _, _, _, _, _, _, _, rfl, rfl, cell_box _ _ _ _ 0 _ rfl rfl, cell_box _ _ _ _ 1 _ rfl rfl, cell_box _ _ _ _ 2 _ rfl rfl, oC1.below (bel_alloc _ _) oC1.1, nC1, oC2.below (bel_alloc _ _) oC2.1, nC2, hbq.trans ((bel_alloc _ _).mono hbq.size)⟩))
  case rest =>
  obtain ⟨kb57, ad58, cp59, bd60, dp61, lo69, up70, lo71, up72, rfl, rfl, hv66, hv67, hv68, ho62, hn63, ho64, hn65, hb⟩ := hcut
  obtain ⟨w14, hW⟩ : ∃ x : World, x = wc := ⟨_, rfl⟩
  rw [← hW] at hv66 hv67 hv68 ho62 ho64 hb ⊢
  clear hW
  have zk73 : kb57 < w14.heap.size := World.block_lt_of_cell? w14 ⟨kb57, 0, none⟩ hv66
  have zw14 : w13.heap.size ≤ w14.heap.size := hb.size
  replace s14 := s14.below hb s14.1
  replace s16 := s16.below hb s16.1
  replace s53 := s53.below hb s53.1
  replace s54 := s54.below hb s54.1
  replace s55 := s55.below hb s55.1
  replace s56 := s56.below hb s56.1
  replace hx0_0 := cell_keep hb hx0_0 (Nat.le_refl _)
  replace hx0_1 := cell_keep hb hx0_1 (Nat.le_refl _)
  replace hx1_0 := cell_keep hb hx1_0 (Nat.le_refl _)
  replace hx1_1 := cell_keep hb hx1_1 (Nat.le_refl _)
  replace hv10 := cell_keep hb hv10 (Nat.le_refl _)
  replace hv11 := cell_keep hb hv11 (Nat.le_refl _)
  replace hv12 := cell_keep hb hv12 (Nat.le_refl _)
  replace hv24 := cell_keep hb hv24 (Nat.le_refl _)
  replace hv25 := cell_keep hb hv25 (Nat.le_refl _)
  replace hv32 := cell_keep hb hv32 (Nat.le_refl _)
  replace hv33 := cell_keep hb hv33 (Nat.le_refl _)
  replace hv50 := cell_keep hb hv50 (Nat.le_refl _)
  replace hv51 := cell_keep hb hv51 (Nat.le_refl _)
  replace hv52 := cell_keep hb hv52 (Nat.le_refl _)
  replace hb0 := hb0.trans (hb.mono hb0.size)
  clear hb
  go_wp2_with fail
  refine (eqRat_same _ _ _ _ _ _ _ _ _ _ _ _ ho62.rd s14.rd ho64.rd s16.rd (by omega) (by omega)).mono ?_
  rintro e w15 ⟨rfl, hb⟩
  have zw15 : w14.heap.size ≤ w15.heap.size := hb.size
  replace s14 := s14.below hb s14.1
  replace s16 := s16.below hb s16.1
  replace s53 := s53.below hb s53.1
  replace s54 := s54.below hb s54.1
  replace s55 := s55.below hb s55.1
  replace s56 := s56.below hb s56.1
  replace ho62 := ho62.below hb ho62.1
  replace ho64 := ho64.below hb ho64.1
  replace hx0_0 := cell_keep hb hx0_0 (Nat.le_refl _)
  replace hx0_1 := cell_keep hb hx0_1 (Nat.le_refl _)
  replace hx1_0 := cell_keep hb hx1_0 (Nat.le_refl _)
  replace hx1_1 := cell_keep hb hx1_1 (Nat.le_refl _)
  replace hv10 := cell_keep hb hv10 (Nat.le_refl _)
  replace hv11 := cell_keep hb hv11 (Nat.le_refl _)
  replace hv12 := cell_keep hb hv12 (Nat.le_refl _)
  replace hv24 := cell_keep hb hv24 (Nat.le_refl _)
  replace hv25 := cell_keep hb hv25 (Nat.le_refl _)
  replace hv32 := cell_keep hb hv32 (Nat.le_refl _)
  replace hv33 := cell_keep hb hv33 (Nat.le_refl _)
  replace hv50 := cell_keep hb hv50 (Nat.le_refl _)
  replace hv51 := cell_keep hb hv51 (Nat.le_refl _)
  replace hv52 := cell_keep hb hv52 (Nat.le_refl _)
  replace hv66 := cell_keep hb hv66 (Nat.le_refl _)
  replace hv67 := cell_keep hb hv67 (Nat.le_refl _)
  replace hv68 := cell_keep hb hv68 (Nat.le_refl _)
  replace hb0 := hb0.trans (hb.mono hb0.size)
  clear hb
  go_wp2_with fail
  refine (heldRat_any _ _ _ _ _ _ _ _ _ s55.rd s56.rd (by omega) (by omega) (by omega)).mono ?_
  rintro e w16 ⟨rfl, hb⟩
  have zw16 : w15.heap.size ≤ w16.heap.size := hb.size
  replace s14 := s14.below hb s14.1
  replace s16 := s16.below hb s16.1
  replace s53 := s53.below hb s53.1
  replace s54 := s54.below hb s54.1
  replace s55 := s55.below hb s55.1
  replace s56 := s56.below hb s56.1
  replace ho62 := ho62.below hb ho62.1
  replace ho64 := ho64.below hb ho64.1
  replace hx0_0 := cell_keep hb hx0_0 (Nat.le_refl _)
  replace hx0_1 := cell_keep hb hx0_1 (Nat.le_refl _)
  replace hx1_0 := cell_keep hb hx1_0 (Nat.le_refl _)
  replace hx1_1 := cell_keep hb hx1_1 (Nat.le_refl _)
  replace hv10 := cell_keep hb hv10 (Nat.le_refl _)
  replace hv11 := cell_keep hb hv11 (Nat.le_refl _)
  replace hv12 := cell_keep hb hv12 (Nat.le_refl _)
  replace hv24 := cell_keep hb hv24 (Nat.le_refl _)
  replace hv25 := cell_keep hb hv25 (Nat.le_refl _)
  replace hv32 := cell_keep hb hv32 (Nat.le_refl _)
  replace hv33 := cell_keep hb hv33 (Nat.le_refl _)
  replace hv50 := cell_keep hb hv50 (Nat.le_refl _)
  replace hv51 := cell_keep hb hv51 (Nat.le_refl _)
  replace hv52 := cell_keep hb hv52 (Nat.le_refl _)
  replace hv66 := cell_keep hb hv66 (Nat.le_refl _)
  replace hv67 := cell_keep hb hv67 (Nat.le_refl _)
  replace hv68 := cell_keep hb hv68 (Nat.le_refl _)
  replace hb0 := hb0.trans (hb.mono hb0.size)
  clear hb
  go_wp2
  go_ret
  exact ⟨rfl, hb0⟩

theorem own : ownKnob Try.prog.godebug = none := by kernel_rfl
theorem laidOut : laidOutB Try.prog = true := by kernel_rfl
set_option maxRecDepth 100000 in
theorem lifted (os : Os) (started : os.Started) (H : Type) (enc : TypeId × Value → H) :
    ReturnsInHanded {} Try.checked os 6 .any (Rows.fnExactRatMakeSpec.pre6 enc Try.prog Try.f6 Rows.fnExactRatMakeRow.domain false) (Rows.fnExactRatMakeSpec.post enc Try.prog Try.f6 false true false false) := by
  refine returnsInHanded_of_change (C := Try.checked) own started (by kernel_rfl) Try.func6
    (ChangeSpec.witness6 (enc := enc) (C := Try.checked) false ⟨#[], #[.agg #[.bool false, .slice none 0 0], .agg #[.bool false, .slice none 0 0]], []⟩ 8 (by kernel_rfl) (by kernel_rfl) (by kernel_rfl) (by kernel_rfl)) ?_
  intro W base args ds gs before hval0 hW hcnd _
  have hval : ∀ (j : Nat) t v, Try.f6.params[j]? = some t → args[j]? = some v → Value.okWide Try.prog W .any base t v := hval0
  have hW' := hW
  obtain ⟨p, q, hA0, hV, rfl, hfz, hnd⟩ := hW
  have hA : DataW.TrodAll enc Try.prog W 0 (fun _ => true) true Try.f6.params.toList args.toList ds p := hA0
  rw [Try.params6] at hA hval
  obtain ⟨v0, vs0, d0, ds0, p0, q0, hargs, rfl, rfl, h0, r0⟩ := trodAll_cons hA
  obtain ⟨v1, vs1, d1, ds1, p1, q1, rfl, rfl, rfl, h1, r1⟩ := trodAll_cons r0
  obtain ⟨rfl, rfl, rfl⟩ := trodAll_nil r1
  obtain rfl : args = #[v0, v1] := by cases args; simp_all
  obtain ⟨rfl, rfl⟩ := trodVars_none hV
  have k0 := h0
  have lt0 : ∀ x ∈ p0, x.block < W.heap.size := by obtain ⟨m, hm⟩ := k0; exact DataW.trod_lt m _ _ _ hm
  have k1 := h1
  have lt1 : ∀ x ∈ p1, x.block < W.heap.size := by obtain ⟨m, hm⟩ := k1; exact DataW.trod_lt m _ _ _ hm
  obtain ⟨f00, f10, y00, y10, m0, rfl, rfl, rfl, hy00, hy10⟩ := Joins.open_agg2 Try.underlying24 (by kernel_rfl) (by kernel_rfl) (hval 0 24 v0 rfl rfl) h0
  obtain ⟨n0, e00, rfl⟩ := DataW.trod_bool Try.underlying4 hy00
  simp only [List.cons.injEq, and_true] at e00
  subst e00
  obtain ⟨a0, cap0, xs0, e10, w0⟩ : ∃ (a : Option Addr) (c : Nat) (xs : List Int), f10 = .slice a xs.length c ∧ (Rd W a xs ∧ xs.length ≤ maxLen) := by
    rcases open_ints Try.underlying22 Try.underlying3 (by kernel_rfl) hy10 with ⟨hcs, _⟩ | ⟨x, l, c, zs, hcs, _, hl, hm, hz, _, hcell, hwz⟩
    · exact ⟨none, 0, [], by simpa using hcs, Rd.nil _ _, Nat.zero_le _⟩
    · have hz' : zs.length = c := by simpa using hz
      have hl' : (zs.take l).length = l := by rw [List.length_take]; omega
      refine ⟨some x, c, zs.take l, by rw [hl']; simpa using hcs, rd_of_cells hcell _, by rw [hl']; omega⟩
  subst e10
  obtain ⟨f01, f11, y01, y11, m1, rfl, rfl, rfl, hy01, hy11⟩ := Joins.open_agg2 Try.underlying24 (by kernel_rfl) (by kernel_rfl) (hval 1 24 v1 rfl rfl) h1
  obtain ⟨n1, e01, rfl⟩ := DataW.trod_bool Try.underlying4 hy01
  simp only [List.cons.injEq, and_true] at e01
  subst e01
  obtain ⟨a1, cap1, xs1, e11, w1⟩ : ∃ (a : Option Addr) (c : Nat) (xs : List Int), f11 = .slice a xs.length c ∧ (Rd W a xs ∧ xs.length ≤ maxLen) := by
    rcases open_ints Try.underlying22 Try.underlying3 (by kernel_rfl) hy11 with ⟨hcs, _⟩ | ⟨x, l, c, zs, hcs, _, hl, hm, hz, _, hcell, hwz⟩
    · exact ⟨none, 0, [], by simpa using hcs, Rd.nil _ _, Nat.zero_le _⟩
    · have hz' : zs.length = c := by simpa using hz
      have hl' : (zs.take l).length = l := by rw [List.length_take]; omega
      refine ⟨some x, c, zs.take l, by rw [hl']; simpa using hcs, rd_of_cells hcell _, by rw [hl']; omega⟩
  subst e11
  clear hA0 hval0
  refine (walk n0 a0 cap0 xs0 n1 a1 cap1 xs1 W w0 w1).mono fun e W' ⟨he, bel⟩ => ?_
  subst he
  exact ⟨_, rfl, _, _, _, [], _, [], hW', trodAll_mk1 (shut_bool Try.underlying4 _), (trodAll_cons_mk (Below.trod laidOut (by kernel_rfl) (of_decide_eq_true (by kernel_rfl)) k0 bel lt0) (trodAll_cons_mk (Below.trod laidOut (by kernel_rfl) (of_decide_eq_true (by kernel_rfl)) k1 bel lt1) trodAll_mk0)), rfl, bel.frame _, fun h => by cases h⟩

theorem over : Rows.fnExactRatMakeRow.holds Try.pinned (OpenSpec.ofChange Rows.fnExactRatMakeSpec) :=
  OpenClaim.holds_of_wide 6 Try.f6 rfl rfl rfl rfl rfl rfl rfl ⟨rfl, rfl, rfl, rfl, rfl⟩ rfl rfl rfl rfl rfl (by kernel_rfl) Try.func6 (by kernel_rfl)
    (of_decide_eq_true (by kernel_rfl)) (by unfold Func.isWrapper; first | (rw [if_pos (by decide +kernel)]; kernel_rfl) | (rw [if_neg (by decide +kernel)]; exact ⟨rfl, rfl⟩))
    (fun os started H enc _ => lifted os started H enc)

theorem proved : Rows.FnExactRatMakeSaid := over
#print axioms proved
end Go.Proofs.Ytoandabopahmhaa.fnExactRatMake
