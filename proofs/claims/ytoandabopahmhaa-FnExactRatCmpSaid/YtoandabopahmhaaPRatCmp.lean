/- The law FnExactRatCmp answers true at every input. No condition. (The walk is printed by gen_law.py off the law's text.) -/
import Derived.Test.YtoandabopahmhaaRows
import Derived.Test.YtoandabopahmhaaWRatCmp
import Derived.Test.YtoandabopahmhaaWRatCmpS
import Derived.Test.YtoandabopahmhaaWRatD
import Derived.ProofKit
import Derived.OpenShut
import Derived.ShutString
import Derived.ChangeOld
import Derived.Lib.SmallJoins
import Derived.Deep.RegionWith
import Derived.Deep.RegionHeld3
import Derived.Deep.DeepCutAuto
import Derived.Below
namespace Go.Proofs.Ytoandabopahmhaa.fnExactRatCmp
open Go.ChangeShapes Go.WideShapes Go.ChangeAt Go.RowKit
open Go.ChangeMaps (open_string shut_string)
set_option linter.unusedVariables false

set_option maxRecDepth 100000 in
set_option maxHeartbeats 4000000 in
theorem walk (n0 : Bool) (a0 : Option Addr) (c0 : Nat) (xs0 : List Int) (b0 : Option Addr) (d0 : Nat) (ys0 : List Int) (n1 : Bool) (a1 : Option Addr) (c1 : Nat) (xs1 : List Int) (b1 : Option Addr) (d1 : Nat) (ys1 : List Int) (w : World) (hp0 : (Rd w a0 xs0 ∧ xs0.length ≤ maxLen) ∧ (Rd w b0 ys0 ∧ ys0.length ≤ maxLen)) (hp1 : (Rd w a1 xs1 ∧ xs1.length ≤ maxLen) ∧ (Rd w b1 ys1 ∧ ys1.length ≤ maxLen)) :
    Calls Try.prog 9 #[.agg #[.bool n0, .slice a0 xs0.length c0, .slice b0 ys0.length d0], .agg #[.bool n1, .slice a1 xs1.length c1, .slice b1 ys1.length d1]] w fun e w' => e = .returned (.bool true) ∧ Below w.heap.size w w' := by
  have hb0 := Below.refl w.heap.size w
  have hm0 := hp0.1.2
  unfold maxLen at hm0
  have hk0 := hp0.2.2
  unfold maxLen at hk0
  have hm1 := hp1.1.2
  unfold maxLen at hm1
  have hk1 := hp1.2.2
  unfold maxLen at hk1
  by_cases hs0 : (xs0.length : Int) + ys0.length ≤ 1048576
  rotate_left
  · replace hb0 := hb0.trans ((bel_alloc w (.cells #[.bool n0, .slice a0 xs0.length c0, .slice b0 ys0.length d0] 26)).mono (by simp))
    replace hb0 := hb0.trans ((bel_alloc _ (.cells #[.bool n1, .slice a1 xs1.length c1, .slice b1 ys1.length d1] 26)).mono (by simp; try omega))
    have zbox : w.heap.size + 2 ≤ ((World.alloc (World.alloc w (.cells #[.bool n0, .slice a0 xs0.length c0, .slice b0 ys0.length d0] 26)) (.cells #[.bool n1, .slice a1 xs1.length c1, .slice b1 ys1.length d1] 26))).heap.size := by simp
    go_enter Try.func9, Try.ntmps9
    go_wp2_with fail
    refine (szRat_no _ _ _ _ _ _ _ _ _ (by omega) (by omega) (by omega) hp0.1.2 hp0.2.2).mono ?_
    rintro e wz ⟨rfl, hbz⟩
    replace hb0 := hb0.trans (hbz.mono hb0.size)
    go_wp2
    go_ret
    exact ⟨rfl, hb0⟩
  by_cases hs1 : (xs1.length : Int) + ys1.length ≤ 1048576 - (xs0.length : Int) - (ys0.length : Int)
  rotate_left
  · replace hb0 := hb0.trans ((bel_alloc w (.cells #[.bool n0, .slice a0 xs0.length c0, .slice b0 ys0.length d0] 26)).mono (by simp))
    replace hb0 := hb0.trans ((bel_alloc _ (.cells #[.bool n1, .slice a1 xs1.length c1, .slice b1 ys1.length d1] 26)).mono (by simp; try omega))
    have zbox : w.heap.size + 2 ≤ ((World.alloc (World.alloc w (.cells #[.bool n0, .slice a0 xs0.length c0, .slice b0 ys0.length d0] 26)) (.cells #[.bool n1, .slice a1 xs1.length c1, .slice b1 ys1.length d1] 26))).heap.size := by simp
    go_enter Try.func9, Try.ntmps9
    go_wp2_with fail
    refine (szRat_yes _ _ _ _ _ _ _ _ _ (by omega) (by omega)).mono ?_
    rintro e wz0 ⟨rfl, hb⟩
    have zwz0 : (World.alloc (World.alloc w (.cells #[.bool n0, .slice a0 xs0.length c0, .slice b0 ys0.length d0] 26)) (.cells #[.bool n1, .slice a1 xs1.length c1, .slice b1 ys1.length d1] 26)).heap.size ≤ wz0.heap.size := hb.size
    have hx0_0 : wz0.cell? ⟨w.heap.size, 0, none⟩ = some (.bool n0) := cell_keep hb (cell_keep (bel_alloc _ (.cells #[.bool n1, .slice a1 xs1.length c1, .slice b1 ys1.length d1] 26)) (cell_box w _ _ _ 0 _ (by simp) rfl) (Nat.le_refl _)) (Nat.le_refl _)
    have hx0_1 : wz0.cell? ⟨w.heap.size, 1, none⟩ = some (.slice a0 xs0.length c0) := cell_keep hb (cell_keep (bel_alloc _ (.cells #[.bool n1, .slice a1 xs1.length c1, .slice b1 ys1.length d1] 26)) (cell_box w _ _ _ 1 _ (by simp) rfl) (Nat.le_refl _)) (Nat.le_refl _)
    have hx0_2 : wz0.cell? ⟨w.heap.size, 2, none⟩ = some (.slice b0 ys0.length d0) := cell_keep hb (cell_keep (bel_alloc _ (.cells #[.bool n1, .slice a1 xs1.length c1, .slice b1 ys1.length d1] 26)) (cell_box w _ _ _ 2 _ (by simp) rfl) (Nat.le_refl _)) (Nat.le_refl _)
    have hx1_0 : wz0.cell? ⟨w.heap.size + 1, 0, none⟩ = some (.bool n1) := cell_keep hb (cell_box (World.alloc w (.cells #[.bool n0, .slice a0 xs0.length c0, .slice b0 ys0.length d0] 26)) _ _ _ 0 _ (by simp) rfl) (Nat.le_refl _)
    have hx1_1 : wz0.cell? ⟨w.heap.size + 1, 1, none⟩ = some (.slice a1 xs1.length c1) := cell_keep hb (cell_box (World.alloc w (.cells #[.bool n0, .slice a0 xs0.length c0, .slice b0 ys0.length d0] 26)) _ _ _ 1 _ (by simp) rfl) (Nat.le_refl _)
    have hx1_2 : wz0.cell? ⟨w.heap.size + 1, 2, none⟩ = some (.slice b1 ys1.length d1) := cell_keep hb (cell_box (World.alloc w (.cells #[.bool n0, .slice a0 xs0.length c0, .slice b0 ys0.length d0] 26)) _ _ _ 2 _ (by simp) rfl) (Nat.le_refl _)
    replace hb0 := hb0.trans (hb.mono hb0.size)
    clear hb
    go_wp2_with fail
    refine (szRat_no _ _ _ _ _ _ _ _ _ (by omega) (by omega) (by omega) hp1.1.2 hp1.2.2).mono ?_
    rintro e wz ⟨rfl, hbz⟩
    replace hb0 := hb0.trans (hbz.mono hb0.size)
    go_wp2
    go_ret
    exact ⟨rfl, hb0⟩
  replace hb0 := hb0.trans ((bel_alloc w (.cells #[.bool n0, .slice a0 xs0.length c0, .slice b0 ys0.length d0] 26)).mono (by simp))
  replace hb0 := hb0.trans ((bel_alloc _ (.cells #[.bool n1, .slice a1 xs1.length c1, .slice b1 ys1.length d1] 26)).mono (by simp; try omega))
  have zbox : w.heap.size + 2 ≤ ((World.alloc (World.alloc w (.cells #[.bool n0, .slice a0 xs0.length c0, .slice b0 ys0.length d0] 26)) (.cells #[.bool n1, .slice a1 xs1.length c1, .slice b1 ys1.length d1] 26))).heap.size := by simp
  go_enter Try.func9, Try.ntmps9
  go_wp2_with fail
  refine (szRat_yes _ _ _ _ _ _ _ _ _ (by omega) (by omega)).mono ?_
  rintro e wz0 ⟨rfl, hb⟩
  have zwz0 : (World.alloc (World.alloc w (.cells #[.bool n0, .slice a0 xs0.length c0, .slice b0 ys0.length d0] 26)) (.cells #[.bool n1, .slice a1 xs1.length c1, .slice b1 ys1.length d1] 26)).heap.size ≤ wz0.heap.size := hb.size
  have hx0_0 : wz0.cell? ⟨w.heap.size, 0, none⟩ = some (.bool n0) := cell_keep hb (cell_keep (bel_alloc _ (.cells #[.bool n1, .slice a1 xs1.length c1, .slice b1 ys1.length d1] 26)) (cell_box w _ _ _ 0 _ (by simp) rfl) (Nat.le_refl _)) (Nat.le_refl _)
  have hx0_1 : wz0.cell? ⟨w.heap.size, 1, none⟩ = some (.slice a0 xs0.length c0) := cell_keep hb (cell_keep (bel_alloc _ (.cells #[.bool n1, .slice a1 xs1.length c1, .slice b1 ys1.length d1] 26)) (cell_box w _ _ _ 1 _ (by simp) rfl) (Nat.le_refl _)) (Nat.le_refl _)
  have hx0_2 : wz0.cell? ⟨w.heap.size, 2, none⟩ = some (.slice b0 ys0.length d0) := cell_keep hb (cell_keep (bel_alloc _ (.cells #[.bool n1, .slice a1 xs1.length c1, .slice b1 ys1.length d1] 26)) (cell_box w _ _ _ 2 _ (by simp) rfl) (Nat.le_refl _)) (Nat.le_refl _)
  have hx1_0 : wz0.cell? ⟨w.heap.size + 1, 0, none⟩ = some (.bool n1) := cell_keep hb (cell_box (World.alloc w (.cells #[.bool n0, .slice a0 xs0.length c0, .slice b0 ys0.length d0] 26)) _ _ _ 0 _ (by simp) rfl) (Nat.le_refl _)
  have hx1_1 : wz0.cell? ⟨w.heap.size + 1, 1, none⟩ = some (.slice a1 xs1.length c1) := cell_keep hb (cell_box (World.alloc w (.cells #[.bool n0, .slice a0 xs0.length c0, .slice b0 ys0.length d0] 26)) _ _ _ 1 _ (by simp) rfl) (Nat.le_refl _)
  have hx1_2 : wz0.cell? ⟨w.heap.size + 1, 2, none⟩ = some (.slice b1 ys1.length d1) := cell_keep hb (cell_box (World.alloc w (.cells #[.bool n0, .slice a0 xs0.length c0, .slice b0 ys0.length d0] 26)) _ _ _ 2 _ (by simp) rfl) (Nat.le_refl _)
  replace hb0 := hb0.trans (hb.mono hb0.size)
  clear hb
  go_wp2_with fail
  refine (szRat_yes _ _ _ _ _ _ _ _ _ (by omega) (by omega)).mono ?_
  rintro e wz1 ⟨rfl, hb⟩
  have zwz1 : wz0.heap.size ≤ wz1.heap.size := hb.size
  replace hx0_0 := cell_keep hb hx0_0 (Nat.le_refl _)
  replace hx0_1 := cell_keep hb hx0_1 (Nat.le_refl _)
  replace hx0_2 := cell_keep hb hx0_2 (Nat.le_refl _)
  replace hx1_0 := cell_keep hb hx1_0 (Nat.le_refl _)
  replace hx1_1 := cell_keep hb hx1_1 (Nat.le_refl _)
  replace hx1_2 := cell_keep hb hx1_2 (Nat.le_refl _)
  replace hb0 := hb0.trans (hb.mono hb0.size)
  clear hb
  go_upto_region 8 with fail
  go_cut [6] (fun t wx => t = .int .i64 (fRatCmp n0 xs0 ys0 n1 xs1 ys1) ∧ Below wz1.heap.size wz1 wx)
  case first =>
    have hbq : Below wz1.heap.size wz1 (World.drew wz1) := (Below.refl _ _).drew
    go_region_held3 (fun w' => w'.cell? ⟨w.heap.size, 0, none⟩ = some (.bool n0) ∧ w'.cell? ⟨w.heap.size, 1, none⟩ = some (.slice a0 xs0.length c0) ∧ w'.cell? ⟨w.heap.size, 2, none⟩ = some (.slice b0 ys0.length d0) ∧ w'.cell? ⟨w.heap.size + 1, 0, none⟩ = some (.bool n1) ∧ w'.cell? ⟨w.heap.size + 1, 1, none⟩ = some (.slice a1 xs1.length c1) ∧ w'.cell? ⟨w.heap.size + 1, 2, none⟩ = some (.slice b1 ys1.length d1))
      (first | (exact ⟨cell_keep hbq hx0_0 (Nat.le_refl _), cell_keep hbq hx0_1 (Nat.le_refl _), cell_keep hbq hx0_2 (Nat.le_refl _), cell_keep hbq hx1_0 (Nat.le_refl _), cell_keep hbq hx1_1 (Nat.le_refl _), cell_keep hbq hx1_2 (Nat.le_refl _)⟩) | (exact ⟨hx0_0, hx0_1, hx0_2, hx1_0, hx1_1, hx1_2⟩) | go_keep)
      (first | (go_at_call 36; refine (spec_RatCmp _ _ _ _ _ _ _ _ _ _ _ _ _ _ _ (Slot.inn s0Q (by omega)) (Slot.inn s0R (by omega)) (Slot.inn s1Q (by omega)) (Slot.inn s1R (by omega))).mono ?_; rintro e qC ⟨rfl, hq⟩; (try replace s0Q := s0Q.below hq s0Q.1); (try replace s0R := s0R.below hq s0R.1); (try replace s1Q := s1Q.below hq s1Q.1); (try replace s1R := s1R.below hq s1R.1); have zs := hq.size; replace hbq := hbq.trans (hq.mono hbq.size); clear hq) | (go_at_call 17; (with_reducible show Calls _ _ #[Value.agg #[Value.bool n0, _, _]] _ _); refine (toRat_any n0 a0 c0 xs0 b0 d0 ys0 _ (hp0.1.1.below (hb0.trans (hbq.mono hb0.size)) (Nat.le_refl _)) (hp0.2.1.below (hb0.trans (hbq.mono hb0.size)) (Nat.le_refl _)) (by omega) (by omega)).mono ?_; rintro e q0 ⟨⟨ad0Q, cp0Q, bd0Q, dp0Q, lo0Q, up0Q, lo0R, up0R, rfl, s0Q, s0R, -, -, -⟩, hq⟩; (try replace s1Q := s1Q.below hq s1Q.1); (try replace s1R := s1R.below hq s1R.1); have zs := hq.size; replace hbq := hbq.trans (hq.mono hbq.size); clear hq) | (go_at_call 17; (with_reducible show Calls _ _ #[Value.agg #[Value.bool n1, _, _]] _ _); refine (toRat_any n1 a1 c1 xs1 b1 d1 ys1 _ (hp1.1.1.below (hb0.trans (hbq.mono hb0.size)) (Nat.le_refl _)) (hp1.2.1.below (hb0.trans (hbq.mono hb0.size)) (Nat.le_refl _)) (by omega) (by omega)).mono ?_; rintro e q1 ⟨⟨ad1Q, cp1Q, bd1Q, dp1Q, lo1Q, up1Q, lo1R, up1R, rfl, s1Q, s1R, -, -, -⟩, hq⟩; (try replace s0Q := s0Q.below hq s0Q.1); (try replace s0R := s0R.below hq s0R.1); have zs := hq.size; replace hbq := hbq.trans (hq.mono hbq.size); clear hq))
    all_goals (go_wp2_with fail; go_meet; exact ⟨rfl, hbq⟩)
  case rest =>
  obtain ⟨rfl, hb⟩ := hcut
  obtain ⟨w1, hW⟩ : ∃ x : World, x = wc := ⟨_, rfl⟩
  rw [← hW] at hb ⊢
  clear hW
  have zw1 : wz1.heap.size ≤ w1.heap.size := hb.size
  replace hx0_0 := cell_keep hb hx0_0 (Nat.le_refl _)
  replace hx0_1 := cell_keep hb hx0_1 (Nat.le_refl _)
  replace hx0_2 := cell_keep hb hx0_2 (Nat.le_refl _)
  replace hx1_0 := cell_keep hb hx1_0 (Nat.le_refl _)
  replace hx1_1 := cell_keep hb hx1_1 (Nat.le_refl _)
  replace hx1_2 := cell_keep hb hx1_2 (Nat.le_refl _)
  replace hb0 := hb0.trans (hb.mono hb0.size)
  clear hb
  go_wp2_with fail
  refine (toRat_any _ _ _ _ _ _ _ _ (hp0.1.1.below hb0 (Nat.le_refl _)) (hp0.2.1.below hb0 (Nat.le_refl _)) (by omega) (by omega)).mono ?_
  rintro e w2 ⟨⟨ad1, cp2, bd4, dp5, lo6, up7, lo8, up9, rfl, s10, s11, g12, g13, d14⟩, hb⟩
  have lc15 := s10.le
  have lc16 := s11.le
  have s10u := s10.1
  have s11u := s11.1
  have zw2 : w1.heap.size ≤ w2.heap.size := hb.size
  replace hx0_0 := cell_keep hb hx0_0 (Nat.le_refl _)
  replace hx0_1 := cell_keep hb hx0_1 (Nat.le_refl _)
  replace hx0_2 := cell_keep hb hx0_2 (Nat.le_refl _)
  replace hx1_0 := cell_keep hb hx1_0 (Nat.le_refl _)
  replace hx1_1 := cell_keep hb hx1_1 (Nat.le_refl _)
  replace hx1_2 := cell_keep hb hx1_2 (Nat.le_refl _)
  replace hb0 := hb0.trans (hb.mono hb0.size)
  clear hb
  have hb := bel_alloc w2 (.cells #[.bool n0, .slice ad1 xs0.length cp2, .slice bd4 ys0.length dp5] 31)
  have zb17 : w2.heap.size + 1 ≤ (World.alloc w2 (.cells #[.bool n0, .slice ad1 xs0.length cp2, .slice bd4 ys0.length dp5] 31)).heap.size := by simp
  replace s10 := s10.below hb s10.1
  replace s11 := s11.below hb s11.1
  replace hx0_0 := cell_keep hb hx0_0 (Nat.le_refl _)
  replace hx0_1 := cell_keep hb hx0_1 (Nat.le_refl _)
  replace hx0_2 := cell_keep hb hx0_2 (Nat.le_refl _)
  replace hx1_0 := cell_keep hb hx1_0 (Nat.le_refl _)
  replace hx1_1 := cell_keep hb hx1_1 (Nat.le_refl _)
  replace hx1_2 := cell_keep hb hx1_2 (Nat.le_refl _)
  have hv18 : (World.alloc w2 (.cells #[.bool n0, .slice ad1 xs0.length cp2, .slice bd4 ys0.length dp5] 31)).cell? ⟨w2.heap.size, 0, none⟩ = some (.bool n0) := cell_box w2 _ _ _ 0 _ (by simp) rfl
  have hv19 : (World.alloc w2 (.cells #[.bool n0, .slice ad1 xs0.length cp2, .slice bd4 ys0.length dp5] 31)).cell? ⟨w2.heap.size, 1, none⟩ = some (.slice ad1 xs0.length cp2) := cell_box w2 _ _ _ 1 _ (by simp) rfl
  have hv20 : (World.alloc w2 (.cells #[.bool n0, .slice ad1 xs0.length cp2, .slice bd4 ys0.length dp5] 31)).cell? ⟨w2.heap.size, 2, none⟩ = some (.slice bd4 ys0.length dp5) := cell_box w2 _ _ _ 2 _ (by simp) rfl
  replace hb0 := hb0.trans (hb.mono hb0.size)
  clear hb
  go_wp2_with fail
  refine (toRat_any _ _ _ _ _ _ _ _ (hp1.1.1.below hb0 (Nat.le_refl _)) (hp1.2.1.below hb0 (Nat.le_refl _)) (by omega) (by omega)).mono ?_
  rintro e w3 ⟨⟨ad21, cp22, bd24, dp25, lo26, up27, lo28, up29, rfl, s30, s31, g32, g33, d34⟩, hb⟩
  have lc35 := s30.le
  have lc36 := s31.le
  have s30u := s30.1
  have s31u := s31.1
  have zw3 : (World.alloc w2 (.cells #[.bool n0, .slice ad1 xs0.length cp2, .slice bd4 ys0.length dp5] 31)).heap.size ≤ w3.heap.size := hb.size
  replace s10 := s10.below hb s10.1
  replace s11 := s11.below hb s11.1
  replace hx0_0 := cell_keep hb hx0_0 (Nat.le_refl _)
  replace hx0_1 := cell_keep hb hx0_1 (Nat.le_refl _)
  replace hx0_2 := cell_keep hb hx0_2 (Nat.le_refl _)
  replace hx1_0 := cell_keep hb hx1_0 (Nat.le_refl _)
  replace hx1_1 := cell_keep hb hx1_1 (Nat.le_refl _)
  replace hx1_2 := cell_keep hb hx1_2 (Nat.le_refl _)
  replace hv18 := cell_keep hb hv18 (Nat.le_refl _)
  replace hv19 := cell_keep hb hv19 (Nat.le_refl _)
  replace hv20 := cell_keep hb hv20 (Nat.le_refl _)
  replace hb0 := hb0.trans (hb.mono hb0.size)
  clear hb
  have hb := bel_alloc w3 (.cells #[.bool n1, .slice ad21 xs1.length cp22, .slice bd24 ys1.length dp25] 31)
  have zb37 : w3.heap.size + 1 ≤ (World.alloc w3 (.cells #[.bool n1, .slice ad21 xs1.length cp22, .slice bd24 ys1.length dp25] 31)).heap.size := by simp
  replace s10 := s10.below hb s10.1
  replace s11 := s11.below hb s11.1
  replace s30 := s30.below hb s30.1
  replace s31 := s31.below hb s31.1
  replace hx0_0 := cell_keep hb hx0_0 (Nat.le_refl _)
  replace hx0_1 := cell_keep hb hx0_1 (Nat.le_refl _)
  replace hx0_2 := cell_keep hb hx0_2 (Nat.le_refl _)
  replace hx1_0 := cell_keep hb hx1_0 (Nat.le_refl _)
  replace hx1_1 := cell_keep hb hx1_1 (Nat.le_refl _)
  replace hx1_2 := cell_keep hb hx1_2 (Nat.le_refl _)
  replace hv18 := cell_keep hb hv18 (Nat.le_refl _)
  replace hv19 := cell_keep hb hv19 (Nat.le_refl _)
  replace hv20 := cell_keep hb hv20 (Nat.le_refl _)
  have hv38 : (World.alloc w3 (.cells #[.bool n1, .slice ad21 xs1.length cp22, .slice bd24 ys1.length dp25] 31)).cell? ⟨w3.heap.size, 0, none⟩ = some (.bool n1) := cell_box w3 _ _ _ 0 _ (by simp) rfl
  have hv39 : (World.alloc w3 (.cells #[.bool n1, .slice ad21 xs1.length cp22, .slice bd24 ys1.length dp25] 31)).cell? ⟨w3.heap.size, 1, none⟩ = some (.slice ad21 xs1.length cp22) := cell_box w3 _ _ _ 1 _ (by simp) rfl
  have hv40 : (World.alloc w3 (.cells #[.bool n1, .slice ad21 xs1.length cp22, .slice bd24 ys1.length dp25] 31)).cell? ⟨w3.heap.size, 2, none⟩ = some (.slice bd24 ys1.length dp25) := cell_box w3 _ _ _ 2 _ (by simp) rfl
  replace hb0 := hb0.trans (hb.mono hb0.size)
  clear hb
  go_wp2_with fail
  refine (impl_RatCmp _ _ _ _ _ _ _ _ _ _ _ _ _ _ _ ⟨s10.rd, lc15, (by omega)⟩ ⟨s11.rd, lc16, (by omega)⟩ ⟨s30.rd, lc35, (by omega)⟩ ⟨s31.rd, lc36, (by omega)⟩).mono ?_
  rintro e w4 ⟨rfl, hb⟩
  have zw4 : (World.alloc w3 (.cells #[.bool n1, .slice ad21 xs1.length cp22, .slice bd24 ys1.length dp25] 31)).heap.size ≤ w4.heap.size := hb.size
  replace s10 := s10.below hb s10.1
  replace s11 := s11.below hb s11.1
  replace s30 := s30.below hb s30.1
  replace s31 := s31.below hb s31.1
  replace hx0_0 := cell_keep hb hx0_0 (Nat.le_refl _)
  replace hx0_1 := cell_keep hb hx0_1 (Nat.le_refl _)
  replace hx0_2 := cell_keep hb hx0_2 (Nat.le_refl _)
  replace hx1_0 := cell_keep hb hx1_0 (Nat.le_refl _)
  replace hx1_1 := cell_keep hb hx1_1 (Nat.le_refl _)
  replace hx1_2 := cell_keep hb hx1_2 (Nat.le_refl _)
  replace hv18 := cell_keep hb hv18 (Nat.le_refl _)
  replace hv19 := cell_keep hb hv19 (Nat.le_refl _)
  replace hv20 := cell_keep hb hv20 (Nat.le_refl _)
  replace hv38 := cell_keep hb hv38 (Nat.le_refl _)
  replace hv39 := cell_keep hb hv39 (Nat.le_refl _)
  replace hv40 := cell_keep hb hv40 (Nat.le_refl _)
  replace hb0 := hb0.trans (hb.mono hb0.size)
  clear hb
  go_upto_region 14 with fail
  go_cut [39] (fun t wx => t = .bool false ∧ Below w4.heap.size w4 wx)
  case first =>
    go_region_with (first | (go_at_call 17; refine (toRat_any _ _ _ _ _ _ _ (World.drew w4) (hp0.1.1.below hb0.drew (Nat.le_refl _)) (hp0.2.1.below hb0.drew (Nat.le_refl _)) ?_ ?_).mono ?_; omega; omega; rintro e wA ⟨⟨adA, cpA, bdA, dpA, loA, upA, loA2, upA2, rfl, sA, sA2, gA, gA2, dA⟩, hbA⟩; replace hbA := (Below.refl (w4).heap.size w4).drew.trans hbA; have qhx0_0 := cell_keep hbA hx0_0 (Nat.le_refl _); have qhx0_1 := cell_keep hbA hx0_1 (Nat.le_refl _); have qhx0_2 := cell_keep hbA hx0_2 (Nat.le_refl _); have qhx1_0 := cell_keep hbA hx1_0 (Nat.le_refl _); have qhx1_1 := cell_keep hbA hx1_1 (Nat.le_refl _); have qhx1_2 := cell_keep hbA hx1_2 (Nat.le_refl _); have qhv18 := cell_keep hbA hv18 (Nat.le_refl _); have qhv19 := cell_keep hbA hv19 (Nat.le_refl _); have qhv20 := cell_keep hbA hv20 (Nat.le_refl _); have qhv38 := cell_keep hbA hv38 (Nat.le_refl _); have qhv39 := cell_keep hbA hv39 (Nat.le_refl _); have qhv40 := cell_keep hbA hv40 (Nat.le_refl _)) | (go_at_call 19; refine (eqRat_same _ _ _ _ _ _ _ _ _ _ _ _ (s10.below hbA s10.1).rd sA.rd (s11.below hbA s11.1).rd sA2.rd ?_ ?_).mono ?_; omega; omega; rintro e wB ⟨rfl, hbB⟩))
    all_goals (go_wp2_with fail; go_meet; exact ⟨rfl, hbA.trans (hbB.mono hbA.size)⟩)
  case rest =>
  obtain ⟨rfl, hb⟩ := hcut
  obtain ⟨w5, hW⟩ : ∃ x : World, x = wc := ⟨_, rfl⟩
  rw [← hW] at hb ⊢
  clear hW
  have zw5 : w4.heap.size ≤ w5.heap.size := hb.size
  replace s10 := s10.below hb s10.1
  replace s11 := s11.below hb s11.1
  replace s30 := s30.below hb s30.1
  replace s31 := s31.below hb s31.1
  replace hx0_0 := cell_keep hb hx0_0 (Nat.le_refl _)
  replace hx0_1 := cell_keep hb hx0_1 (Nat.le_refl _)
  replace hx0_2 := cell_keep hb hx0_2 (Nat.le_refl _)
  replace hx1_0 := cell_keep hb hx1_0 (Nat.le_refl _)
  replace hx1_1 := cell_keep hb hx1_1 (Nat.le_refl _)
  replace hx1_2 := cell_keep hb hx1_2 (Nat.le_refl _)
  replace hv18 := cell_keep hb hv18 (Nat.le_refl _)
  replace hv19 := cell_keep hb hv19 (Nat.le_refl _)
  replace hv20 := cell_keep hb hv20 (Nat.le_refl _)
  replace hv38 := cell_keep hb hv38 (Nat.le_refl _)
  replace hv39 := cell_keep hb hv39 (Nat.le_refl _)
  replace hv40 := cell_keep hb hv40 (Nat.le_refl _)
  replace hb0 := hb0.trans (hb.mono hb0.size)
  clear hb
  go_upto_region 16 with fail
  go_cut [44] (fun t wx => t = .bool false ∧ Below w5.heap.size w5 wx)
  case first =>
    go_region_with (first | (go_at_call 17; refine (toRat_any _ _ _ _ _ _ _ (World.drew w5) (hp1.1.1.below hb0.drew (Nat.le_refl _)) (hp1.2.1.below hb0.drew (Nat.le_refl _)) ?_ ?_).mono ?_; omega; omega; rintro e wA ⟨⟨adA, cpA, bdA, dpA, loA, upA, loA2, upA2, rfl, sA, sA2, gA, gA2, dA⟩, hbA⟩; replace hbA := (Below.refl (w5).heap.size w5).drew.trans hbA; have qhx0_0 := cell_keep hbA hx0_0 (Nat.le_refl _); have qhx0_1 := cell_keep hbA hx0_1 (Nat.le_refl _); have qhx0_2 := cell_keep hbA hx0_2 (Nat.le_refl _); have qhx1_0 := cell_keep hbA hx1_0 (Nat.le_refl _); have qhx1_1 := cell_keep hbA hx1_1 (Nat.le_refl _); have qhx1_2 := cell_keep hbA hx1_2 (Nat.le_refl _); have qhv18 := cell_keep hbA hv18 (Nat.le_refl _); have qhv19 := cell_keep hbA hv19 (Nat.le_refl _); have qhv20 := cell_keep hbA hv20 (Nat.le_refl _); have qhv38 := cell_keep hbA hv38 (Nat.le_refl _); have qhv39 := cell_keep hbA hv39 (Nat.le_refl _); have qhv40 := cell_keep hbA hv40 (Nat.le_refl _)) | (go_at_call 19; refine (eqRat_same _ _ _ _ _ _ _ _ _ _ _ _ (s30.below hbA s30.1).rd sA.rd (s31.below hbA s31.1).rd sA2.rd ?_ ?_).mono ?_; omega; omega; rintro e wB ⟨rfl, hbB⟩))
    all_goals (go_wp2_with fail; go_meet; exact ⟨rfl, hbA.trans (hbB.mono hbA.size)⟩)
  case rest =>
  obtain ⟨rfl, hb⟩ := hcut
  obtain ⟨w6, hW⟩ : ∃ x : World, x = wc := ⟨_, rfl⟩
  rw [← hW] at hb ⊢
  clear hW
  have zw6 : w5.heap.size ≤ w6.heap.size := hb.size
  replace s10 := s10.below hb s10.1
  replace s11 := s11.below hb s11.1
  replace s30 := s30.below hb s30.1
  replace s31 := s31.below hb s31.1
  replace hx0_0 := cell_keep hb hx0_0 (Nat.le_refl _)
  replace hx0_1 := cell_keep hb hx0_1 (Nat.le_refl _)
  replace hx0_2 := cell_keep hb hx0_2 (Nat.le_refl _)
  replace hx1_0 := cell_keep hb hx1_0 (Nat.le_refl _)
  replace hx1_1 := cell_keep hb hx1_1 (Nat.le_refl _)
  replace hx1_2 := cell_keep hb hx1_2 (Nat.le_refl _)
  replace hv18 := cell_keep hb hv18 (Nat.le_refl _)
  replace hv19 := cell_keep hb hv19 (Nat.le_refl _)
  replace hv20 := cell_keep hb hv20 (Nat.le_refl _)
  replace hv38 := cell_keep hb hv38 (Nat.le_refl _)
  replace hv39 := cell_keep hb hv39 (Nat.le_refl _)
  replace hv40 := cell_keep hb hv40 (Nat.le_refl _)
  replace hb0 := hb0.trans (hb.mono hb0.size)
  clear hb
  go_wp2
  go_ret
  exact ⟨rfl, hb0⟩

theorem own : ownKnob Try.prog.godebug = none := by kernel_rfl
theorem laidOut : laidOutB Try.prog = true := by kernel_rfl
set_option maxRecDepth 100000 in
theorem lifted (os : Os) (started : os.Started) (H : Type) (enc : TypeId × Value → H) :
    ReturnsInHanded {} Try.checked os 9 .any (Rows.fnExactRatCmpSpec.pre6 enc Try.prog Try.f9 Rows.fnExactRatCmpRow.domain false) (Rows.fnExactRatCmpSpec.post enc Try.prog Try.f9 false true false false) := by
  refine returnsInHanded_of_change (C := Try.checked) own started (by kernel_rfl) Try.func9
    (ChangeSpec.witness6 (enc := enc) (C := Try.checked) false ⟨#[], #[.agg #[.bool false, .slice none 0 0, .slice none 0 0], .agg #[.bool false, .slice none 0 0, .slice none 0 0]], []⟩ 8 (by kernel_rfl) (by kernel_rfl) (by kernel_rfl) (by kernel_rfl)) ?_
  intro W base args ds gs before hval0 hW hcnd _
  have hval : ∀ (j : Nat) t v, Try.f9.params[j]? = some t → args[j]? = some v → Value.okWide Try.prog W .any base t v := hval0
  have hW' := hW
  obtain ⟨p, q, hA0, hV, rfl, hfz, hnd⟩ := hW
  have hA : DataW.TrodAll enc Try.prog W 0 (fun _ => true) true Try.f9.params.toList args.toList ds p := hA0
  rw [Try.params9] at hA hval
  obtain ⟨v0, vs0, d0, ds0, p0, q0, hargs, rfl, rfl, h0, r0⟩ := trodAll_cons hA
  obtain ⟨v1, vs1, d1, ds1, p1, q1, rfl, rfl, rfl, h1, r1⟩ := trodAll_cons r0
  obtain ⟨rfl, rfl, rfl⟩ := trodAll_nil r1
  obtain rfl : args = #[v0, v1] := by cases args; simp_all
  obtain ⟨rfl, rfl⟩ := trodVars_none hV
  have k0 := h0
  have lt0 : ∀ x ∈ p0, x.block < W.heap.size := by obtain ⟨m, hm⟩ := k0; exact DataW.trod_lt m _ _ _ hm
  have k1 := h1
  have lt1 : ∀ x ∈ p1, x.block < W.heap.size := by obtain ⟨m, hm⟩ := k1; exact DataW.trod_lt m _ _ _ hm
  obtain ⟨n0, a0, cap0, xs0, b0, dap0, ys0, rfl, w0⟩ := open_rat (hval 0 26 v0 rfl rfl) h0 rfl
  obtain ⟨n1, a1, cap1, xs1, b1, dap1, ys1, rfl, w1⟩ := open_rat (hval 1 26 v1 rfl rfl) h1 rfl
  clear hA0 hval0
  refine (walk n0 a0 cap0 xs0 b0 dap0 ys0 n1 a1 cap1 xs1 b1 dap1 ys1 W w0 w1).mono fun e W' ⟨he, bel⟩ => ?_
  subst he
  exact ⟨_, rfl, _, _, _, [], _, [], hW', trodAll_mk1 (shut_bool Try.underlying4 _), (trodAll_cons_mk (Below.trod laidOut (by kernel_rfl) (of_decide_eq_true (by kernel_rfl)) k0 bel lt0) (trodAll_cons_mk (Below.trod laidOut (by kernel_rfl) (of_decide_eq_true (by kernel_rfl)) k1 bel lt1) trodAll_mk0)), rfl, bel.frame _, fun h => by cases h⟩

theorem over : Rows.fnExactRatCmpRow.holds Try.pinned (OpenSpec.ofChange Rows.fnExactRatCmpSpec) :=
  OpenClaim.holds_of_wide 9 Try.f9 rfl rfl rfl rfl rfl rfl rfl ⟨rfl, rfl, rfl, rfl, rfl⟩ rfl rfl rfl rfl rfl (by kernel_rfl) Try.func9 (by kernel_rfl)
    (of_decide_eq_true (by kernel_rfl)) (by unfold Func.isWrapper; first | (rw [if_pos (by decide +kernel)]; kernel_rfl) | (rw [if_neg (by decide +kernel)]; exact ⟨rfl, rfl⟩))
    (fun os started H enc _ => lifted os started H enc)

theorem proved : Rows.FnExactRatCmpSaid := over
#print axioms proved
end Go.Proofs.Ytoandabopahmhaa.fnExactRatCmp
