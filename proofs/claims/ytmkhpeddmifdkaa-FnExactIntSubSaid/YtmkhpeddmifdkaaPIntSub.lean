/- The law FnExactIntSub answers true at every input. No condition. (The walk is printed by gen_law.py off the law's text.) -/
import Derived.Test.YtmkhpeddmifdkaaRows
import Derived.Test.YtmkhpeddmifdkaaWIntOf
import Derived.Test.YtmkhpeddmifdkaaWIntFm
import Derived.Test.YtmkhpeddmifdkaaWIntCmi
import Derived.Test.YtmkhpeddmifdkaaWEqInt
import Derived.Test.YtmkhpeddmifdkaaWMark
import Derived.Test.YtmkhpeddmifdkaaReg
import Derived.ProofKit
import Derived.OpenShut
import Derived.ShutString
import Derived.ChangeOld
import Derived.Lib.SmallJoins
import Derived.Deep.RegionWith
import Derived.Deep.RegionHeld3
import Derived.Deep.DeepCutAuto
import Derived.Below
namespace Go.Proofs.Ytmkhpeddmifdkaa.fnExactIntSub
open Go.ChangeShapes Go.WideShapes Go.ChangeAt Go.RowKit
open Go.ChangeMaps (open_string shut_string)
set_option linter.unusedVariables false

set_option maxRecDepth 100000 in
set_option maxHeartbeats 4000000 in
theorem walk (n0 : Bool) (a0 : Option Addr) (c0 : Nat) (xs0 : List Int) (n1 : Bool) (a1 : Option Addr) (c1 : Nat) (xs1 : List Int) (w : World) (hp0 : Rd w a0 xs0 ∧ xs0.length ≤ maxLen) (hp1 : Rd w a1 xs1 ∧ xs1.length ≤ maxLen) :
    Calls Try.prog 13 #[.agg #[.bool n0, .slice a0 xs0.length c0], .agg #[.bool n1, .slice a1 xs1.length c1]] w fun e w' => e = .returned (.bool true) ∧ Below w.heap.size w w' := by
  have hb0 := Below.refl w.heap.size w
  have hm0 := hp0.2
  unfold maxLen at hm0
  have hm1 := hp1.2
  unfold maxLen at hm1
  by_cases hs0 : (xs0.length : Int) ≤ 1048576
  rotate_left
  · replace hb0 := hb0.trans ((bel_alloc w (.cells #[.bool n0, .slice a0 xs0.length c0] 24)).mono (by simp))
    replace hb0 := hb0.trans ((bel_alloc _ (.cells #[.bool n1, .slice a1 xs1.length c1] 24)).mono (by simp; try omega))
    have zbox : w.heap.size + 2 ≤ ((World.alloc (World.alloc w (.cells #[.bool n0, .slice a0 xs0.length c0] 24)) (.cells #[.bool n1, .slice a1 xs1.length c1] 24))).heap.size := by simp
    go_enter Try.func13, Try.ntmps13
    go_wp2_with fail
    refine (szSigned_no _ _ _ _ _ _ (by omega) (by omega) (by omega) hp0.2).mono ?_
    rintro e wz ⟨rfl, hbz⟩
    replace hb0 := hb0.trans (hbz.mono hb0.size)
    go_wp2
    go_ret
    exact ⟨rfl, hb0⟩
  by_cases hs1 : (xs1.length : Int) ≤ 1048576 - (xs0.length : Int)
  rotate_left
  · replace hb0 := hb0.trans ((bel_alloc w (.cells #[.bool n0, .slice a0 xs0.length c0] 24)).mono (by simp))
    replace hb0 := hb0.trans ((bel_alloc _ (.cells #[.bool n1, .slice a1 xs1.length c1] 24)).mono (by simp; try omega))
    have zbox : w.heap.size + 2 ≤ ((World.alloc (World.alloc w (.cells #[.bool n0, .slice a0 xs0.length c0] 24)) (.cells #[.bool n1, .slice a1 xs1.length c1] 24))).heap.size := by simp
    go_enter Try.func13, Try.ntmps13
    go_wp2_with fail
    refine (szSigned_yes _ _ _ _ _ _ (by omega) (by omega)).mono ?_
    rintro e wz0 ⟨rfl, hb⟩
    have zwz0 : (World.alloc (World.alloc w (.cells #[.bool n0, .slice a0 xs0.length c0] 24)) (.cells #[.bool n1, .slice a1 xs1.length c1] 24)).heap.size ≤ wz0.heap.size := hb.size
    have hx0_0 : wz0.cell? ⟨w.heap.size, 0, none⟩ = some (.bool n0) := cell_keep hb (cell_keep (bel_alloc _ (.cells #[.bool n1, .slice a1 xs1.length c1] 24)) (cell_box w _ _ _ 0 _ (by simp) rfl) (Nat.le_refl _)) (Nat.le_refl _)
    have hx0_1 : wz0.cell? ⟨w.heap.size, 1, none⟩ = some (.slice a0 xs0.length c0) := cell_keep hb (cell_keep (bel_alloc _ (.cells #[.bool n1, .slice a1 xs1.length c1] 24)) (cell_box w _ _ _ 1 _ (by simp) rfl) (Nat.le_refl _)) (Nat.le_refl _)
    have hx1_0 : wz0.cell? ⟨w.heap.size + 1, 0, none⟩ = some (.bool n1) := cell_keep hb (cell_box (World.alloc w (.cells #[.bool n0, .slice a0 xs0.length c0] 24)) _ _ _ 0 _ (by simp) rfl) (Nat.le_refl _)
    have hx1_1 : wz0.cell? ⟨w.heap.size + 1, 1, none⟩ = some (.slice a1 xs1.length c1) := cell_keep hb (cell_box (World.alloc w (.cells #[.bool n0, .slice a0 xs0.length c0] 24)) _ _ _ 1 _ (by simp) rfl) (Nat.le_refl _)
    replace hb0 := hb0.trans (hb.mono hb0.size)
    clear hb
    go_wp2_with fail
    refine (szSigned_no _ _ _ _ _ _ (by omega) (by omega) (by omega) hp1.2).mono ?_
    rintro e wz ⟨rfl, hbz⟩
    replace hb0 := hb0.trans (hbz.mono hb0.size)
    go_wp2
    go_ret
    exact ⟨rfl, hb0⟩
  replace hb0 := hb0.trans ((bel_alloc w (.cells #[.bool n0, .slice a0 xs0.length c0] 24)).mono (by simp))
  replace hb0 := hb0.trans ((bel_alloc _ (.cells #[.bool n1, .slice a1 xs1.length c1] 24)).mono (by simp; try omega))
  have zbox : w.heap.size + 2 ≤ ((World.alloc (World.alloc w (.cells #[.bool n0, .slice a0 xs0.length c0] 24)) (.cells #[.bool n1, .slice a1 xs1.length c1] 24))).heap.size := by simp
  go_enter Try.func13, Try.ntmps13
  go_wp2_with fail
  refine (szSigned_yes _ _ _ _ _ _ (by omega) (by omega)).mono ?_
  rintro e wz0 ⟨rfl, hb⟩
  have zwz0 : (World.alloc (World.alloc w (.cells #[.bool n0, .slice a0 xs0.length c0] 24)) (.cells #[.bool n1, .slice a1 xs1.length c1] 24)).heap.size ≤ wz0.heap.size := hb.size
  have hx0_0 : wz0.cell? ⟨w.heap.size, 0, none⟩ = some (.bool n0) := cell_keep hb (cell_keep (bel_alloc _ (.cells #[.bool n1, .slice a1 xs1.length c1] 24)) (cell_box w _ _ _ 0 _ (by simp) rfl) (Nat.le_refl _)) (Nat.le_refl _)
  have hx0_1 : wz0.cell? ⟨w.heap.size, 1, none⟩ = some (.slice a0 xs0.length c0) := cell_keep hb (cell_keep (bel_alloc _ (.cells #[.bool n1, .slice a1 xs1.length c1] 24)) (cell_box w _ _ _ 1 _ (by simp) rfl) (Nat.le_refl _)) (Nat.le_refl _)
  have hx1_0 : wz0.cell? ⟨w.heap.size + 1, 0, none⟩ = some (.bool n1) := cell_keep hb (cell_box (World.alloc w (.cells #[.bool n0, .slice a0 xs0.length c0] 24)) _ _ _ 0 _ (by simp) rfl) (Nat.le_refl _)
  have hx1_1 : wz0.cell? ⟨w.heap.size + 1, 1, none⟩ = some (.slice a1 xs1.length c1) := cell_keep hb (cell_box (World.alloc w (.cells #[.bool n0, .slice a0 xs0.length c0] 24)) _ _ _ 1 _ (by simp) rfl) (Nat.le_refl _)
  replace hb0 := hb0.trans (hb.mono hb0.size)
  clear hb
  go_wp2_with fail
  refine (szSigned_yes _ _ _ _ _ _ (by omega) (by omega)).mono ?_
  rintro e wz1 ⟨rfl, hb⟩
  have zwz1 : wz0.heap.size ≤ wz1.heap.size := hb.size
  replace hx0_0 := cell_keep hb hx0_0 (Nat.le_refl _)
  replace hx0_1 := cell_keep hb hx0_1 (Nat.le_refl _)
  replace hx1_0 := cell_keep hb hx1_0 (Nat.le_refl _)
  replace hx1_1 := cell_keep hb hx1_1 (Nat.le_refl _)
  replace hb0 := hb0.trans (hb.mono hb0.size)
  clear hb
  go_upto_region 8 with fail
  go_cut [6] (fun t wx => ∃ (kb : Nat) (ad : Option Addr) (cp : Nat), t = .pointer (some ⟨kb, 0, none⟩) ∧ wx.cell? ⟨kb, 0, none⟩ = some (.bool (fISub n0 xs0 n1 xs1).1) ∧ wx.cell? ⟨kb, 1, none⟩ = some (.slice ad (fISub n0 xs0 n1 xs1).2.length cp) ∧ Own wx wz1.heap.size ad cp (fISub n0 xs0 n1 xs1).2 ∧ (fISub n0 xs0 n1 xs1).2.length ≤ 50 ∧ Below wz1.heap.size wz1 wx)
  case first =>
    have S0 : (wz1).cell? ⟨w.heap.size, 0, none⟩ = some (.bool n0) ∧ (wz1).cell? ⟨w.heap.size, 1, none⟩ = some (.slice a0 xs0.length c0) ∧ (wz1).cell? ⟨w.heap.size + 1, 0, none⟩ = some (.bool n1) ∧ (wz1).cell? ⟨w.heap.size + 1, 1, none⟩ = some (.slice a1 xs1.length c1) := ⟨hx0_0, hx0_1, hx1_0, hx1_1⟩
    go_region_held3 (fun w' => w'.cell? ⟨w.heap.size, 0, none⟩ = some (.bool n0) ∧ w'.cell? ⟨w.heap.size, 1, none⟩ = some (.slice a0 xs0.length c0) ∧ w'.cell? ⟨w.heap.size + 1, 0, none⟩ = some (.bool n1) ∧ w'.cell? ⟨w.heap.size + 1, 1, none⟩ = some (.slice a1 xs1.length c1))
      (first | (exact ⟨far2 (by omega) qC_hx0_0, far2 (by omega) qC_hx0_1, far2 (by omega) qC_hx1_0, far2 (by omega) qC_hx1_1⟩) | (exact ⟨cell_keep (bel_alloc _ _) qC_hx0_0 (Nat.le_refl _), cell_keep (bel_alloc _ _) qC_hx0_1 (Nat.le_refl _), cell_keep (bel_alloc _ _) qC_hx1_0 (Nat.le_refl _), cell_keep (bel_alloc _ _) qC_hx1_1 (Nat.le_refl _)⟩) | (exact ⟨qC_hx0_0, qC_hx0_1, qC_hx1_0, qC_hx1_1⟩) | (exact ⟨qB_hx0_0, qB_hx0_1, qB_hx1_0, qB_hx1_1⟩) | (exact ⟨qA_hx0_0, qA_hx0_1, qA_hx1_0, qA_hx1_1⟩) | (exact S0) | go_keep)
      (first | (have gC := hdB; go_at_call 40; refine (spec_IntSub _ _ _ _ _ _ _ _ _ (by first | exact hIA | exact hIA.alloc _) (by first | exact hIB | exact hIB.alloc _)).mono ?_; rintro e wC ⟨⟨adC, cpC, rfl, hoC, hnC⟩, hbC⟩; have heC : Below wz1.heap.size wz1 wC := (by first | exact heB.trans (hbC.mono heB.size) | exact (heB.alloc heB.size _).trans (hbC.mono ((heB.alloc heB.size _).size))); have hdC := hb0.trans (heC.mono hb0.size); have qC_hx0_0 := cell_keep heC hx0_0 (Nat.le_refl _); have qC_hx0_1 := cell_keep heC hx0_1 (Nat.le_refl _); have qC_hx1_0 := cell_keep heC hx1_0 (Nat.le_refl _); have qC_hx1_1 := cell_keep heC hx1_1 (Nat.le_refl _); (first | (have rC0 : wC.cell? ⟨wB.heap.size, 0, none⟩ = some (.bool false) := cell_keep hbC (cell_box wB _ _ _ 0 _ rfl rfl) (Nat.le_refl _); have fC0 : wC.frozen? ⟨wB.heap.size, 0, none⟩ = false := (hbC.frozen (p := ⟨wB.heap.size, 0, none⟩) (by simp)).trans (box_frozen wB _ _ _ 0 rfl); have xC : wB.heap.size < wC.heap.size := World.block_lt_of_cell? _ _ rC0) | (have rC0 := cell_keep hbC rB0 (Nat.le_refl _); have fC0 := (hbC.frozen (p := ⟨_, 0, none⟩) (World.block_lt_of_cell? _ _ rB0)).trans fB0) | skip); (first | (have rC1 : wC.cell? ⟨wB.heap.size, 1, none⟩ = some (.slice none 0 0) := cell_keep hbC (cell_box wB _ _ _ 1 _ rfl rfl) (Nat.le_refl _); have fC1 : wC.frozen? ⟨wB.heap.size, 1, none⟩ = false := (hbC.frozen (p := ⟨wB.heap.size, 1, none⟩) (by simp)).trans (box_frozen wB _ _ _ 1 rfl)) | (have rC1 := cell_keep hbC rB1 (Nat.le_refl _); have fC1 := (hbC.frozen (p := ⟨_, 1, none⟩) (World.block_lt_of_cell? _ _ rB1)).trans fB1) | skip); have zC := heC.size; have yC : wB.heap.size ≤ wC.heap.size := (by first | exact hbC.size | exact Nat.le_trans (by simp) hbC.size)) | (have gB := hdA; go_at_call 17; refine (toSigned_any n1 a1 c1 xs1 _ (hp1.1.below (by first | exact hdA | exact hdA.alloc hdA.size _) (Nat.le_refl _)) ?_).mono ?_; omega; rintro e wB ⟨⟨adB, cpB, rfl, hoB⟩, hbB⟩; have heB : Below wz1.heap.size wz1 wB := (by first | exact heA.trans (hbB.mono heA.size) | exact (heA.alloc heA.size _).trans (hbB.mono ((heA.alloc heA.size _).size))); have hdB := hb0.trans (heB.mono hb0.size); have hIB := hoB.inn (by omega); have hIA : In wB adA cpA xs0 := (by first | exact (hoA.inn (by omega)).below hbB (Nat.le_refl _) | exact ((hoA.inn (by omega)).alloc _).below hbB (Nat.le_refl _)); have qB_hx0_0 := cell_keep heB hx0_0 (Nat.le_refl _); have qB_hx0_1 := cell_keep heB hx0_1 (Nat.le_refl _); have qB_hx1_0 := cell_keep heB hx1_0 (Nat.le_refl _); have qB_hx1_1 := cell_keep heB hx1_1 (Nat.le_refl _); (first | (have rB0 : wB.cell? ⟨wA.heap.size, 0, none⟩ = some (.bool false) := cell_keep hbB (cell_box wA _ _ _ 0 _ rfl rfl) (Nat.le_refl _); have fB0 : wB.frozen? ⟨wA.heap.size, 0, none⟩ = false := (hbB.frozen (p := ⟨wA.heap.size, 0, none⟩) (by simp)).trans (box_frozen wA _ _ _ 0 rfl); have xB : wA.heap.size < wB.heap.size := World.block_lt_of_cell? _ _ rB0) | (have rB0 := cell_keep hbB rA0 (Nat.le_refl _); have fB0 := (hbB.frozen (p := ⟨_, 0, none⟩) (World.block_lt_of_cell? _ _ rA0)).trans fA0) | skip); (first | (have rB1 : wB.cell? ⟨wA.heap.size, 1, none⟩ = some (.slice none 0 0) := cell_keep hbB (cell_box wA _ _ _ 1 _ rfl rfl) (Nat.le_refl _); have fB1 : wB.frozen? ⟨wA.heap.size, 1, none⟩ = false := (hbB.frozen (p := ⟨wA.heap.size, 1, none⟩) (by simp)).trans (box_frozen wA _ _ _ 1 rfl)) | (have rB1 := cell_keep hbB rA1 (Nat.le_refl _); have fB1 := (hbB.frozen (p := ⟨_, 1, none⟩) (World.block_lt_of_cell? _ _ rA1)).trans fA1) | skip); have zB := heB.size; have yB : wA.heap.size ≤ wB.heap.size := (by first | exact hbB.size | exact Nat.le_trans (by simp) hbB.size)) | (go_at_call 17; refine (toSigned_any n0 a0 c0 xs0 _ (hp0.1.below (by first | exact hb0.drew | exact hb0.drew.alloc hb0.size _) (Nat.le_refl _)) ?_).mono ?_; omega; rintro e wA ⟨⟨adA, cpA, rfl, hoA⟩, hbA⟩; have heA : Below wz1.heap.size wz1 wA := (by first | exact (Below.refl _ _).drew.trans hbA | exact ((Below.refl _ _).drew.alloc (Nat.le_refl _) _).trans (hbA.mono (by simp))); have hdA := hb0.trans (heA.mono hb0.size); have qA_hx0_0 := cell_keep heA hx0_0 (Nat.le_refl _); have qA_hx0_1 := cell_keep heA hx0_1 (Nat.le_refl _); have qA_hx1_0 := cell_keep heA hx1_0 (Nat.le_refl _); have qA_hx1_1 := cell_keep heA hx1_1 (Nat.le_refl _); (first | (have rA0 : wA.cell? ⟨wz1.heap.size, 0, none⟩ = some (.bool false) := cell_keep hbA (cell_box (World.drew wz1) _ _ _ 0 _ rfl rfl) (Nat.le_refl _); have fA0 : wA.frozen? ⟨wz1.heap.size, 0, none⟩ = false := (hbA.frozen (p := ⟨wz1.heap.size, 0, none⟩) (by simp)).trans (box_frozen (World.drew wz1) _ _ _ 0 rfl); have xA : wz1.heap.size < wA.heap.size := World.block_lt_of_cell? _ _ rA0) | skip); (first | (have rA1 : wA.cell? ⟨wz1.heap.size, 1, none⟩ = some (.slice none 0 0) := cell_keep hbA (cell_box (World.drew wz1) _ _ _ 1 _ rfl rfl) (Nat.le_refl _); have fA1 : wA.frozen? ⟨wz1.heap.size, 1, none⟩ = false := (hbA.frozen (p := ⟨wz1.heap.size, 1, none⟩) (by simp)).trans (box_frozen (World.drew wz1) _ _ _ 1 rfl)) | skip); have zA := heA.size))
    all_goals (go_wp2_with fail; go_meet; first | exact ⟨_, _, _, rfl, cell_box _ _ _ _ 0 _ rfl rfl, cell_box _ _ _ _ 1 _ rfl rfl, (hoC.mono (by omega)).alloc _, hnC, heC.trans ((bel_alloc _ _).mono heC.size)⟩ | exact ⟨_, _, _, rfl, set2_cell0 rC0, set2_cell1 rC1, set2_own hoC (by first | omega | (rw [World.size_alloc]; omega)) (by first | omega | (rw [World.size_alloc]; omega)), hnC, set2_below heC (by omega)⟩)
  case rest =>
  obtain ⟨kb1, ad2, cp3, rfl, hv6, hv7, ho4, hn5, hb⟩ := hcut
  obtain ⟨w1, hW⟩ : ∃ x : World, x = wc := ⟨_, rfl⟩
  rw [← hW] at hv6 hv7 ho4 hb ⊢
  clear hW
  have zk8 : kb1 < w1.heap.size := World.block_lt_of_cell? w1 ⟨kb1, 0, none⟩ hv6
  have s9 := Slot.of ho4
  have lc10 := (ho4.inn (by omega)).2.1
  clear ho4
  have zw1 : wz1.heap.size ≤ w1.heap.size := hb.size
  replace hx0_0 := cell_keep hb hx0_0 (Nat.le_refl _)
  replace hx0_1 := cell_keep hb hx0_1 (Nat.le_refl _)
  replace hx1_0 := cell_keep hb hx1_0 (Nat.le_refl _)
  replace hx1_1 := cell_keep hb hx1_1 (Nat.le_refl _)
  replace hb0 := hb0.trans (hb.mono hb0.size)
  clear hb
  go_wp2_with fail
  refine (toSigned_any _ _ _ _ _ (hp0.1.below hb0 (Nat.le_refl _)) (by omega)).mono ?_
  rintro e w2 ⟨⟨ad11, cp12, rfl, ho13⟩, hb⟩
  have s14 := Slot.of ho13
  have lc15 := (ho13.inn (by omega)).2.1
  clear ho13
  have zw2 : w1.heap.size ≤ w2.heap.size := hb.size
  replace s9 := s9.below hb s9.1
  replace hx0_0 := cell_keep hb hx0_0 (Nat.le_refl _)
  replace hx0_1 := cell_keep hb hx0_1 (Nat.le_refl _)
  replace hx1_0 := cell_keep hb hx1_0 (Nat.le_refl _)
  replace hx1_1 := cell_keep hb hx1_1 (Nat.le_refl _)
  replace hv6 := cell_keep hb hv6 (Nat.le_refl _)
  replace hv7 := cell_keep hb hv7 (Nat.le_refl _)
  replace hb0 := hb0.trans (hb.mono hb0.size)
  clear hb
  have hb := bel_alloc w2 (.cells #[.bool n0, .slice ad11 xs0.length cp12] 27)
  have zb16 : w2.heap.size + 1 ≤ (World.alloc w2 (.cells #[.bool n0, .slice ad11 xs0.length cp12] 27)).heap.size := by simp
  replace s9 := s9.below hb s9.1
  replace s14 := s14.below hb s14.1
  replace hx0_0 := cell_keep hb hx0_0 (Nat.le_refl _)
  replace hx0_1 := cell_keep hb hx0_1 (Nat.le_refl _)
  replace hx1_0 := cell_keep hb hx1_0 (Nat.le_refl _)
  replace hx1_1 := cell_keep hb hx1_1 (Nat.le_refl _)
  replace hv6 := cell_keep hb hv6 (Nat.le_refl _)
  replace hv7 := cell_keep hb hv7 (Nat.le_refl _)
  have hv17 : (World.alloc w2 (.cells #[.bool n0, .slice ad11 xs0.length cp12] 27)).cell? ⟨w2.heap.size, 0, none⟩ = some (.bool n0) := cell_box w2 _ _ _ 0 _ (by simp) rfl
  have hv18 : (World.alloc w2 (.cells #[.bool n0, .slice ad11 xs0.length cp12] 27)).cell? ⟨w2.heap.size, 1, none⟩ = some (.slice ad11 xs0.length cp12) := cell_box w2 _ _ _ 1 _ (by simp) rfl
  replace hb0 := hb0.trans (hb.mono hb0.size)
  clear hb
  go_wp2_with fail
  refine (toSigned_any _ _ _ _ _ (hp1.1.below hb0 (Nat.le_refl _)) (by omega)).mono ?_
  rintro e w3 ⟨⟨ad19, cp20, rfl, ho21⟩, hb⟩
  have s22 := Slot.of ho21
  have lc23 := (ho21.inn (by omega)).2.1
  clear ho21
  have zw3 : (World.alloc w2 (.cells #[.bool n0, .slice ad11 xs0.length cp12] 27)).heap.size ≤ w3.heap.size := hb.size
  replace s9 := s9.below hb s9.1
  replace s14 := s14.below hb s14.1
  replace hx0_0 := cell_keep hb hx0_0 (Nat.le_refl _)
  replace hx0_1 := cell_keep hb hx0_1 (Nat.le_refl _)
  replace hx1_0 := cell_keep hb hx1_0 (Nat.le_refl _)
  replace hx1_1 := cell_keep hb hx1_1 (Nat.le_refl _)
  replace hv6 := cell_keep hb hv6 (Nat.le_refl _)
  replace hv7 := cell_keep hb hv7 (Nat.le_refl _)
  replace hv17 := cell_keep hb hv17 (Nat.le_refl _)
  replace hv18 := cell_keep hb hv18 (Nat.le_refl _)
  replace hb0 := hb0.trans (hb.mono hb0.size)
  clear hb
  have hb := bel_alloc w3 (.cells #[.bool n1, .slice ad19 xs1.length cp20] 27)
  have zb24 : w3.heap.size + 1 ≤ (World.alloc w3 (.cells #[.bool n1, .slice ad19 xs1.length cp20] 27)).heap.size := by simp
  replace s9 := s9.below hb s9.1
  replace s14 := s14.below hb s14.1
  replace s22 := s22.below hb s22.1
  replace hx0_0 := cell_keep hb hx0_0 (Nat.le_refl _)
  replace hx0_1 := cell_keep hb hx0_1 (Nat.le_refl _)
  replace hx1_0 := cell_keep hb hx1_0 (Nat.le_refl _)
  replace hx1_1 := cell_keep hb hx1_1 (Nat.le_refl _)
  replace hv6 := cell_keep hb hv6 (Nat.le_refl _)
  replace hv7 := cell_keep hb hv7 (Nat.le_refl _)
  replace hv17 := cell_keep hb hv17 (Nat.le_refl _)
  replace hv18 := cell_keep hb hv18 (Nat.le_refl _)
  have hv25 : (World.alloc w3 (.cells #[.bool n1, .slice ad19 xs1.length cp20] 27)).cell? ⟨w3.heap.size, 0, none⟩ = some (.bool n1) := cell_box w3 _ _ _ 0 _ (by simp) rfl
  have hv26 : (World.alloc w3 (.cells #[.bool n1, .slice ad19 xs1.length cp20] 27)).cell? ⟨w3.heap.size, 1, none⟩ = some (.slice ad19 xs1.length cp20) := cell_box w3 _ _ _ 1 _ (by simp) rfl
  replace hb0 := hb0.trans (hb.mono hb0.size)
  clear hb
  go_wp2_with fail
  refine (impl_IntSub _ _ _ _ _ _ _ _ _ ⟨s14.rd, lc15, (by omega)⟩ ⟨s22.rd, lc23, (by omega)⟩).mono ?_
  rintro e w4 ⟨⟨ad27, cp28, rfl, ho29, hn30⟩, hb⟩
  have s31 := Slot.of ho29
  have lc32 := (ho29.inn (by omega)).2.1
  clear ho29
  have zw4 : (World.alloc w3 (.cells #[.bool n1, .slice ad19 xs1.length cp20] 27)).heap.size ≤ w4.heap.size := hb.size
  replace s9 := s9.below hb s9.1
  replace s14 := s14.below hb s14.1
  replace s22 := s22.below hb s22.1
  replace hx0_0 := cell_keep hb hx0_0 (Nat.le_refl _)
  replace hx0_1 := cell_keep hb hx0_1 (Nat.le_refl _)
  replace hx1_0 := cell_keep hb hx1_0 (Nat.le_refl _)
  replace hx1_1 := cell_keep hb hx1_1 (Nat.le_refl _)
  replace hv6 := cell_keep hb hv6 (Nat.le_refl _)
  replace hv7 := cell_keep hb hv7 (Nat.le_refl _)
  replace hv17 := cell_keep hb hv17 (Nat.le_refl _)
  replace hv18 := cell_keep hb hv18 (Nat.le_refl _)
  replace hv25 := cell_keep hb hv25 (Nat.le_refl _)
  replace hv26 := cell_keep hb hv26 (Nat.le_refl _)
  replace hb0 := hb0.trans (hb.mono hb0.size)
  clear hb
  have hb := bel_alloc w4 (.cells #[.bool (fISub n0 xs0 n1 xs1).1, .slice ad27 (fISub n0 xs0 n1 xs1).2.length cp28] 27)
  have zb33 : w4.heap.size + 1 ≤ (World.alloc w4 (.cells #[.bool (fISub n0 xs0 n1 xs1).1, .slice ad27 (fISub n0 xs0 n1 xs1).2.length cp28] 27)).heap.size := by simp
  replace s9 := s9.below hb s9.1
  replace s14 := s14.below hb s14.1
  replace s22 := s22.below hb s22.1
  replace s31 := s31.below hb s31.1
  replace hx0_0 := cell_keep hb hx0_0 (Nat.le_refl _)
  replace hx0_1 := cell_keep hb hx0_1 (Nat.le_refl _)
  replace hx1_0 := cell_keep hb hx1_0 (Nat.le_refl _)
  replace hx1_1 := cell_keep hb hx1_1 (Nat.le_refl _)
  replace hv6 := cell_keep hb hv6 (Nat.le_refl _)
  replace hv7 := cell_keep hb hv7 (Nat.le_refl _)
  replace hv17 := cell_keep hb hv17 (Nat.le_refl _)
  replace hv18 := cell_keep hb hv18 (Nat.le_refl _)
  replace hv25 := cell_keep hb hv25 (Nat.le_refl _)
  replace hv26 := cell_keep hb hv26 (Nat.le_refl _)
  have hv34 : (World.alloc w4 (.cells #[.bool (fISub n0 xs0 n1 xs1).1, .slice ad27 (fISub n0 xs0 n1 xs1).2.length cp28] 27)).cell? ⟨w4.heap.size, 0, none⟩ = some (.bool (fISub n0 xs0 n1 xs1).1) := cell_box w4 _ _ _ 0 _ (by simp) rfl
  have hv35 : (World.alloc w4 (.cells #[.bool (fISub n0 xs0 n1 xs1).1, .slice ad27 (fISub n0 xs0 n1 xs1).2.length cp28] 27)).cell? ⟨w4.heap.size, 1, none⟩ = some (.slice ad27 (fISub n0 xs0 n1 xs1).2.length cp28) := cell_box w4 _ _ _ 1 _ (by simp) rfl
  replace hb0 := hb0.trans (hb.mono hb0.size)
  clear hb
  go_wp2_with fail
  refine (eqSigned_same _ _ _ _ _ _ _ s31.rd s9.rd (by omega)).mono ?_
  rintro e w5 ⟨rfl, hb⟩
  have zw5 : (World.alloc w4 (.cells #[.bool (fISub n0 xs0 n1 xs1).1, .slice ad27 (fISub n0 xs0 n1 xs1).2.length cp28] 27)).heap.size ≤ w5.heap.size := hb.size
  replace s9 := s9.below hb s9.1
  replace s14 := s14.below hb s14.1
  replace s22 := s22.below hb s22.1
  replace s31 := s31.below hb s31.1
  replace hx0_0 := cell_keep hb hx0_0 (Nat.le_refl _)
  replace hx0_1 := cell_keep hb hx0_1 (Nat.le_refl _)
  replace hx1_0 := cell_keep hb hx1_0 (Nat.le_refl _)
  replace hx1_1 := cell_keep hb hx1_1 (Nat.le_refl _)
  replace hv6 := cell_keep hb hv6 (Nat.le_refl _)
  replace hv7 := cell_keep hb hv7 (Nat.le_refl _)
  replace hv17 := cell_keep hb hv17 (Nat.le_refl _)
  replace hv18 := cell_keep hb hv18 (Nat.le_refl _)
  replace hv25 := cell_keep hb hv25 (Nat.le_refl _)
  replace hv26 := cell_keep hb hv26 (Nat.le_refl _)
  replace hv34 := cell_keep hb hv34 (Nat.le_refl _)
  replace hv35 := cell_keep hb hv35 (Nat.le_refl _)
  replace hb0 := hb0.trans (hb.mono hb0.size)
  clear hb
  go_upto_region 14 with fail
  go_cut [44] (fun t wx => t = .bool false ∧ Below w5.heap.size w5 wx)
  case first =>
    go_region_with (first | (go_at_call 17; refine (toSigned_any _ _ _ _ (World.drew w5) (hp0.1.below hb0.drew (Nat.le_refl _)) ?_).mono ?_; omega; rintro e wA ⟨⟨adA, cpA, rfl, hoA⟩, hbA⟩; replace hbA := (Below.refl (w5).heap.size w5).drew.trans hbA; have qhx0_0 := cell_keep hbA hx0_0 (Nat.le_refl _); have qhx0_1 := cell_keep hbA hx0_1 (Nat.le_refl _); have qhx1_0 := cell_keep hbA hx1_0 (Nat.le_refl _); have qhx1_1 := cell_keep hbA hx1_1 (Nat.le_refl _); have qhv6 := cell_keep hbA hv6 (Nat.le_refl _); have qhv7 := cell_keep hbA hv7 (Nat.le_refl _); have qhv17 := cell_keep hbA hv17 (Nat.le_refl _); have qhv18 := cell_keep hbA hv18 (Nat.le_refl _); have qhv25 := cell_keep hbA hv25 (Nat.le_refl _); have qhv26 := cell_keep hbA hv26 (Nat.le_refl _); have qhv34 := cell_keep hbA hv34 (Nat.le_refl _); have qhv35 := cell_keep hbA hv35 (Nat.le_refl _)) | (go_at_call 19; refine (eqSigned_same _ _ _ _ _ _ _ (s14.below hbA s14.1).rd hoA.rd ?_).mono ?_; omega; rintro e wB ⟨rfl, hbB⟩))
    all_goals (go_wp2_with fail; go_meet; exact ⟨rfl, hbA.trans (hbB.mono hbA.size)⟩)
  case rest =>
  obtain ⟨rfl, hb⟩ := hcut
  obtain ⟨w6, hW⟩ : ∃ x : World, x = wc := ⟨_, rfl⟩
  rw [← hW] at hb ⊢
  clear hW
  have zw6 : w5.heap.size ≤ w6.heap.size := hb.size
  replace s9 := s9.below hb s9.1
  replace s14 := s14.below hb s14.1
  replace s22 := s22.below hb s22.1
  replace s31 := s31.below hb s31.1
  replace hx0_0 := cell_keep hb hx0_0 (Nat.le_refl _)
  replace hx0_1 := cell_keep hb hx0_1 (Nat.le_refl _)
  replace hx1_0 := cell_keep hb hx1_0 (Nat.le_refl _)
  replace hx1_1 := cell_keep hb hx1_1 (Nat.le_refl _)
  replace hv6 := cell_keep hb hv6 (Nat.le_refl _)
  replace hv7 := cell_keep hb hv7 (Nat.le_refl _)
  replace hv17 := cell_keep hb hv17 (Nat.le_refl _)
  replace hv18 := cell_keep hb hv18 (Nat.le_refl _)
  replace hv25 := cell_keep hb hv25 (Nat.le_refl _)
  replace hv26 := cell_keep hb hv26 (Nat.le_refl _)
  replace hv34 := cell_keep hb hv34 (Nat.le_refl _)
  replace hv35 := cell_keep hb hv35 (Nat.le_refl _)
  replace hb0 := hb0.trans (hb.mono hb0.size)
  clear hb
  go_upto_region 16 with fail
  go_cut [49] (fun t wx => t = .bool false ∧ Below w6.heap.size w6 wx)
  case first =>
    go_region_with (first | (go_at_call 17; refine (toSigned_any _ _ _ _ (World.drew w6) (hp1.1.below hb0.drew (Nat.le_refl _)) ?_).mono ?_; omega; rintro e wA ⟨⟨adA, cpA, rfl, hoA⟩, hbA⟩; replace hbA := (Below.refl (w6).heap.size w6).drew.trans hbA; have qhx0_0 := cell_keep hbA hx0_0 (Nat.le_refl _); have qhx0_1 := cell_keep hbA hx0_1 (Nat.le_refl _); have qhx1_0 := cell_keep hbA hx1_0 (Nat.le_refl _); have qhx1_1 := cell_keep hbA hx1_1 (Nat.le_refl _); have qhv6 := cell_keep hbA hv6 (Nat.le_refl _); have qhv7 := cell_keep hbA hv7 (Nat.le_refl _); have qhv17 := cell_keep hbA hv17 (Nat.le_refl _); have qhv18 := cell_keep hbA hv18 (Nat.le_refl _); have qhv25 := cell_keep hbA hv25 (Nat.le_refl _); have qhv26 := cell_keep hbA hv26 (Nat.le_refl _); have qhv34 := cell_keep hbA hv34 (Nat.le_refl _); have qhv35 := cell_keep hbA hv35 (Nat.le_refl _)) | (go_at_call 19; refine (eqSigned_same _ _ _ _ _ _ _ (s22.below hbA s22.1).rd hoA.rd ?_).mono ?_; omega; rintro e wB ⟨rfl, hbB⟩))
    all_goals (go_wp2_with fail; go_meet; exact ⟨rfl, hbA.trans (hbB.mono hbA.size)⟩)
  case rest =>
  obtain ⟨rfl, hb⟩ := hcut
  obtain ⟨w7, hW⟩ : ∃ x : World, x = wc := ⟨_, rfl⟩
  rw [← hW] at hb ⊢
  clear hW
  have zw7 : w6.heap.size ≤ w7.heap.size := hb.size
  replace s9 := s9.below hb s9.1
  replace s14 := s14.below hb s14.1
  replace s22 := s22.below hb s22.1
  replace s31 := s31.below hb s31.1
  replace hx0_0 := cell_keep hb hx0_0 (Nat.le_refl _)
  replace hx0_1 := cell_keep hb hx0_1 (Nat.le_refl _)
  replace hx1_0 := cell_keep hb hx1_0 (Nat.le_refl _)
  replace hx1_1 := cell_keep hb hx1_1 (Nat.le_refl _)
  replace hv6 := cell_keep hb hv6 (Nat.le_refl _)
  replace hv7 := cell_keep hb hv7 (Nat.le_refl _)
  replace hv17 := cell_keep hb hv17 (Nat.le_refl _)
  replace hv18 := cell_keep hb hv18 (Nat.le_refl _)
  replace hv25 := cell_keep hb hv25 (Nat.le_refl _)
  replace hv26 := cell_keep hb hv26 (Nat.le_refl _)
  replace hv34 := cell_keep hb hv34 (Nat.le_refl _)
  replace hv35 := cell_keep hb hv35 (Nat.le_refl _)
  replace hb0 := hb0.trans (hb.mono hb0.size)
  clear hb
  go_wp2_with fail
  refine (markSigned_any _ _ _ _ _ _ _ _ s14 (by omega) (by omega)).mono ?_
  rintro e w8 ⟨rfl, s36, hw⟩
  replace s9 := s9.wr hw (by omega)
  replace s22 := s22.wr hw (by omega)
  replace s31 := s31.wr hw (by omega)
  clear s14
  replace hb0 := below_wr hb0 hw (by omega) hb0.size
  have zw8 : w7.heap.size ≤ w8.heap.size := hw.size
  replace hx0_0 := cell_keep_wr hw hx0_0 (by omega)
  replace hx0_1 := cell_keep_wr hw hx0_1 (by omega)
  replace hx1_0 := cell_keep_wr hw hx1_0 (by omega)
  replace hx1_1 := cell_keep_wr hw hx1_1 (by omega)
  replace hv6 := cell_keep_wr hw hv6 (by omega)
  replace hv7 := cell_keep_wr hw hv7 (by omega)
  replace hv17 := cell_keep_wr hw hv17 (by omega)
  replace hv18 := cell_keep_wr hw hv18 (by omega)
  replace hv25 := cell_keep_wr hw hv25 (by omega)
  replace hv26 := cell_keep_wr hw hv26 (by omega)
  replace hv34 := cell_keep_wr hw hv34 (by omega)
  replace hv35 := cell_keep_wr hw hv35 (by omega)
  clear hw
  go_wp2_with fail
  refine (markSigned_any _ _ _ _ _ _ _ _ s22 (by omega) (by omega)).mono ?_
  rintro e w9 ⟨rfl, s37, hw⟩
  replace s9 := s9.wr hw (by omega)
  replace s36 := s36.wr hw (by omega)
  replace s31 := s31.wr hw (by omega)
  clear s22
  replace hb0 := below_wr hb0 hw (by omega) hb0.size
  have zw9 : w8.heap.size ≤ w9.heap.size := hw.size
  replace hx0_0 := cell_keep_wr hw hx0_0 (by omega)
  replace hx0_1 := cell_keep_wr hw hx0_1 (by omega)
  replace hx1_0 := cell_keep_wr hw hx1_0 (by omega)
  replace hx1_1 := cell_keep_wr hw hx1_1 (by omega)
  replace hv6 := cell_keep_wr hw hv6 (by omega)
  replace hv7 := cell_keep_wr hw hv7 (by omega)
  replace hv17 := cell_keep_wr hw hv17 (by omega)
  replace hv18 := cell_keep_wr hw hv18 (by omega)
  replace hv25 := cell_keep_wr hw hv25 (by omega)
  replace hv26 := cell_keep_wr hw hv26 (by omega)
  replace hv34 := cell_keep_wr hw hv34 (by omega)
  replace hv35 := cell_keep_wr hw hv35 (by omega)
  clear hw
  go_wp2_with fail
  refine (eqSigned_same _ _ _ _ _ _ _ s31.rd s9.rd (by omega)).mono ?_
  rintro e w10 ⟨rfl, hb⟩
  have zw10 : w9.heap.size ≤ w10.heap.size := hb.size
  replace s9 := s9.below hb s9.1
  replace s36 := s36.below hb s36.1
  replace s37 := s37.below hb s37.1
  replace s31 := s31.below hb s31.1
  replace hx0_0 := cell_keep hb hx0_0 (Nat.le_refl _)
  replace hx0_1 := cell_keep hb hx0_1 (Nat.le_refl _)
  replace hx1_0 := cell_keep hb hx1_0 (Nat.le_refl _)
  replace hx1_1 := cell_keep hb hx1_1 (Nat.le_refl _)
  replace hv6 := cell_keep hb hv6 (Nat.le_refl _)
  replace hv7 := cell_keep hb hv7 (Nat.le_refl _)
  replace hv17 := cell_keep hb hv17 (Nat.le_refl _)
  replace hv18 := cell_keep hb hv18 (Nat.le_refl _)
  replace hv25 := cell_keep hb hv25 (Nat.le_refl _)
  replace hv26 := cell_keep hb hv26 (Nat.le_refl _)
  replace hv34 := cell_keep hb hv34 (Nat.le_refl _)
  replace hv35 := cell_keep hb hv35 (Nat.le_refl _)
  replace hb0 := hb0.trans (hb.mono hb0.size)
  clear hb
  go_wp2_with fail
  refine (markSigned_any _ _ _ _ _ _ _ _ s31 (by omega) (by omega)).mono ?_
  rintro e w11 ⟨rfl, s38, hw⟩
  replace s9 := s9.wr hw (by omega)
  replace s36 := s36.wr hw (by omega)
  replace s37 := s37.wr hw (by omega)
  clear s31
  replace hb0 := below_wr hb0 hw (by omega) hb0.size
  have zw11 : w10.heap.size ≤ w11.heap.size := hw.size
  replace hx0_0 := cell_keep_wr hw hx0_0 (by omega)
  replace hx0_1 := cell_keep_wr hw hx0_1 (by omega)
  replace hx1_0 := cell_keep_wr hw hx1_0 (by omega)
  replace hx1_1 := cell_keep_wr hw hx1_1 (by omega)
  replace hv6 := cell_keep_wr hw hv6 (by omega)
  replace hv7 := cell_keep_wr hw hv7 (by omega)
  replace hv17 := cell_keep_wr hw hv17 (by omega)
  replace hv18 := cell_keep_wr hw hv18 (by omega)
  replace hv25 := cell_keep_wr hw hv25 (by omega)
  replace hv26 := cell_keep_wr hw hv26 (by omega)
  replace hv34 := cell_keep_wr hw hv34 (by omega)
  replace hv35 := cell_keep_wr hw hv35 (by omega)
  clear hw
  go_wp2_with fail
  refine (heldSigned_any _ _ _ _ _ _ s38.rd (by omega) (by omega)).mono ?_
  rintro e w12 ⟨rfl, hb⟩
  have zw12 : w11.heap.size ≤ w12.heap.size := hb.size
  replace s9 := s9.below hb s9.1
  replace s36 := s36.below hb s36.1
  replace s37 := s37.below hb s37.1
  replace s38 := s38.below hb s38.1
  replace hx0_0 := cell_keep hb hx0_0 (Nat.le_refl _)
  replace hx0_1 := cell_keep hb hx0_1 (Nat.le_refl _)
  replace hx1_0 := cell_keep hb hx1_0 (Nat.le_refl _)
  replace hx1_1 := cell_keep hb hx1_1 (Nat.le_refl _)
  replace hv6 := cell_keep hb hv6 (Nat.le_refl _)
  replace hv7 := cell_keep hb hv7 (Nat.le_refl _)
  replace hv17 := cell_keep hb hv17 (Nat.le_refl _)
  replace hv18 := cell_keep hb hv18 (Nat.le_refl _)
  replace hv25 := cell_keep hb hv25 (Nat.le_refl _)
  replace hv26 := cell_keep hb hv26 (Nat.le_refl _)
  replace hv34 := cell_keep hb hv34 (Nat.le_refl _)
  replace hv35 := cell_keep hb hv35 (Nat.le_refl _)
  replace hb0 := hb0.trans (hb.mono hb0.size)
  clear hb
  go_upto_region 31 with fail
  go_cut [13] (fun t wx => ∃ (kb : Nat) (ad : Option Addr) (cp : Nat), t = .pointer (some ⟨kb, 0, none⟩) ∧ wx.cell? ⟨kb, 0, none⟩ = some (.bool (fISub n0 xs0 n1 xs1).1) ∧ wx.cell? ⟨kb, 1, none⟩ = some (.slice ad (fISub n0 xs0 n1 xs1).2.length cp) ∧ Own wx w12.heap.size ad cp (fISub n0 xs0 n1 xs1).2 ∧ (fISub n0 xs0 n1 xs1).2.length ≤ 50 ∧ Below w12.heap.size w12 wx)
  case first =>
    have S0 : (w12).cell? ⟨w.heap.size, 0, none⟩ = some (.bool n0) ∧ (w12).cell? ⟨w.heap.size, 1, none⟩ = some (.slice a0 xs0.length c0) ∧ (w12).cell? ⟨w.heap.size + 1, 0, none⟩ = some (.bool n1) ∧ (w12).cell? ⟨w.heap.size + 1, 1, none⟩ = some (.slice a1 xs1.length c1) := ⟨hx0_0, hx0_1, hx1_0, hx1_1⟩
    go_region_held3 (fun w' => w'.cell? ⟨w.heap.size, 0, none⟩ = some (.bool n0) ∧ w'.cell? ⟨w.heap.size, 1, none⟩ = some (.slice a0 xs0.length c0) ∧ w'.cell? ⟨w.heap.size + 1, 0, none⟩ = some (.bool n1) ∧ w'.cell? ⟨w.heap.size + 1, 1, none⟩ = some (.slice a1 xs1.length c1))
      (first | (exact ⟨far2 (by omega) qC_hx0_0, far2 (by omega) qC_hx0_1, far2 (by omega) qC_hx1_0, far2 (by omega) qC_hx1_1⟩) | (exact ⟨cell_keep (bel_alloc _ _) qC_hx0_0 (Nat.le_refl _), cell_keep (bel_alloc _ _) qC_hx0_1 (Nat.le_refl _), cell_keep (bel_alloc _ _) qC_hx1_0 (Nat.le_refl _), cell_keep (bel_alloc _ _) qC_hx1_1 (Nat.le_refl _)⟩) | (exact ⟨qC_hx0_0, qC_hx0_1, qC_hx1_0, qC_hx1_1⟩) | (exact ⟨qB_hx0_0, qB_hx0_1, qB_hx1_0, qB_hx1_1⟩) | (exact ⟨qA_hx0_0, qA_hx0_1, qA_hx1_0, qA_hx1_1⟩) | (exact S0) | go_keep)
      (first | (have gC := hdB; go_at_call 41; refine (impl_IntSub _ _ _ _ _ _ _ _ _ (by first | exact hIA | exact hIA.alloc _) (by first | exact hIB | exact hIB.alloc _)).mono ?_; rintro e wC ⟨⟨adC, cpC, rfl, hoC, hnC⟩, hbC⟩; have heC : Below w12.heap.size w12 wC := (by first | exact heB.trans (hbC.mono heB.size) | exact (heB.alloc heB.size _).trans (hbC.mono ((heB.alloc heB.size _).size))); have hdC := hb0.trans (heC.mono hb0.size); have qC_hx0_0 := cell_keep heC hx0_0 (Nat.le_refl _); have qC_hx0_1 := cell_keep heC hx0_1 (Nat.le_refl _); have qC_hx1_0 := cell_keep heC hx1_0 (Nat.le_refl _); have qC_hx1_1 := cell_keep heC hx1_1 (Nat.le_refl _); (first | (have rC0 : wC.cell? ⟨wB.heap.size, 0, none⟩ = some (.bool false) := cell_keep hbC (cell_box wB _ _ _ 0 _ rfl rfl) (Nat.le_refl _); have fC0 : wC.frozen? ⟨wB.heap.size, 0, none⟩ = false := (hbC.frozen (p := ⟨wB.heap.size, 0, none⟩) (by simp)).trans (box_frozen wB _ _ _ 0 rfl); have xC : wB.heap.size < wC.heap.size := World.block_lt_of_cell? _ _ rC0) | (have rC0 := cell_keep hbC rB0 (Nat.le_refl _); have fC0 := (hbC.frozen (p := ⟨_, 0, none⟩) (World.block_lt_of_cell? _ _ rB0)).trans fB0) | skip); (first | (have rC1 : wC.cell? ⟨wB.heap.size, 1, none⟩ = some (.slice none 0 0) := cell_keep hbC (cell_box wB _ _ _ 1 _ rfl rfl) (Nat.le_refl _); have fC1 : wC.frozen? ⟨wB.heap.size, 1, none⟩ = false := (hbC.frozen (p := ⟨wB.heap.size, 1, none⟩) (by simp)).trans (box_frozen wB _ _ _ 1 rfl)) | (have rC1 := cell_keep hbC rB1 (Nat.le_refl _); have fC1 := (hbC.frozen (p := ⟨_, 1, none⟩) (World.block_lt_of_cell? _ _ rB1)).trans fB1) | skip); have zC := heC.size; have yC : wB.heap.size ≤ wC.heap.size := (by first | exact hbC.size | exact Nat.le_trans (by simp) hbC.size)) | (have gB := hdA; go_at_call 17; refine (toSigned_any n1 a1 c1 xs1 _ (hp1.1.below (by first | exact hdA | exact hdA.alloc hdA.size _) (Nat.le_refl _)) ?_).mono ?_; omega; rintro e wB ⟨⟨adB, cpB, rfl, hoB⟩, hbB⟩; have heB : Below w12.heap.size w12 wB := (by first | exact heA.trans (hbB.mono heA.size) | exact (heA.alloc heA.size _).trans (hbB.mono ((heA.alloc heA.size _).size))); have hdB := hb0.trans (heB.mono hb0.size); have hIB := hoB.inn (by omega); have hIA : In wB adA cpA xs0 := (by first | exact (hoA.inn (by omega)).below hbB (Nat.le_refl _) | exact ((hoA.inn (by omega)).alloc _).below hbB (Nat.le_refl _)); have qB_hx0_0 := cell_keep heB hx0_0 (Nat.le_refl _); have qB_hx0_1 := cell_keep heB hx0_1 (Nat.le_refl _); have qB_hx1_0 := cell_keep heB hx1_0 (Nat.le_refl _); have qB_hx1_1 := cell_keep heB hx1_1 (Nat.le_refl _); (first | (have rB0 : wB.cell? ⟨wA.heap.size, 0, none⟩ = some (.bool false) := cell_keep hbB (cell_box wA _ _ _ 0 _ rfl rfl) (Nat.le_refl _); have fB0 : wB.frozen? ⟨wA.heap.size, 0, none⟩ = false := (hbB.frozen (p := ⟨wA.heap.size, 0, none⟩) (by simp)).trans (box_frozen wA _ _ _ 0 rfl); have xB : wA.heap.size < wB.heap.size := World.block_lt_of_cell? _ _ rB0) | (have rB0 := cell_keep hbB rA0 (Nat.le_refl _); have fB0 := (hbB.frozen (p := ⟨_, 0, none⟩) (World.block_lt_of_cell? _ _ rA0)).trans fA0) | skip); (first | (have rB1 : wB.cell? ⟨wA.heap.size, 1, none⟩ = some (.slice none 0 0) := cell_keep hbB (cell_box wA _ _ _ 1 _ rfl rfl) (Nat.le_refl _); have fB1 : wB.frozen? ⟨wA.heap.size, 1, none⟩ = false := (hbB.frozen (p := ⟨wA.heap.size, 1, none⟩) (by simp)).trans (box_frozen wA _ _ _ 1 rfl)) | (have rB1 := cell_keep hbB rA1 (Nat.le_refl _); have fB1 := (hbB.frozen (p := ⟨_, 1, none⟩) (World.block_lt_of_cell? _ _ rA1)).trans fA1) | skip); have zB := heB.size; have yB : wA.heap.size ≤ wB.heap.size := (by first | exact hbB.size | exact Nat.le_trans (by simp) hbB.size)) | (go_at_call 17; refine (toSigned_any n0 a0 c0 xs0 _ (hp0.1.below (by first | exact hb0.drew | exact hb0.drew.alloc hb0.size _) (Nat.le_refl _)) ?_).mono ?_; omega; rintro e wA ⟨⟨adA, cpA, rfl, hoA⟩, hbA⟩; have heA : Below w12.heap.size w12 wA := (by first | exact (Below.refl _ _).drew.trans hbA | exact ((Below.refl _ _).drew.alloc (Nat.le_refl _) _).trans (hbA.mono (by simp))); have hdA := hb0.trans (heA.mono hb0.size); have qA_hx0_0 := cell_keep heA hx0_0 (Nat.le_refl _); have qA_hx0_1 := cell_keep heA hx0_1 (Nat.le_refl _); have qA_hx1_0 := cell_keep heA hx1_0 (Nat.le_refl _); have qA_hx1_1 := cell_keep heA hx1_1 (Nat.le_refl _); (first | (have rA0 : wA.cell? ⟨w12.heap.size, 0, none⟩ = some (.bool false) := cell_keep hbA (cell_box (World.drew w12) _ _ _ 0 _ rfl rfl) (Nat.le_refl _); have fA0 : wA.frozen? ⟨w12.heap.size, 0, none⟩ = false := (hbA.frozen (p := ⟨w12.heap.size, 0, none⟩) (by simp)).trans (box_frozen (World.drew w12) _ _ _ 0 rfl); have xA : w12.heap.size < wA.heap.size := World.block_lt_of_cell? _ _ rA0) | skip); (first | (have rA1 : wA.cell? ⟨w12.heap.size, 1, none⟩ = some (.slice none 0 0) := cell_keep hbA (cell_box (World.drew w12) _ _ _ 1 _ rfl rfl) (Nat.le_refl _); have fA1 : wA.frozen? ⟨w12.heap.size, 1, none⟩ = false := (hbA.frozen (p := ⟨w12.heap.size, 1, none⟩) (by simp)).trans (box_frozen (World.drew w12) _ _ _ 1 rfl)) | skip); have zA := heA.size))
    all_goals (go_wp2_with fail; go_meet; first | exact ⟨_, _, _, rfl, cell_box _ _ _ _ 0 _ rfl rfl, cell_box _ _ _ _ 1 _ rfl rfl, (hoC.mono (by omega)).alloc _, hnC, heC.trans ((bel_alloc _ _).mono heC.size)⟩ | exact ⟨_, _, _, rfl, set2_cell0 rC0, set2_cell1 rC1, set2_own hoC (by first | omega | (rw [World.size_alloc]; omega)) (by first | omega | (rw [World.size_alloc]; omega)), hnC, set2_below heC (by omega)⟩)
  case rest =>
  obtain ⟨kb39, ad40, cp41, rfl, hv44, hv45, ho42, hn43, hb⟩ := hcut
  obtain ⟨w13, hW⟩ : ∃ x : World, x = wc := ⟨_, rfl⟩
  rw [← hW] at hv44 hv45 ho42 hb ⊢
  clear hW
  have zk46 : kb39 < w13.heap.size := World.block_lt_of_cell? w13 ⟨kb39, 0, none⟩ hv44
  have s47 := Slot.of ho42
  have lc48 := (ho42.inn (by omega)).2.1
  clear ho42
  have zw13 : w12.heap.size ≤ w13.heap.size := hb.size
  replace s9 := s9.below hb s9.1
  replace s36 := s36.below hb s36.1
  replace s37 := s37.below hb s37.1
  replace s38 := s38.below hb s38.1
  replace hx0_0 := cell_keep hb hx0_0 (Nat.le_refl _)
  replace hx0_1 := cell_keep hb hx0_1 (Nat.le_refl _)
  replace hx1_0 := cell_keep hb hx1_0 (Nat.le_refl _)
  replace hx1_1 := cell_keep hb hx1_1 (Nat.le_refl _)
  replace hv6 := cell_keep hb hv6 (Nat.le_refl _)
  replace hv7 := cell_keep hb hv7 (Nat.le_refl _)
  replace hv17 := cell_keep hb hv17 (Nat.le_refl _)
  replace hv18 := cell_keep hb hv18 (Nat.le_refl _)
  replace hv25 := cell_keep hb hv25 (Nat.le_refl _)
  replace hv26 := cell_keep hb hv26 (Nat.le_refl _)
  replace hv34 := cell_keep hb hv34 (Nat.le_refl _)
  replace hv35 := cell_keep hb hv35 (Nat.le_refl _)
  replace hb0 := hb0.trans (hb.mono hb0.size)
  clear hb
  go_wp2_with fail
  refine (eqSigned_same _ _ _ _ _ _ _ s47.rd s9.rd (by omega)).mono ?_
  rintro e w14 ⟨rfl, hb⟩
  have zw14 : w13.heap.size ≤ w14.heap.size := hb.size
  replace s9 := s9.below hb s9.1
  replace s36 := s36.below hb s36.1
  replace s37 := s37.below hb s37.1
  replace s38 := s38.below hb s38.1
  replace s47 := s47.below hb s47.1
  replace hx0_0 := cell_keep hb hx0_0 (Nat.le_refl _)
  replace hx0_1 := cell_keep hb hx0_1 (Nat.le_refl _)
  replace hx1_0 := cell_keep hb hx1_0 (Nat.le_refl _)
  replace hx1_1 := cell_keep hb hx1_1 (Nat.le_refl _)
  replace hv6 := cell_keep hb hv6 (Nat.le_refl _)
  replace hv7 := cell_keep hb hv7 (Nat.le_refl _)
  replace hv17 := cell_keep hb hv17 (Nat.le_refl _)
  replace hv18 := cell_keep hb hv18 (Nat.le_refl _)
  replace hv25 := cell_keep hb hv25 (Nat.le_refl _)
  replace hv26 := cell_keep hb hv26 (Nat.le_refl _)
  replace hv34 := cell_keep hb hv34 (Nat.le_refl _)
  replace hv35 := cell_keep hb hv35 (Nat.le_refl _)
  replace hv44 := cell_keep hb hv44 (Nat.le_refl _)
  replace hv45 := cell_keep hb hv45 (Nat.le_refl _)
  replace hb0 := hb0.trans (hb.mono hb0.size)
  clear hb
  go_wp2_with fail
  refine (heldSigned_any _ _ _ _ _ _ s38.rd (by omega) (by omega)).mono ?_
  rintro e w15 ⟨rfl, hb⟩
  have zw15 : w14.heap.size ≤ w15.heap.size := hb.size
  replace s9 := s9.below hb s9.1
  replace s36 := s36.below hb s36.1
  replace s37 := s37.below hb s37.1
  replace s38 := s38.below hb s38.1
  replace s47 := s47.below hb s47.1
  replace hx0_0 := cell_keep hb hx0_0 (Nat.le_refl _)
  replace hx0_1 := cell_keep hb hx0_1 (Nat.le_refl _)
  replace hx1_0 := cell_keep hb hx1_0 (Nat.le_refl _)
  replace hx1_1 := cell_keep hb hx1_1 (Nat.le_refl _)
  replace hv6 := cell_keep hb hv6 (Nat.le_refl _)
  replace hv7 := cell_keep hb hv7 (Nat.le_refl _)
  replace hv17 := cell_keep hb hv17 (Nat.le_refl _)
  replace hv18 := cell_keep hb hv18 (Nat.le_refl _)
  replace hv25 := cell_keep hb hv25 (Nat.le_refl _)
  replace hv26 := cell_keep hb hv26 (Nat.le_refl _)
  replace hv34 := cell_keep hb hv34 (Nat.le_refl _)
  replace hv35 := cell_keep hb hv35 (Nat.le_refl _)
  replace hv44 := cell_keep hb hv44 (Nat.le_refl _)
  replace hv45 := cell_keep hb hv45 (Nat.le_refl _)
  replace hb0 := hb0.trans (hb.mono hb0.size)
  clear hb
  go_wp2
  go_ret
  exact ⟨rfl, hb0⟩

theorem own : ownKnob Try.prog.godebug = none := by kernel_rfl
theorem laidOut : laidOutB Try.prog = true := by kernel_rfl
set_option maxRecDepth 100000 in
theorem lifted (os : Os) (started : os.Started) (H : Type) (enc : TypeId × Value → H) :
    ReturnsInHanded {} Try.checked os 13 .any (Rows.fnExactIntSubSpec.pre6 enc Try.prog Try.f13 Rows.fnExactIntSubRow.domain false) (Rows.fnExactIntSubSpec.post enc Try.prog Try.f13 false true false false) := by
  refine returnsInHanded_of_change (C := Try.checked) own started (by kernel_rfl) Try.func13
    (ChangeSpec.witness6 (enc := enc) (C := Try.checked) false ⟨#[], #[.agg #[.bool false, .slice none 0 0], .agg #[.bool false, .slice none 0 0]], []⟩ 8 (by kernel_rfl) (by kernel_rfl) (by kernel_rfl) (by kernel_rfl)) ?_
  intro W base args ds gs before hval0 hW hcnd _
  have hval : ∀ (j : Nat) t v, Try.f13.params[j]? = some t → args[j]? = some v → Value.okWide Try.prog W .any base t v := hval0
  have hW' := hW
  obtain ⟨p, q, hA0, hV, rfl, hfz, hnd⟩ := hW
  have hA : DataW.TrodAll enc Try.prog W 0 (fun _ => true) true Try.f13.params.toList args.toList ds p := hA0
  rw [Try.params13] at hA hval
  obtain ⟨v0, vs0, d0, ds0, p0, q0, hargs, rfl, rfl, h0, r0⟩ := trodAll_cons hA
  obtain ⟨v1, vs1, d1, ds1, p1, q1, rfl, rfl, rfl, h1, r1⟩ := trodAll_cons r0
  obtain ⟨rfl, rfl, rfl⟩ := trodAll_nil r1
  obtain rfl : args = #[v0, v1] := by cases args; simp_all
  obtain ⟨rfl, rfl⟩ := trodVars_none hV
  have k0 := h0
  have lt0 : ∀ x ∈ p0, x.block < W.heap.size := by obtain ⟨m, hm⟩ := k0; exact DataW.trod_lt m _ _ _ hm
  have k1 := h1
  have lt1 : ∀ x ∈ p1, x.block < W.heap.size := by obtain ⟨m, hm⟩ := k1; exact DataW.trod_lt m _ _ _ hm
  obtain ⟨f00, f10, y00, y10, m0, rfl, rfl, rfl, hy00, hy10⟩ := Joins.open_agg2 Try.underlying24 (by kernel_rfl) (by kernel_rfl) (hval 0 24 v0 rfl rfl) h0
  obtain ⟨n0, e00, rfl⟩ := DataW.trod_bool Try.underlying4 hy00
  simp only [List.cons.injEq, and_true] at e00
  subst e00
  obtain ⟨a0, cap0, xs0, e10, w0⟩ : ∃ (a : Option Addr) (c : Nat) (xs : List Int), f10 = .slice a xs.length c ∧ (Rd W a xs ∧ xs.length ≤ maxLen) := by
    rcases open_ints Try.underlying22 Try.underlying3 (by kernel_rfl) hy10 with ⟨hcs, _⟩ | ⟨x, l, c, zs, hcs, _, hl, hm, hz, _, hcell, hwz⟩
    · exact ⟨none, 0, [], by simpa using hcs, Rd.nil _ _, Nat.zero_le _⟩
    · have hz' : zs.length = c := by simpa using hz
      have hl' : (zs.take l).length = l := by rw [List.length_take]; omega
      refine ⟨some x, c, zs.take l, by rw [hl']; simpa using hcs, rd_of_cells hcell _, by rw [hl']; omega⟩
  subst e10
  obtain ⟨f01, f11, y01, y11, m1, rfl, rfl, rfl, hy01, hy11⟩ := Joins.open_agg2 Try.underlying24 (by kernel_rfl) (by kernel_rfl) (hval 1 24 v1 rfl rfl) h1
  obtain ⟨n1, e01, rfl⟩ := DataW.trod_bool Try.underlying4 hy01
  simp only [List.cons.injEq, and_true] at e01
  subst e01
  obtain ⟨a1, cap1, xs1, e11, w1⟩ : ∃ (a : Option Addr) (c : Nat) (xs : List Int), f11 = .slice a xs.length c ∧ (Rd W a xs ∧ xs.length ≤ maxLen) := by
    rcases open_ints Try.underlying22 Try.underlying3 (by kernel_rfl) hy11 with ⟨hcs, _⟩ | ⟨x, l, c, zs, hcs, _, hl, hm, hz, _, hcell, hwz⟩
    · exact ⟨none, 0, [], by simpa using hcs, Rd.nil _ _, Nat.zero_le _⟩
    · have hz' : zs.length = c := by simpa using hz
      have hl' : (zs.take l).length = l := by rw [List.length_take]; omega
      refine ⟨some x, c, zs.take l, by rw [hl']; simpa using hcs, rd_of_cells hcell _, by rw [hl']; omega⟩
  subst e11
  clear hA0 hval0
  refine (walk n0 a0 cap0 xs0 n1 a1 cap1 xs1 W w0 w1).mono fun e W' ⟨he, bel⟩ => ?_
  subst he
  exact ⟨_, rfl, _, _, _, [], _, [], hW', trodAll_mk1 (shut_bool Try.underlying4 _), (trodAll_cons_mk (Below.trod laidOut (by kernel_rfl) (of_decide_eq_true (by kernel_rfl)) k0 bel lt0) (trodAll_cons_mk (Below.trod laidOut (by kernel_rfl) (of_decide_eq_true (by kernel_rfl)) k1 bel lt1) trodAll_mk0)), rfl, bel.frame _, fun h => by cases h⟩

theorem over : Rows.fnExactIntSubRow.holds Try.pinned (OpenSpec.ofChange Rows.fnExactIntSubSpec) :=
  OpenClaim.holds_of_wide 13 Try.f13 rfl rfl rfl rfl rfl rfl rfl ⟨rfl, rfl, rfl, rfl, rfl⟩ rfl rfl rfl rfl rfl (by kernel_rfl) Try.func13 (by kernel_rfl)
    (of_decide_eq_true (by kernel_rfl)) (by unfold Func.isWrapper; first | (rw [if_pos (by decide +kernel)]; kernel_rfl) | (rw [if_neg (by decide +kernel)]; exact ⟨rfl, rfl⟩))
    (fun os started H enc _ => lifted os started H enc)

theorem proved : Rows.FnExactIntSubSaid := over
#print axioms proved
end Go.Proofs.Ytmkhpeddmifdkaa.fnExactIntSub
