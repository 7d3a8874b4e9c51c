/- The law FnExactIntCmp answers true at every input. No condition. (The walk is printed by gen_law.py off the law's text.) -/
import Derived.Test.YtmkhpeddmifdkaaRows
import Derived.Test.YtmkhpeddmifdkaaWIntOf
import Derived.Test.YtmkhpeddmifdkaaWIntFm
import Derived.Test.YtmkhpeddmifdkaaWIntCmi
import Derived.Test.YtmkhpeddmifdkaaWEqInt
import Derived.Test.YtmkhpeddmifdkaaWMark
import Derived.Test.YtmkhpeddmifdkaaReg
import Derived.ProofKit
import Derived.OpenShut
import Derived.ShutString
import Derived.ChangeOld
import Derived.Lib.SmallJoins
import Derived.Deep.RegionWith
import Derived.Deep.RegionHeld3
import Derived.Deep.DeepCutAuto
import Derived.Below
namespace Go.Proofs.Ytmkhpeddmifdkaa.fnExactIntCmp
open Go.ChangeShapes Go.WideShapes Go.ChangeAt Go.RowKit
open Go.ChangeMaps (open_string shut_string)
set_option linter.unusedVariables false

set_option maxRecDepth 100000 in
set_option maxHeartbeats 4000000 in
theorem walk (n0 : Bool) (a0 : Option Addr) (c0 : Nat) (xs0 : List Int) (n1 : Bool) (a1 : Option Addr) (c1 : Nat) (xs1 : List Int) (w : World) (hp0 : Rd w a0 xs0 ∧ xs0.length ≤ maxLen) (hp1 : Rd w a1 xs1 ∧ xs1.length ≤ maxLen) :
    Calls Try.prog 11 #[.agg #[.bool n0, .slice a0 xs0.length c0], .agg #[.bool n1, .slice a1 xs1.length c1]] w fun e w' => e = .returned (.bool true) ∧ Below w.heap.size w w' := by
  have hb0 := Below.refl w.heap.size w
  have hm0 := hp0.2
  unfold maxLen at hm0
  have hm1 := hp1.2
  unfold maxLen at hm1
  by_cases hs0 : (xs0.length : Int) ≤ 1048576
  rotate_left
  · replace hb0 := hb0.trans ((bel_alloc w (.cells #[.bool n0, .slice a0 xs0.length c0] 24)).mono (by simp))
    replace hb0 := hb0.trans ((bel_alloc _ (.cells #[.bool n1, .slice a1 xs1.length c1] 24)).mono (by simp; try omega))
    have zbox : w.heap.size + 2 ≤ ((World.alloc (World.alloc w (.cells #[.bool n0, .slice a0 xs0.length c0] 24)) (.cells #[.bool n1, .slice a1 xs1.length c1] 24))).heap.size := by simp
    go_enter Try.func11, Try.ntmps11
    go_wp2_with fail
    refine (szSigned_no _ _ _ _ _ _ (by omega) (by omega) (by omega) hp0.2).mono ?_
    rintro e wz ⟨rfl, hbz⟩
    replace hb0 := hb0.trans (hbz.mono hb0.size)
    go_wp2
    go_ret
    exact ⟨rfl, hb0⟩
  by_cases hs1 : (xs1.length : Int) ≤ 1048576 - (xs0.length : Int)
  rotate_left
  · replace hb0 := hb0.trans ((bel_alloc w (.cells #[.bool n0, .slice a0 xs0.length c0] 24)).mono (by simp))
    replace hb0 := hb0.trans ((bel_alloc _ (.cells #[.bool n1, .slice a1 xs1.length c1] 24)).mono (by simp; try omega))
    have zbox : w.heap.size + 2 ≤ ((World.alloc (World.alloc w (.cells #[.bool n0, .slice a0 xs0.length c0] 24)) (.cells #[.bool n1, .slice a1 xs1.length c1] 24))).heap.size := by simp
    go_enter Try.func11, Try.ntmps11
    go_wp2_with fail
    refine (szSigned_yes _ _ _ _ _ _ (by omega) (by omega)).mono ?_
    rintro e wz0 ⟨rfl, hb⟩
    have zwz0 : (World.alloc (World.alloc w (.cells #[.bool n0, .slice a0 xs0.length c0] 24)) (.cells #[.bool n1, .slice a1 xs1.length c1] 24)).heap.size ≤ wz0.heap.size := hb.size
    have hx0_0 : wz0.cell? ⟨w.heap.size, 0, none⟩ = some (.bool n0) := cell_keep hb (cell_keep (bel_alloc _ (.cells #[.bool n1, .slice a1 xs1.length c1] 24)) (cell_box w _ _ _ 0 _ (by simp) rfl) (Nat.le_refl _)) (Nat.le_refl _)
    have hx0_1 : wz0.cell? ⟨w.heap.size, 1, none⟩ = some (.slice a0 xs0.length c0) := cell_keep hb (cell_keep (bel_alloc _ (.cells #[.bool n1, .slice a1 xs1.length c1] 24)) (cell_box w _ _ _ 1 _ (by simp) rfl) (Nat.le_refl _)) (Nat.le_refl _)
    have hx1_0 : wz0.cell? ⟨w.heap.size + 1, 0, none⟩ = some (.bool n1) := cell_keep hb (cell_box (World.alloc w (.cells #[.bool n0, .slice a0 xs0.length c0] 24)) _ _ _ 0 _ (by simp) rfl) (Nat.le_refl _)
    have hx1_1 : wz0.cell? ⟨w.heap.size + 1, 1, none⟩ = some (.slice a1 xs1.length c1) := cell_keep hb (cell_box (World.alloc w (.cells #[.bool n0, .slice a0 xs0.length c0] 24)) _ _ _ 1 _ (by simp) rfl) (Nat.le_refl _)
    replace hb0 := hb0.trans (hb.mono hb0.size)
    clear hb
    go_wp2_with fail
    refine (szSigned_no _ _ _ _ _ _ (by omega) (by omega) (by omega) hp1.2).mono ?_
    rintro e wz ⟨rfl, hbz⟩
    replace hb0 := hb0.trans (hbz.mono hb0.size)
    go_wp2
    go_ret
    exact ⟨rfl, hb0⟩
  replace hb0 := hb0.trans ((bel_alloc w (.cells #[.bool n0, .slice a0 xs0.length c0] 24)).mono (by simp))
  replace hb0 := hb0.trans ((bel_alloc _ (.cells #[.bool n1, .slice a1 xs1.length c1] 24)).mono (by simp; try omega))
  have zbox : w.heap.size + 2 ≤ ((World.alloc (World.alloc w (.cells #[.bool n0, .slice a0 xs0.length c0] 24)) (.cells #[.bool n1, .slice a1 xs1.length c1] 24))).heap.size := by simp
  go_enter Try.func11, Try.ntmps11
  go_wp2_with fail
  refine (szSigned_yes _ _ _ _ _ _ (by omega) (by omega)).mono ?_
  rintro e wz0 ⟨rfl, hb⟩
  have zwz0 : (World.alloc (World.alloc w (.cells #[.bool n0, .slice a0 xs0.length c0] 24)) (.cells #[.bool n1, .slice a1 xs1.length c1] 24)).heap.size ≤ wz0.heap.size := hb.size
  have hx0_0 : wz0.cell? ⟨w.heap.size, 0, none⟩ = some (.bool n0) := cell_keep hb (cell_keep (bel_alloc _ (.cells #[.bool n1, .slice a1 xs1.length c1] 24)) (cell_box w _ _ _ 0 _ (by simp) rfl) (Nat.le_refl _)) (Nat.le_refl _)
  have hx0_1 : wz0.cell? ⟨w.heap.size, 1, none⟩ = some (.slice a0 xs0.length c0) := cell_keep hb (cell_keep (bel_alloc _ (.cells #[.bool n1, .slice a1 xs1.length c1] 24)) (cell_box w _ _ _ 1 _ (by simp) rfl) (Nat.le_refl _)) (Nat.le_refl _)
  have hx1_0 : wz0.cell? ⟨w.heap.size + 1, 0, none⟩ = some (.bool n1) := cell_keep hb (cell_box (World.alloc w (.cells #[.bool n0, .slice a0 xs0.length c0] 24)) _ _ _ 0 _ (by simp) rfl) (Nat.le_refl _)
  have hx1_1 : wz0.cell? ⟨w.heap.size + 1, 1, none⟩ = some (.slice a1 xs1.length c1) := cell_keep hb (cell_box (World.alloc w (.cells #[.bool n0, .slice a0 xs0.length c0] 24)) _ _ _ 1 _ (by simp) rfl) (Nat.le_refl _)
  replace hb0 := hb0.trans (hb.mono hb0.size)
  clear hb
  go_wp2_with fail
  refine (szSigned_yes _ _ _ _ _ _ (by omega) (by omega)).mono ?_
  rintro e wz1 ⟨rfl, hb⟩
  have zwz1 : wz0.heap.size ≤ wz1.heap.size := hb.size
  replace hx0_0 := cell_keep hb hx0_0 (Nat.le_refl _)
  replace hx0_1 := cell_keep hb hx0_1 (Nat.le_refl _)
  replace hx1_0 := cell_keep hb hx1_0 (Nat.le_refl _)
  replace hx1_1 := cell_keep hb hx1_1 (Nat.le_refl _)
  replace hb0 := hb0.trans (hb.mono hb0.size)
  clear hb
  go_upto_region 8 with fail
  go_cut [6] (fun t wx => t = .int .i64 (fICmp n0 xs0 n1 xs1) ∧ Below wz1.heap.size wz1 wx)
  case first =>
    have S0 : (wz1).cell? ⟨w.heap.size, 0, none⟩ = some (.bool n0) ∧ (wz1).cell? ⟨w.heap.size, 1, none⟩ = some (.slice a0 xs0.length c0) ∧ (wz1).cell? ⟨w.heap.size + 1, 0, none⟩ = some (.bool n1) ∧ (wz1).cell? ⟨w.heap.size + 1, 1, none⟩ = some (.slice a1 xs1.length c1) := ⟨hx0_0, hx0_1, hx1_0, hx1_1⟩
    go_region_held3 (fun w' => w'.cell? ⟨w.heap.size, 0, none⟩ = some (.bool n0) ∧ w'.cell? ⟨w.heap.size, 1, none⟩ = some (.slice a0 xs0.length c0) ∧ w'.cell? ⟨w.heap.size + 1, 0, none⟩ = some (.bool n1) ∧ w'.cell? ⟨w.heap.size + 1, 1, none⟩ = some (.slice a1 xs1.length c1))
      (first | (exact ⟨far2 (by omega) qC_hx0_0, far2 (by omega) qC_hx0_1, far2 (by omega) qC_hx1_0, far2 (by omega) qC_hx1_1⟩) | (exact ⟨cell_keep (bel_alloc _ _) qC_hx0_0 (Nat.le_refl _), cell_keep (bel_alloc _ _) qC_hx0_1 (Nat.le_refl _), cell_keep (bel_alloc _ _) qC_hx1_0 (Nat.le_refl _), cell_keep (bel_alloc _ _) qC_hx1_1 (Nat.le_refl _)⟩) | (exact ⟨qC_hx0_0, qC_hx0_1, qC_hx1_0, qC_hx1_1⟩) | (exact ⟨qB_hx0_0, qB_hx0_1, qB_hx1_0, qB_hx1_1⟩) | (exact ⟨qA_hx0_0, qA_hx0_1, qA_hx1_0, qA_hx1_1⟩) | (exact S0) | go_keep)
      (first | (have gC := hdB; go_at_call 36; refine (spec_IntCmp _ _ _ _ _ _ _ _ _ (by first | exact hIA | exact hIA.alloc _) (by first | exact hIB | exact hIB.alloc _)).mono ?_; rintro e wC ⟨rfl, hbC⟩; have heC : Below wz1.heap.size wz1 wC := (by first | exact heB.trans (hbC.mono heB.size) | exact (heB.alloc heB.size _).trans (hbC.mono ((heB.alloc heB.size _).size))); have hdC := hb0.trans (heC.mono hb0.size); have qC_hx0_0 := cell_keep heC hx0_0 (Nat.le_refl _); have qC_hx0_1 := cell_keep heC hx0_1 (Nat.le_refl _); have qC_hx1_0 := cell_keep heC hx1_0 (Nat.le_refl _); have qC_hx1_1 := cell_keep heC hx1_1 (Nat.le_refl _); have zC := heC.size; have yC : wB.heap.size ≤ wC.heap.size := (by first | exact hbC.size | exact Nat.le_trans (by simp) hbC.size)) | (have gB := hdA; go_at_call 17; refine (toSigned_any n1 a1 c1 xs1 _ (hp1.1.below (by first | exact hdA | exact hdA.alloc hdA.size _) (Nat.le_refl _)) ?_).mono ?_; omega; rintro e wB ⟨⟨adB, cpB, rfl, hoB⟩, hbB⟩; have heB : Below wz1.heap.size wz1 wB := (by first | exact heA.trans (hbB.mono heA.size) | exact (heA.alloc heA.size _).trans (hbB.mono ((heA.alloc heA.size _).size))); have hdB := hb0.trans (heB.mono hb0.size); have hIB := hoB.inn (by omega); have hIA : In wB adA cpA xs0 := (by first | exact (hoA.inn (by omega)).below hbB (Nat.le_refl _) | exact ((hoA.inn (by omega)).alloc _).below hbB (Nat.le_refl _)); have qB_hx0_0 := cell_keep heB hx0_0 (Nat.le_refl _); have qB_hx0_1 := cell_keep heB hx0_1 (Nat.le_refl _); have qB_hx1_0 := cell_keep heB hx1_0 (Nat.le_refl _); have qB_hx1_1 := cell_keep heB hx1_1 (Nat.le_refl _); have zB := heB.size; have yB : wA.heap.size ≤ wB.heap.size := (by first | exact hbB.size | exact Nat.le_trans (by simp) hbB.size)) | (go_at_call 17; refine (toSigned_any n0 a0 c0 xs0 _ (hp0.1.below (by first | exact hb0.drew | exact hb0.drew.alloc hb0.size _) (Nat.le_refl _)) ?_).mono ?_; omega; rintro e wA ⟨⟨adA, cpA, rfl, hoA⟩, hbA⟩; have heA : Below wz1.heap.size wz1 wA := (by first | exact (Below.refl _ _).drew.trans hbA | exact ((Below.refl _ _).drew.alloc (Nat.le_refl _) _).trans (hbA.mono (by simp))); have hdA := hb0.trans (heA.mono hb0.size); have qA_hx0_0 := cell_keep heA hx0_0 (Nat.le_refl _); have qA_hx0_1 := cell_keep heA hx0_1 (Nat.le_refl _); have qA_hx1_0 := cell_keep heA hx1_0 (Nat.le_refl _); have qA_hx1_1 := cell_keep heA hx1_1 (Nat.le_refl _); have zA := heA.size))
    all_goals (go_wp2_with fail; go_meet; exact ⟨rfl, heC⟩)
  case rest =>
  obtain ⟨rfl, hb⟩ := hcut
  obtain ⟨w1, hW⟩ : ∃ x : World, x = wc := ⟨_, rfl⟩
  rw [← hW] at hb ⊢
  clear hW
  have zw1 : wz1.heap.size ≤ w1.heap.size := hb.size
  replace hx0_0 := cell_keep hb hx0_0 (Nat.le_refl _)
  replace hx0_1 := cell_keep hb hx0_1 (Nat.le_refl _)
  replace hx1_0 := cell_keep hb hx1_0 (Nat.le_refl _)
  replace hx1_1 := cell_keep hb hx1_1 (Nat.le_refl _)
  replace hb0 := hb0.trans (hb.mono hb0.size)
  clear hb
  go_wp2_with fail
  refine (toSigned_any _ _ _ _ _ (hp0.1.below hb0 (Nat.le_refl _)) (by omega)).mono ?_
  rintro e w2 ⟨⟨ad1, cp2, rfl, ho3⟩, hb⟩
  have s4 := Slot.of ho3
  have lc5 := (ho3.inn (by omega)).2.1
  clear ho3
  have zw2 : w1.heap.size ≤ w2.heap.size := hb.size
  replace hx0_0 := cell_keep hb hx0_0 (Nat.le_refl _)
  replace hx0_1 := cell_keep hb hx0_1 (Nat.le_refl _)
  replace hx1_0 := cell_keep hb hx1_0 (Nat.le_refl _)
  replace hx1_1 := cell_keep hb hx1_1 (Nat.le_refl _)
  replace hb0 := hb0.trans (hb.mono hb0.size)
  clear hb
  have hb := bel_alloc w2 (.cells #[.bool n0, .slice ad1 xs0.length cp2] 27)
  have zb6 : w2.heap.size + 1 ≤ (World.alloc w2 (.cells #[.bool n0, .slice ad1 xs0.length cp2] 27)).heap.size := by simp
  replace s4 := s4.below hb s4.1
  replace hx0_0 := cell_keep hb hx0_0 (Nat.le_refl _)
  replace hx0_1 := cell_keep hb hx0_1 (Nat.le_refl _)
  replace hx1_0 := cell_keep hb hx1_0 (Nat.le_refl _)
  replace hx1_1 := cell_keep hb hx1_1 (Nat.le_refl _)
  have hv7 : (World.alloc w2 (.cells #[.bool n0, .slice ad1 xs0.length cp2] 27)).cell? ⟨w2.heap.size, 0, none⟩ = some (.bool n0) := cell_box w2 _ _ _ 0 _ (by simp) rfl
  have hv8 : (World.alloc w2 (.cells #[.bool n0, .slice ad1 xs0.length cp2] 27)).cell? ⟨w2.heap.size, 1, none⟩ = some (.slice ad1 xs0.length cp2) := cell_box w2 _ _ _ 1 _ (by simp) rfl
  replace hb0 := hb0.trans (hb.mono hb0.size)
  clear hb
  go_wp2_with fail
  refine (toSigned_any _ _ _ _ _ (hp1.1.below hb0 (Nat.le_refl _)) (by omega)).mono ?_
  rintro e w3 ⟨⟨ad9, cp10, rfl, ho11⟩, hb⟩
  have s12 := Slot.of ho11
  have lc13 := (ho11.inn (by omega)).2.1
  clear ho11
  have zw3 : (World.alloc w2 (.cells #[.bool n0, .slice ad1 xs0.length cp2] 27)).heap.size ≤ w3.heap.size := hb.size
  replace s4 := s4.below hb s4.1
  replace hx0_0 := cell_keep hb hx0_0 (Nat.le_refl _)
  replace hx0_1 := cell_keep hb hx0_1 (Nat.le_refl _)
  replace hx1_0 := cell_keep hb hx1_0 (Nat.le_refl _)
  replace hx1_1 := cell_keep hb hx1_1 (Nat.le_refl _)
  replace hv7 := cell_keep hb hv7 (Nat.le_refl _)
  replace hv8 := cell_keep hb hv8 (Nat.le_refl _)
  replace hb0 := hb0.trans (hb.mono hb0.size)
  clear hb
  have hb := bel_alloc w3 (.cells #[.bool n1, .slice ad9 xs1.length cp10] 27)
  have zb14 : w3.heap.size + 1 ≤ (World.alloc w3 (.cells #[.bool n1, .slice ad9 xs1.length cp10] 27)).heap.size := by simp
  replace s4 := s4.below hb s4.1
  replace s12 := s12.below hb s12.1
  replace hx0_0 := cell_keep hb hx0_0 (Nat.le_refl _)
  replace hx0_1 := cell_keep hb hx0_1 (Nat.le_refl _)
  replace hx1_0 := cell_keep hb hx1_0 (Nat.le_refl _)
  replace hx1_1 := cell_keep hb hx1_1 (Nat.le_refl _)
  replace hv7 := cell_keep hb hv7 (Nat.le_refl _)
  replace hv8 := cell_keep hb hv8 (Nat.le_refl _)
  have hv15 : (World.alloc w3 (.cells #[.bool n1, .slice ad9 xs1.length cp10] 27)).cell? ⟨w3.heap.size, 0, none⟩ = some (.bool n1) := cell_box w3 _ _ _ 0 _ (by simp) rfl
  have hv16 : (World.alloc w3 (.cells #[.bool n1, .slice ad9 xs1.length cp10] 27)).cell? ⟨w3.heap.size, 1, none⟩ = some (.slice ad9 xs1.length cp10) := cell_box w3 _ _ _ 1 _ (by simp) rfl
  replace hb0 := hb0.trans (hb.mono hb0.size)
  clear hb
  go_wp2_with fail
  refine (impl_IntCmp _ _ _ _ _ _ _ _ _ ⟨s4.rd, lc5, (by omega)⟩ ⟨s12.rd, lc13, (by omega)⟩).mono ?_
  rintro e w4 ⟨rfl, hb⟩
  have zw4 : (World.alloc w3 (.cells #[.bool n1, .slice ad9 xs1.length cp10] 27)).heap.size ≤ w4.heap.size := hb.size
  replace s4 := s4.below hb s4.1
  replace s12 := s12.below hb s12.1
  replace hx0_0 := cell_keep hb hx0_0 (Nat.le_refl _)
  replace hx0_1 := cell_keep hb hx0_1 (Nat.le_refl _)
  replace hx1_0 := cell_keep hb hx1_0 (Nat.le_refl _)
  replace hx1_1 := cell_keep hb hx1_1 (Nat.le_refl _)
  replace hv7 := cell_keep hb hv7 (Nat.le_refl _)
  replace hv8 := cell_keep hb hv8 (Nat.le_refl _)
  replace hv15 := cell_keep hb hv15 (Nat.le_refl _)
  replace hv16 := cell_keep hb hv16 (Nat.le_refl _)
  replace hb0 := hb0.trans (hb.mono hb0.size)
  clear hb
  go_upto_region 14 with fail
  go_cut [39] (fun t wx => t = .bool false ∧ Below w4.heap.size w4 wx)
  case first =>
    go_region_with (first | (go_at_call 17; refine (toSigned_any _ _ _ _ (World.drew w4) (hp0.1.below hb0.drew (Nat.le_refl _)) ?_).mono ?_; omega; rintro e wA ⟨⟨adA, cpA, rfl, hoA⟩, hbA⟩; replace hbA := (Below.refl (w4).heap.size w4).drew.trans hbA; have qhx0_0 := cell_keep hbA hx0_0 (Nat.le_refl _); have qhx0_1 := cell_keep hbA hx0_1 (Nat.le_refl _); have qhx1_0 := cell_keep hbA hx1_0 (Nat.le_refl _); have qhx1_1 := cell_keep hbA hx1_1 (Nat.le_refl _); have qhv7 := cell_keep hbA hv7 (Nat.le_refl _); have qhv8 := cell_keep hbA hv8 (Nat.le_refl _); have qhv15 := cell_keep hbA hv15 (Nat.le_refl _); have qhv16 := cell_keep hbA hv16 (Nat.le_refl _)) | (go_at_call 19; refine (eqSigned_same _ _ _ _ _ _ _ (s4.below hbA s4.1).rd hoA.rd ?_).mono ?_; omega; rintro e wB ⟨rfl, hbB⟩))
    all_goals (go_wp2_with fail; go_meet; exact ⟨rfl, hbA.trans (hbB.mono hbA.size)⟩)
  case rest =>
  obtain ⟨rfl, hb⟩ := hcut
  obtain ⟨w5, hW⟩ : ∃ x : World, x = wc := ⟨_, rfl⟩
  rw [← hW] at hb ⊢
  clear hW
  have zw5 : w4.heap.size ≤ w5.heap.size := hb.size
  replace s4 := s4.below hb s4.1
  replace s12 := s12.below hb s12.1
  replace hx0_0 := cell_keep hb hx0_0 (Nat.le_refl _)
  replace hx0_1 := cell_keep hb hx0_1 (Nat.le_refl _)
  replace hx1_0 := cell_keep hb hx1_0 (Nat.le_refl _)
  replace hx1_1 := cell_keep hb hx1_1 (Nat.le_refl _)
  replace hv7 := cell_keep hb hv7 (Nat.le_refl _)
  replace hv8 := cell_keep hb hv8 (Nat.le_refl _)
  replace hv15 := cell_keep hb hv15 (Nat.le_refl _)
  replace hv16 := cell_keep hb hv16 (Nat.le_refl _)
  replace hb0 := hb0.trans (hb.mono hb0.size)
  clear hb
  go_upto_region 16 with fail
  go_cut [44] (fun t wx => t = .bool false ∧ Below w5.heap.size w5 wx)
  case first =>
    go_region_with (first | (go_at_call 17; refine (toSigned_any _ _ _ _ (World.drew w5) (hp1.1.below hb0.drew (Nat.le_refl _)) ?_).mono ?_; omega; rintro e wA ⟨⟨adA, cpA, rfl, hoA⟩, hbA⟩; replace hbA := (Below.refl (w5).heap.size w5).drew.trans hbA; have qhx0_0 := cell_keep hbA hx0_0 (Nat.le_refl _); have qhx0_1 := cell_keep hbA hx0_1 (Nat.le_refl _); have qhx1_0 := cell_keep hbA hx1_0 (Nat.le_refl _); have qhx1_1 := cell_keep hbA hx1_1 (Nat.le_refl _); have qhv7 := cell_keep hbA hv7 (Nat.le_refl _); have qhv8 := cell_keep hbA hv8 (Nat.le_refl _); have qhv15 := cell_keep hbA hv15 (Nat.le_refl _); have qhv16 := cell_keep hbA hv16 (Nat.le_refl _)) | (go_at_call 19; refine (eqSigned_same _ _ _ _ _ _ _ (s12.below hbA s12.1).rd hoA.rd ?_).mono ?_; omega; rintro e wB ⟨rfl, hbB⟩))
    all_goals (go_wp2_with fail; go_meet; exact ⟨rfl, hbA.trans (hbB.mono hbA.size)⟩)
  case rest =>
  obtain ⟨rfl, hb⟩ := hcut
  obtain ⟨w6, hW⟩ : ∃ x : World, x = wc := ⟨_, rfl⟩
  rw [← hW] at hb ⊢
  clear hW
  have zw6 : w5.heap.size ≤ w6.heap.size := hb.size
  replace s4 := s4.below hb s4.1
  replace s12 := s12.below hb s12.1
  replace hx0_0 := cell_keep hb hx0_0 (Nat.le_refl _)
  replace hx0_1 := cell_keep hb hx0_1 (Nat.le_refl _)
  replace hx1_0 := cell_keep hb hx1_0 (Nat.le_refl _)
  replace hx1_1 := cell_keep hb hx1_1 (Nat.le_refl _)
  replace hv7 := cell_keep hb hv7 (Nat.le_refl _)
  replace hv8 := cell_keep hb hv8 (Nat.le_refl _)
  replace hv15 := cell_keep hb hv15 (Nat.le_refl _)
  replace hv16 := cell_keep hb hv16 (Nat.le_refl _)
  replace hb0 := hb0.trans (hb.mono hb0.size)
  clear hb
  go_wp2
  go_ret
  exact ⟨rfl, hb0⟩

theorem own : ownKnob Try.prog.godebug = none := by kernel_rfl
theorem laidOut : laidOutB Try.prog = true := by kernel_rfl
set_option maxRecDepth 100000 in
theorem lifted (os : Os) (started : os.Started) (H : Type) (enc : TypeId × Value → H) :
    ReturnsInHanded {} Try.checked os 11 .any (Rows.fnExactIntCmpSpec.pre6 enc Try.prog Try.f11 Rows.fnExactIntCmpRow.domain false) (Rows.fnExactIntCmpSpec.post enc Try.prog Try.f11 false true false false) := by
  refine returnsInHanded_of_change (C := Try.checked) own started (by kernel_rfl) Try.func11
    (ChangeSpec.witness6 (enc := enc) (C := Try.checked) false ⟨#[], #[.agg #[.bool false, .slice none 0 0], .agg #[.bool false, .slice none 0 0]], []⟩ 8 (by kernel_rfl) (by kernel_rfl) (by kernel_rfl) (by kernel_rfl)) ?_
  intro W base args ds gs before hval0 hW hcnd _
  have hval : ∀ (j : Nat) t v, Try.f11.params[j]? = some t → args[j]? = some v → Value.okWide Try.prog W .any base t v := hval0
  have hW' := hW
  obtain ⟨p, q, hA0, hV, rfl, hfz, hnd⟩ := hW
  have hA : DataW.TrodAll enc Try.prog W 0 (fun _ => true) true Try.f11.params.toList args.toList ds p := hA0
  rw [Try.params11] at hA hval
  obtain ⟨v0, vs0, d0, ds0, p0, q0, hargs, rfl, rfl, h0, r0⟩ := trodAll_cons hA
  obtain ⟨v1, vs1, d1, ds1, p1, q1, rfl, rfl, rfl, h1, r1⟩ := trodAll_cons r0
  obtain ⟨rfl, rfl, rfl⟩ := trodAll_nil r1
  obtain rfl : args = #[v0, v1] := by cases args; simp_all
  obtain ⟨rfl, rfl⟩ := trodVars_none hV
  have k0 := h0
  have lt0 : ∀ x ∈ p0, x.block < W.heap.size := by obtain ⟨m, hm⟩ := k0; exact DataW.trod_lt m _ _ _ hm
  have k1 := h1
  have lt1 : ∀ x ∈ p1, x.block < W.heap.size := by obtain ⟨m, hm⟩ := k1; exact DataW.trod_lt m _ _ _ hm
  obtain ⟨f00, f10, y00, y10, m0, rfl, rfl, rfl, hy00, hy10⟩ := Joins.open_agg2 Try.underlying24 (by kernel_rfl) (by kernel_rfl) (hval 0 24 v0 rfl rfl) h0
  obtain ⟨n0, e00, rfl⟩ := DataW.trod_bool Try.underlying4 hy00
  simp only [List.cons.injEq, and_true] at e00
  subst e00
  obtain ⟨a0, cap0, xs0, e10, w0⟩ : ∃ (a : Option Addr) (c : Nat) (xs : List Int), f10 = .slice a xs.length c ∧ (Rd W a xs ∧ xs.length ≤ maxLen) := by
    rcases open_ints Try.underlying22 Try.underlying3 (by kernel_rfl) hy10 with ⟨hcs, _⟩ | ⟨x, l, c, zs, hcs, _, hl, hm, hz, _, hcell, hwz⟩
    · exact ⟨none, 0, [], by simpa using hcs, Rd.nil _ _, Nat.zero_le _⟩
    · have hz' : zs.length = c := by simpa using hz
      have hl' : (zs.take l).length = l := by rw [List.length_take]; omega
      refine ⟨some x, c, zs.take l, by rw [hl']; simpa using hcs, rd_of_cells hcell _, by rw [hl']; omega⟩
  subst e10
  obtain ⟨f01, f11, y01, y11, m1, rfl, rfl, rfl, hy01, hy11⟩ := Joins.open_agg2 Try.underlying24 (by kernel_rfl) (by kernel_rfl) (hval 1 24 v1 rfl rfl) h1
  obtain ⟨n1, e01, rfl⟩ := DataW.trod_bool Try.underlying4 hy01
  simp only [List.cons.injEq, and_true] at e01
  subst e01
  obtain ⟨a1, cap1, xs1, e11, w1⟩ : ∃ (a : Option Addr) (c : Nat) (xs : List Int), f11 = .slice a xs.length c ∧ (Rd W a xs ∧ xs.length ≤ maxLen) := by
    rcases open_ints Try.underlying22 Try.underlying3 (by kernel_rfl) hy11 with ⟨hcs, _⟩ | ⟨x, l, c, zs, hcs, _, hl, hm, hz, _, hcell, hwz⟩
    · exact ⟨none, 0, [], by simpa using hcs, Rd.nil _ _, Nat.zero_le _⟩
    · have hz' : zs.length = c := by simpa using hz
      have hl' : (zs.take l).length = l := by rw [List.length_take]; omega
      refine ⟨some x, c, zs.take l, by rw [hl']; simpa using hcs, rd_of_cells hcell _, by rw [hl']; omega⟩
  subst e11
  clear hA0 hval0
  refine (walk n0 a0 cap0 xs0 n1 a1 cap1 xs1 W w0 w1).mono fun e W' ⟨he, bel⟩ => ?_
  subst he
  exact ⟨_, rfl, _, _, _, [], _, [], hW', trodAll_mk1 (shut_bool Try.underlying4 _), (trodAll_cons_mk (Below.trod laidOut (by kernel_rfl) (of_decide_eq_true (by kernel_rfl)) k0 bel lt0) (trodAll_cons_mk (Below.trod laidOut (by kernel_rfl) (of_decide_eq_true (by kernel_rfl)) k1 bel lt1) trodAll_mk0)), rfl, bel.frame _, fun h => by cases h⟩

theorem over : Rows.fnExactIntCmpRow.holds Try.pinned (OpenSpec.ofChange Rows.fnExactIntCmpSpec) :=
  OpenClaim.holds_of_wide 11 Try.f11 rfl rfl rfl rfl rfl rfl rfl ⟨rfl, rfl, rfl, rfl, rfl⟩ rfl rfl rfl rfl rfl (by kernel_rfl) Try.func11 (by kernel_rfl)
    (of_decide_eq_true (by kernel_rfl)) (by unfold Func.isWrapper; first | (rw [if_pos (by decide +kernel)]; kernel_rfl) | (rw [if_neg (by decide +kernel)]; exact ⟨rfl, rfl⟩))
    (fun os started H enc _ => lifted os started H enc)

theorem proved : Rows.FnExactIntCmpSaid := over
#print axioms proved
end Go.Proofs.Ytmkhpeddmifdkaa.fnExactIntCmp
