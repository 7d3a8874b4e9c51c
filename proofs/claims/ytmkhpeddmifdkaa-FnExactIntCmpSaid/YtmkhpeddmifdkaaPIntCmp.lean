/- The law FnExactIntCmp answers true at every input. No condition. (The walk is printed by gen_law.py off the law's text.) -/
import Derived.Test.YtmkhpeddmifdkaaRows
import Derived.Test.YtmkhpeddmifdkaaWIntOf
import Derived.Test.YtmkhpeddmifdkaaWIntFm
import Derived.Test.YtmkhpeddmifdkaaWIntCmi
import Derived.Test.YtmkhpeddmifdkaaWEqInt
import Derived.Test.YtmkhpeddmifdkaaWMark
import Derived.ProofKit
import Derived.OpenShut
import Derived.ShutString
import Derived.ChangeOld
import Derived.Lib.SmallJoins
import Derived.Deep.RegionWith
import Derived.Deep.DeepCutAuto
import Derived.Below
namespace Go.Proofs.Ytmkhpeddmifdkaa.fnExactIntCmp
open Go.ChangeShapes Go.WideShapes Go.ChangeAt Go.RowKit
open Go.ChangeMaps (open_string shut_string)
set_option linter.unusedVariables false

set_option maxHeartbeats 4000000 in
theorem walk (n0 : Bool) (a0 : Option Addr) (c0 : Nat) (xs0 : List Int) (n1 : Bool) (a1 : Option Addr) (c1 : Nat) (xs1 : List Int) (w : World) (hp0 : Rd w a0 xs0 ∧ xs0.length ≤ maxLen) (hp1 : Rd w a1 xs1 ∧ xs1.length ≤ maxLen) :
    Calls Try.prog 11 #[.agg #[.bool n0, .slice a0 xs0.length c0], .agg #[.bool n1, .slice a1 xs1.length c1]] w fun e w' => e = .returned (.bool true) ∧ Below w.heap.size w w' := by
  have hb0 := Below.refl w.heap.size w
  have hm0 := hp0.2
  unfold maxLen at hm0
  have hm1 := hp1.2
  unfold maxLen at hm1
  by_cases hs0 : (xs0.length : Int) ≤ 1048576
  rotate_left
  · replace hb0 := hb0.trans ((bel_alloc w (.cells #[.bool n0, .slice a0 xs0.length c0] 24)).mono (by simp))
    replace hb0 := hb0.trans ((bel_alloc _ (.cells #[.bool n1, .slice a1 xs1.length c1] 24)).mono (by simp; try omega))
    have zbox : w.heap.size + 2 ≤ ((World.alloc (World.alloc w (.cells #[.bool n0, .slice a0 xs0.length c0] 24)) (.cells #[.bool n1, .slice a1 xs1.length c1] 24))).heap.size := by simp
    go_enter Try.func11, Try.ntmps11
    go_wp2_with fail
    refine (szSigned_no _ _ _ _ _ _ (by omega) (by omega) (by omega) hp0.2).mono ?_
    rintro e wz ⟨rfl, hbz⟩
    replace hb0 := hb0.trans (hbz.mono hb0.size)
    go_wp2
    go_ret
    exact ⟨rfl, hb0⟩
  by_cases hs1 : (xs1.length : Int) ≤ 1048576 - (xs0.length : Int)
  rotate_left
  · replace hb0 := hb0.trans ((bel_alloc w (.cells #[.bool n0, .slice a0 xs0.length c0] 24)).mono (by simp))
    replace hb0 := hb0.trans ((bel_alloc _ (.cells #[.bool n1, .slice a1 xs1.length c1] 24)).mono (by simp; try omega))
    have zbox : w.heap.size + 2 ≤ ((World.alloc (World.alloc w (.cells #[.bool n0, .slice a0 xs0.length c0] 24)) (.cells #[.bool n1, .slice a1 xs1.length c1] 24))).heap.size := by simp
    go_enter Try.func11, Try.ntmps11
    go_wp2_with fail
    refine (szSigned_yes _ _ _ _ _ _ (by omega) (by omega)).mono ?_
    rintro e wz0 ⟨rfl, hb⟩
    have zwz0 : (World.alloc (World.alloc w (.cells #[.bool n0, .slice a0 xs0.length c0] 24)) (.cells #[.bool n1, .slice a1 xs1.length c1] 24)).heap.size ≤ wz0.heap.size := hb.size
    have hx0_0 : wz0.cell? ⟨w.heap.size, 0, none⟩ = some (.bool n0) := cell_keep hb (cell_keep (bel_alloc _ (.cells #[.bool n1, .slice a1 xs1.length c1] 24)) (cell_box w _ _ _ 0 _ (by simp) rfl) (Nat.le_refl _)) (Nat.le_refl _)
    have hx0_1 : wz0.cell? ⟨w.heap.size, 1, none⟩ = some (.slice a0 xs0.length c0) := cell_keep hb (cell_keep (bel_alloc _ (.cells #[.bool n1, .slice a1 xs1.length c1] 24)) (cell_box w _ _ _ 1 _ (by simp) rfl) (Nat.le_refl _)) (Nat.le_refl _)
    have hx1_0 : wz0.cell? ⟨w.heap.size + 1, 0, none⟩ = some (.bool n1) := cell_keep hb (cell_box (World.alloc w (.cells #[.bool n0, .slice a0 xs0.length c0] 24)) _ _ _ 0 _ (by simp) rfl) (Nat.le_refl _)
    have hx1_1 : wz0.cell? ⟨w.heap.size + 1, 1, none⟩ = some (.slice a1 xs1.length c1) := cell_keep hb (cell_box (World.alloc w (.cells #[.bool n0, .slice a0 xs0.length c0] 24)) _ _ _ 1 _ (by simp) rfl) (Nat.le_refl _)
    replace hb0 := hb0.trans (hb.mono hb0.size)
    clear hb
    go_wp2_with fail
    refine (szSigned_no _ _ _ _ _ _ (by omega) (by omega) (by omega) hp1.2).mono ?_
    rintro e wz ⟨rfl, hbz⟩
    replace hb0 := hb0.trans (hbz.mono hb0.size)
    go_wp2
    go_ret
    exact ⟨rfl, hb0⟩
  replace hb0 := hb0.trans ((bel_alloc w (.cells #[.bool n0, .slice a0 xs0.length c0] 24)).mono (by simp))
  replace hb0 := hb0.trans ((bel_alloc _ (.cells #[.bool n1, .slice a1 xs1.length c1] 24)).mono (by simp; try omega))
  have zbox : w.heap.size + 2 ≤ ((World.alloc (World.alloc w (.cells #[.bool n0, .slice a0 xs0.length c0] 24)) (.cells #[.bool n1, .slice a1 xs1.length c1] 24))).heap.size := by simp
  go_enter Try.func11, Try.ntmps11
  go_wp2_with fail
  refine (szSigned_yes _ _ _ _ _ _ (by omega) (by omega)).mono ?_
  rintro e wz0 ⟨rfl, hb⟩
  have zwz0 : (World.alloc (World.alloc w (.cells #[.bool n0, .slice a0 xs0.length c0] 24)) (.cells #[.bool n1, .slice a1 xs1.length c1] 24)).heap.size ≤ wz0.heap.size := hb.size
  have hx0_0 : wz0.cell? ⟨w.heap.size, 0, none⟩ = some (.bool n0) := cell_keep hb (cell_keep (bel_alloc _ (.cells #[.bool n1, .slice a1 xs1.length c1] 24)) (cell_box w _ _ _ 0 _ (by simp) rfl) (Nat.le_refl _)) (Nat.le_refl _)
  have hx0_1 : wz0.cell? ⟨w.heap.size, 1, none⟩ = some (.slice a0 xs0.length c0) := cell_keep hb (cell_keep (bel_alloc _ (.cells #[.bool n1, .slice a1 xs1.length c1] 24)) (cell_box w _ _ _ 1 _ (by simp) rfl) (Nat.le_refl _)) (Nat.le_refl _)
  have hx1_0 : wz0.cell? ⟨w.heap.size + 1, 0, none⟩ = some (.bool n1) := cell_keep hb (cell_box (World.alloc w (.cells #[.bool n0, .slice a0 xs0.length c0] 24)) _ _ _ 0 _ (by simp) rfl) (Nat.le_refl _)
  have hx1_1 : wz0.cell? ⟨w.heap.size + 1, 1, none⟩ = some (.slice a1 xs1.length c1) := cell_keep hb (cell_box (World.alloc w (.cells #[.bool n0, .slice a0 xs0.length c0] 24)) _ _ _ 1 _ (by simp) rfl) (Nat.le_refl _)
  replace hb0 := hb0.trans (hb.mono hb0.size)
  clear hb
  go_wp2_with fail
  refine (szSigned_yes _ _ _ _ _ _ (by omega) (by omega)).mono ?_
  rintro e wz1 ⟨rfl, hb⟩
  have zwz1 : wz0.heap.size ≤ wz1.heap.size := hb.size
  replace hx0_0 := cell_keep hb hx0_0 (Nat.le_refl _)
  replace hx0_1 := cell_keep hb hx0_1 (Nat.le_refl _)
  replace hx1_0 := cell_keep hb hx1_0 (Nat.le_refl _)
  replace hx1_1 := cell_keep hb hx1_1 (Nat.le_refl _)
  replace hb0 := hb0.trans (hb.mono hb0.size)
  clear hb
  go_wp2_with fail
  refine (toSigned_any _ _ _ _ _ (hp0.1.below hb0 (Nat.le_refl _)) (by omega)).mono ?_
  rintro e w1 ⟨⟨ad1, cp2, rfl, ho3⟩, hb⟩
  have s4 := Slot.of ho3
  have lc5 := (ho3.inn (by omega)).2.1
  clear ho3
  have zw1 : wz1.heap.size ≤ w1.heap.size := hb.size
  replace hx0_0 := cell_keep hb hx0_0 (Nat.le_refl _)
  replace hx0_1 := cell_keep hb hx0_1 (Nat.le_refl _)
  replace hx1_0 := cell_keep hb hx1_0 (Nat.le_refl _)
  replace hx1_1 := cell_keep hb hx1_1 (Nat.le_refl _)
  replace hb0 := hb0.trans (hb.mono hb0.size)
  clear hb
  go_wp2_with fail
  refine (toSigned_any _ _ _ _ _ (hp1.1.below hb0 (Nat.le_refl _)) (by omega)).mono ?_
  rintro e w2 ⟨⟨ad6, cp7, rfl, ho8⟩, hb⟩
  have s9 := Slot.of ho8
  have lc10 := (ho8.inn (by omega)).2.1
  clear ho8
  have zw2 : w1.heap.size ≤ w2.heap.size := hb.size
  replace s4 := s4.below hb s4.1
  replace hx0_0 := cell_keep hb hx0_0 (Nat.le_refl _)
  replace hx0_1 := cell_keep hb hx0_1 (Nat.le_refl _)
  replace hx1_0 := cell_keep hb hx1_0 (Nat.le_refl _)
  replace hx1_1 := cell_keep hb hx1_1 (Nat.le_refl _)
  replace hb0 := hb0.trans (hb.mono hb0.size)
  clear hb
  go_wp2_with fail
  refine (spec_IntCmp _ _ _ _ _ _ _ _ _ ⟨s4.rd, lc5, (by omega)⟩ ⟨s9.rd, lc10, (by omega)⟩).mono ?_
  rintro e w3 ⟨rfl, hb⟩
  have zw3 : w2.heap.size ≤ w3.heap.size := hb.size
  replace hx0_0 := cell_keep hb hx0_0 (Nat.le_refl _)
  replace hx0_1 := cell_keep hb hx0_1 (Nat.le_refl _)
  replace hx1_0 := cell_keep hb hx1_0 (Nat.le_refl _)
  replace hx1_1 := cell_keep hb hx1_1 (Nat.le_refl _)
  replace hb0 := hb0.trans (hb.mono hb0.size)
  clear hb
  go_wp2_with fail
  refine (toSigned_any _ _ _ _ _ (hp0.1.below hb0 (Nat.le_refl _)) (by omega)).mono ?_
  rintro e w4 ⟨⟨ad11, cp12, rfl, ho13⟩, hb⟩
  have s14 := Slot.of ho13
  have lc15 := (ho13.inn (by omega)).2.1
  clear ho13
  have zw4 : w3.heap.size ≤ w4.heap.size := hb.size
  replace hx0_0 := cell_keep hb hx0_0 (Nat.le_refl _)
  replace hx0_1 := cell_keep hb hx0_1 (Nat.le_refl _)
  replace hx1_0 := cell_keep hb hx1_0 (Nat.le_refl _)
  replace hx1_1 := cell_keep hb hx1_1 (Nat.le_refl _)
  replace hb0 := hb0.trans (hb.mono hb0.size)
  clear hb
  have hb := bel_alloc w4 (.cells #[.bool n0, .slice ad11 xs0.length cp12] 27)
  have zb16 : w4.heap.size + 1 ≤ (World.alloc w4 (.cells #[.bool n0, .slice ad11 xs0.length cp12] 27)).heap.size := by simp
  replace s14 := s14.below hb s14.1
  replace hx0_0 := cell_keep hb hx0_0 (Nat.le_refl _)
  replace hx0_1 := cell_keep hb hx0_1 (Nat.le_refl _)
  replace hx1_0 := cell_keep hb hx1_0 (Nat.le_refl _)
  replace hx1_1 := cell_keep hb hx1_1 (Nat.le_refl _)
  have hv17 : (World.alloc w4 (.cells #[.bool n0, .slice ad11 xs0.length cp12] 27)).cell? ⟨w4.heap.size, 0, none⟩ = some (.bool n0) := cell_box w4 _ _ _ 0 _ (by simp) rfl
  have hv18 : (World.alloc w4 (.cells #[.bool n0, .slice ad11 xs0.length cp12] 27)).cell? ⟨w4.heap.size, 1, none⟩ = some (.slice ad11 xs0.length cp12) := cell_box w4 _ _ _ 1 _ (by simp) rfl
  replace hb0 := hb0.trans (hb.mono hb0.size)
  clear hb
  go_wp2_with fail
  refine (toSigned_any _ _ _ _ _ (hp1.1.below hb0 (Nat.le_refl _)) (by omega)).mono ?_
  rintro e w5 ⟨⟨ad19, cp20, rfl, ho21⟩, hb⟩
  have s22 := Slot.of ho21
  have lc23 := (ho21.inn (by omega)).2.1
  clear ho21
  have zw5 : (World.alloc w4 (.cells #[.bool n0, .slice ad11 xs0.length cp12] 27)).heap.size ≤ w5.heap.size := hb.size
  replace s14 := s14.below hb s14.1
  replace hx0_0 := cell_keep hb hx0_0 (Nat.le_refl _)
  replace hx0_1 := cell_keep hb hx0_1 (Nat.le_refl _)
  replace hx1_0 := cell_keep hb hx1_0 (Nat.le_refl _)
  replace hx1_1 := cell_keep hb hx1_1 (Nat.le_refl _)
  replace hv17 := cell_keep hb hv17 (Nat.le_refl _)
  replace hv18 := cell_keep hb hv18 (Nat.le_refl _)
  replace hb0 := hb0.trans (hb.mono hb0.size)
  clear hb
  have hb := bel_alloc w5 (.cells #[.bool n1, .slice ad19 xs1.length cp20] 27)
  have zb24 : w5.heap.size + 1 ≤ (World.alloc w5 (.cells #[.bool n1, .slice ad19 xs1.length cp20] 27)).heap.size := by simp
  replace s14 := s14.below hb s14.1
  replace s22 := s22.below hb s22.1
  replace hx0_0 := cell_keep hb hx0_0 (Nat.le_refl _)
  replace hx0_1 := cell_keep hb hx0_1 (Nat.le_refl _)
  replace hx1_0 := cell_keep hb hx1_0 (Nat.le_refl _)
  replace hx1_1 := cell_keep hb hx1_1 (Nat.le_refl _)
  replace hv17 := cell_keep hb hv17 (Nat.le_refl _)
  replace hv18 := cell_keep hb hv18 (Nat.le_refl _)
  have hv25 : (World.alloc w5 (.cells #[.bool n1, .slice ad19 xs1.length cp20] 27)).cell? ⟨w5.heap.size, 0, none⟩ = some (.bool n1) := cell_box w5 _ _ _ 0 _ (by simp) rfl
  have hv26 : (World.alloc w5 (.cells #[.bool n1, .slice ad19 xs1.length cp20] 27)).cell? ⟨w5.heap.size, 1, none⟩ = some (.slice ad19 xs1.length cp20) := cell_box w5 _ _ _ 1 _ (by simp) rfl
  replace hb0 := hb0.trans (hb.mono hb0.size)
  clear hb
  go_wp2_with fail
  refine (impl_IntCmp _ _ _ _ _ _ _ _ _ ⟨s14.rd, lc15, (by omega)⟩ ⟨s22.rd, lc23, (by omega)⟩).mono ?_
  rintro e w6 ⟨rfl, hb⟩
  have zw6 : (World.alloc w5 (.cells #[.bool n1, .slice ad19 xs1.length cp20] 27)).heap.size ≤ w6.heap.size := hb.size
  replace s14 := s14.below hb s14.1
  replace s22 := s22.below hb s22.1
  replace hx0_0 := cell_keep hb hx0_0 (Nat.le_refl _)
  replace hx0_1 := cell_keep hb hx0_1 (Nat.le_refl _)
  replace hx1_0 := cell_keep hb hx1_0 (Nat.le_refl _)
  replace hx1_1 := cell_keep hb hx1_1 (Nat.le_refl _)
  replace hv17 := cell_keep hb hv17 (Nat.le_refl _)
  replace hv18 := cell_keep hb hv18 (Nat.le_refl _)
  replace hv25 := cell_keep hb hv25 (Nat.le_refl _)
  replace hv26 := cell_keep hb hv26 (Nat.le_refl _)
  replace hb0 := hb0.trans (hb.mono hb0.size)
  clear hb
  go_upto_region 8 with fail
  go_cut [None] (fun t wx => t = .bool false ∧ Below w6.heap.size w6 wx)
  case first =>
    go_region_with (first | (go_at_call 17; refine (toSigned_any _ _ _ _ (World.drew w6) (hp0.1.below hb0.drew (Nat.le_refl _)) ?_).mono ?_; omega; rintro e wA ⟨⟨adA, cpA, rfl, hoA⟩, hbA⟩; replace hbA := (Below.refl (w6).heap.size w6).drew.trans hbA; have qhx0_0 := cell_keep hbA hx0_0 (Nat.le_refl _); have qhx0_1 := cell_keep hbA hx0_1 (Nat.le_refl _); have qhx1_0 := cell_keep hbA hx1_0 (Nat.le_refl _); have qhx1_1 := cell_keep hbA hx1_1 (Nat.le_refl _); have qhv17 := cell_keep hbA hv17 (Nat.le_refl _); have qhv18 := cell_keep hbA hv18 (Nat.le_refl _); have qhv25 := cell_keep hbA hv25 (Nat.le_refl _); have qhv26 := cell_keep hbA hv26 (Nat.le_refl _)) | (go_at_call 19; refine (eqSigned_same _ _ _ _ _ _ _ (s14.below hbA s14.1).rd hoA.rd ?_).mono ?_; omega; rintro e wB ⟨rfl, hbB⟩))
    all_goals (go_wp2_with fail; go_meet; exact ⟨rfl, hbA.trans (hbB.mono hbA.size)⟩)
  case rest =>
  obtain ⟨rfl, hb⟩ := hcut
  obtain ⟨w7, hW⟩ : ∃ x : World, x = wc := ⟨_, rfl⟩
  rw [← hW] at hb ⊢
  clear hW
  have zw7 : w6.heap.size ≤ w7.heap.size := hb.size
  replace s14 := s14.below hb s14.1
  replace s22 := s22.below hb s22.1
  replace hx0_0 := cell_keep hb hx0_0 (Nat.le_refl _)
  replace hx0_1 := cell_keep hb hx0_1 (Nat.le_refl _)
  replace hx1_0 := cell_keep hb hx1_0 (Nat.le_refl _)
  replace hx1_1 := cell_keep hb hx1_1 (Nat.le_refl _)
  replace hv17 := cell_keep hb hv17 (Nat.le_refl _)
  replace hv18 := cell_keep hb hv18 (Nat.le_refl _)
  replace hv25 := cell_keep hb hv25 (Nat.le_refl _)
  replace hv26 := cell_keep hb hv26 (Nat.le_refl _)
  replace hb0 := hb0.trans (hb.mono hb0.size)
  clear hb
  go_upto_region 14 with fail
  go_cut [39] (fun t wx => t = .bool false ∧ Below w7.heap.size w7 wx)
  case first =>
    go_region_with (first | (go_at_call 17; refine (toSigned_any _ _ _ _ (World.drew w7) (hp1.1.below hb0.drew (Nat.le_refl _)) ?_).mono ?_; omega; rintro e wA ⟨⟨adA, cpA, rfl, hoA⟩, hbA⟩; replace hbA := (Below.refl (w7).heap.size w7).drew.trans hbA; have qhx0_0 := cell_keep hbA hx0_0 (Nat.le_refl _); have qhx0_1 := cell_keep hbA hx0_1 (Nat.le_refl _); have qhx1_0 := cell_keep hbA hx1_0 (Nat.le_refl _); have qhx1_1 := cell_keep hbA hx1_1 (Nat.le_refl _); have qhv17 := cell_keep hbA hv17 (Nat.le_refl _); have qhv18 := cell_keep hbA hv18 (Nat.le_refl _); have qhv25 := cell_keep hbA hv25 (Nat.le_refl _); have qhv26 := cell_keep hbA hv26 (Nat.le_refl _)) | (go_at_call 19; refine (eqSigned_same _ _ _ _ _ _ _ (s22.below hbA s22.1).rd hoA.rd ?_).mono ?_; omega; rintro e wB ⟨rfl, hbB⟩))
    all_goals (go_wp2_with fail; go_meet; exact ⟨rfl, hbA.trans (hbB.mono hbA.size)⟩)
  case rest =>
  obtain ⟨rfl, hb⟩ := hcut
  obtain ⟨w8, hW⟩ : ∃ x : World, x = wc := ⟨_, rfl⟩
  rw [← hW] at hb ⊢
  clear hW
  have zw8 : w7.heap.size ≤ w8.heap.size := hb.size
  replace s14 := s14.below hb s14.1
  replace s22 := s22.below hb s22.1
  replace hx0_0 := cell_keep hb hx0_0 (Nat.le_refl _)
  replace hx0_1 := cell_keep hb hx0_1 (Nat.le_refl _)
  replace hx1_0 := cell_keep hb hx1_0 (Nat.le_refl _)
  replace hx1_1 := cell_keep hb hx1_1 (Nat.le_refl _)
  replace hv17 := cell_keep hb hv17 (Nat.le_refl _)
  replace hv18 := cell_keep hb hv18 (Nat.le_refl _)
  replace hv25 := cell_keep hb hv25 (Nat.le_refl _)
  replace hv26 := cell_keep hb hv26 (Nat.le_refl _)
  replace hb0 := hb0.trans (hb.mono hb0.size)
  clear hb
  go_wp2
  go_ret
  exact ⟨rfl, hb0⟩

theorem own : ownKnob Try.prog.godebug = none := by kernel_rfl
theorem laidOut : laidOutB Try.prog = true := by kernel_rfl
set_option maxRecDepth 100000 in
theorem lifted (os : Os) (started : os.Started) (H : Type) (enc : TypeId × Value → H) :
    ReturnsInHanded {} Try.checked os 11 .any (Rows.fnExactIntCmpSpec.pre6 enc Try.prog Try.f11 Rows.fnExactIntCmpRow.domain false) (Rows.fnExactIntCmpSpec.post enc Try.prog Try.f11 false true false false) := by
  refine returnsInHanded_of_change (C := Try.checked) own started (by kernel_rfl) Try.func11
    (ChangeSpec.witness6 (enc := enc) (C := Try.checked) false ⟨#[], #[.agg #[.bool false, .slice none 0 0], .agg #[.bool false, .slice none 0 0]], []⟩ 8 (by kernel_rfl) (by kernel_rfl) (by kernel_rfl) (by kernel_rfl)) ?_
  intro W base args ds gs before hval0 hW hcnd _
  have hval : ∀ (j : Nat) t v, Try.f11.params[j]? = some t → args[j]? = some v → Value.okWide Try.prog W .any base t v := hval0
  have hW' := hW
  obtain ⟨p, q, hA0, hV, rfl, hfz, hnd⟩ := hW
  have hA : DataW.TrodAll enc Try.prog W 0 (fun _ => true) true Try.f11.params.toList args.toList ds p := hA0
  rw [Try.params11] at hA hval
  obtain ⟨v0, vs0, d0, ds0, p0, q0, hargs, rfl, rfl, h0, r0⟩ := trodAll_cons hA
  obtain ⟨v1, vs1, d1, ds1, p1, q1, rfl, rfl, rfl, h1, r1⟩ := trodAll_cons r0
  obtain ⟨rfl, rfl, rfl⟩ := trodAll_nil r1
  obtain rfl : args = #[v0, v1] := by cases args; simp_all
  obtain ⟨rfl, rfl⟩ := trodVars_none hV
  have k0 := h0
  have lt0 : ∀ x ∈ p0, x.block < W.heap.size := by obtain ⟨m, hm⟩ := k0; exact DataW.trod_lt m _ _ _ hm
  have k1 := h1
  have lt1 : ∀ x ∈ p1, x.block < W.heap.size := by obtain ⟨m, hm⟩ := k1; exact DataW.trod_lt m _ _ _ hm
  obtain ⟨f00, f10, y00, y10, m0, rfl, rfl, rfl, hy00, hy10⟩ := Joins.open_agg2 Try.underlying24 (by kernel_rfl) (by kernel_rfl) (hval 0 24 v0 rfl rfl) h0
  obtain ⟨n0, e00, rfl⟩ := DataW.trod_bool Try.underlying4 hy00
  simp only [List.cons.injEq, and_true] at e00
  subst e00
  obtain ⟨a0, cap0, xs0, e10, w0⟩ : ∃ (a : Option Addr) (c : Nat) (xs : List Int), f10 = .slice a xs.length c ∧ (Rd W a xs ∧ xs.length ≤ maxLen) := by
    rcases open_ints Try.underlying22 Try.underlying3 (by kernel_rfl) hy10 with ⟨hcs, _⟩ | ⟨x, l, c, zs, hcs, _, hl, hm, hz, _, hcell, hwz⟩
    · exact ⟨none, 0, [], by simpa using hcs, Rd.nil _ _, Nat.zero_le _⟩
    · have hz' : zs.length = c := by simpa using hz
      have hl' : (zs.take l).length = l := by rw [List.length_take]; omega
      refine ⟨some x, c, zs.take l, by rw [hl']; simpa using hcs, rd_of_cells hcell _, by rw [hl']; omega⟩
  subst e10
  obtain ⟨f01, f11, y01, y11, m1, rfl, rfl, rfl, hy01, hy11⟩ := Joins.open_agg2 Try.underlying24 (by kernel_rfl) (by kernel_rfl) (hval 1 24 v1 rfl rfl) h1
  obtain ⟨n1, e01, rfl⟩ := DataW.trod_bool Try.underlying4 hy01
  simp only [List.cons.injEq, and_true] at e01
  subst e01
  obtain ⟨a1, cap1, xs1, e11, w1⟩ : ∃ (a : Option Addr) (c : Nat) (xs : List Int), f11 = .slice a xs.length c ∧ (Rd W a xs ∧ xs.length ≤ maxLen) := by
    rcases open_ints Try.underlying22 Try.underlying3 (by kernel_rfl) hy11 with ⟨hcs, _⟩ | ⟨x, l, c, zs, hcs, _, hl, hm, hz, _, hcell, hwz⟩
    · exact ⟨none, 0, [], by simpa using hcs, Rd.nil _ _, Nat.zero_le _⟩
    · have hz' : zs.length = c := by simpa using hz
      have hl' : (zs.take l).length = l := by rw [List.length_take]; omega
      refine ⟨some x, c, zs.take l, by rw [hl']; simpa using hcs, rd_of_cells hcell _, by rw [hl']; omega⟩
  subst e11
  clear hA0 hval0
  refine (walk n0 a0 cap0 xs0 n1 a1 cap1 xs1 W w0 w1).mono fun e W' ⟨he, bel⟩ => ?_
  subst he
  exact ⟨_, rfl, _, _, _, [], _, [], hW', trodAll_mk1 (shut_bool Try.underlying4 _), (trodAll_cons_mk (Below.trod laidOut (by kernel_rfl) (of_decide_eq_true (by kernel_rfl)) k0 bel lt0) (trodAll_cons_mk (Below.trod laidOut (by kernel_rfl) (of_decide_eq_true (by kernel_rfl)) k1 bel lt1) trodAll_mk0)), rfl, bel.frame _, fun h => by cases h⟩

theorem over : Rows.fnExactIntCmpRow.holds Try.pinned (OpenSpec.ofChange Rows.fnExactIntCmpSpec) :=
  OpenClaim.holds_of_wide 11 Try.f11 rfl rfl rfl rfl rfl rfl rfl ⟨rfl, rfl, rfl, rfl, rfl⟩ rfl rfl rfl rfl rfl (by kernel_rfl) Try.func11 (by kernel_rfl)
    (of_decide_eq_true (by kernel_rfl)) (by unfold Func.isWrapper; first | (rw [if_pos (by decide +kernel)]; kernel_rfl) | (rw [if_neg (by decide +kernel)]; exact ⟨rfl, rfl⟩))
    (fun os started H enc _ => lifted os started H enc)

theorem proved : Rows.FnExactIntCmpSaid := over
#print axioms proved
end Go.Proofs.Ytmkhpeddmifdkaa.fnExactIntCmp
