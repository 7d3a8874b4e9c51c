/- The law FnExactIntSub answers true at every input. No condition. (The walk is printed by gen_law.py off the law's text.) -/
import Derived.Test.YtmkhpeddmifdkaaRows
import Derived.Test.YtmkhpeddmifdkaaWIntOf
import Derived.Test.YtmkhpeddmifdkaaWIntFm
import Derived.Test.YtmkhpeddmifdkaaWIntCmi
import Derived.Test.YtmkhpeddmifdkaaWEqInt
import Derived.Test.YtmkhpeddmifdkaaWMark
import Derived.ProofKit
import Derived.OpenShut
import Derived.ShutString
import Derived.ChangeOld
import Derived.Lib.SmallJoins
import Derived.Deep.RegionWith
import Derived.Deep.DeepCutAuto
import Derived.Below
namespace Go.Proofs.Ytmkhpeddmifdkaa.fnExactIntSub
open Go.ChangeShapes Go.WideShapes Go.ChangeAt Go.RowKit
open Go.ChangeMaps (open_string shut_string)
set_option linter.unusedVariables false

set_option maxHeartbeats 4000000 in
theorem walk (n0 : Bool) (a0 : Option Addr) (c0 : Nat) (xs0 : List Int) (n1 : Bool) (a1 : Option Addr) (c1 : Nat) (xs1 : List Int) (w : World) (hp0 : Rd w a0 xs0 ∧ xs0.length ≤ maxLen) (hp1 : Rd w a1 xs1 ∧ xs1.length ≤ maxLen) :
    Calls Try.prog 13 #[.agg #[.bool n0, .slice a0 xs0.length c0], .agg #[.bool n1, .slice a1 xs1.length c1]] w fun e w' => e = .returned (.bool true) ∧ Below w.heap.size w w' := by
  have hb0 := Below.refl w.heap.size w
  have hm0 := hp0.2
  unfold maxLen at hm0
  have hm1 := hp1.2
  unfold maxLen at hm1
  by_cases hs0 : (xs0.length : Int) ≤ 1048576
  rotate_left
  · replace hb0 := hb0.trans ((bel_alloc w (.cells #[.bool n0, .slice a0 xs0.length c0] 24)).mono (by simp))
    replace hb0 := hb0.trans ((bel_alloc _ (.cells #[.bool n1, .slice a1 xs1.length c1] 24)).mono (by simp; try omega))
    have zbox : w.heap.size + 2 ≤ ((World.alloc (World.alloc w (.cells #[.bool n0, .slice a0 xs0.length c0] 24)) (.cells #[.bool n1, .slice a1 xs1.length c1] 24))).heap.size := by simp
    go_enter Try.func13, Try.ntmps13
    go_wp2_with fail
    refine (szSigned_no _ _ _ _ _ _ (by omega) (by omega) (by omega) hp0.2).mono ?_
    rintro e wz ⟨rfl, hbz⟩
    replace hb0 := hb0.trans (hbz.mono hb0.size)
    go_wp2
    go_ret
    exact ⟨rfl, hb0⟩
  by_cases hs1 : (xs1.length : Int) ≤ 1048576 - (xs0.length : Int)
  rotate_left
  · replace hb0 := hb0.trans ((bel_alloc w (.cells #[.bool n0, .slice a0 xs0.length c0] 24)).mono (by simp))
    replace hb0 := hb0.trans ((bel_alloc _ (.cells #[.bool n1, .slice a1 xs1.length c1] 24)).mono (by simp; try omega))
    have zbox : w.heap.size + 2 ≤ ((World.alloc (World.alloc w (.cells #[.bool n0, .slice a0 xs0.length c0] 24)) (.cells #[.bool n1, .slice a1 xs1.length c1] 24))).heap.size := by simp
    go_enter Try.func13, Try.ntmps13
    go_wp2_with fail
    refine (szSigned_yes _ _ _ _ _ _ (by omega) (by omega)).mono ?_
    rintro e wz0 ⟨rfl, hb⟩
    have zwz0 : (World.alloc (World.alloc w (.cells #[.bool n0, .slice a0 xs0.length c0] 24)) (.cells #[.bool n1, .slice a1 xs1.length c1] 24)).heap.size ≤ wz0.heap.size := hb.size
    have hx0_0 : wz0.cell? ⟨w.heap.size, 0, none⟩ = some (.bool n0) := cell_keep hb (cell_keep (bel_alloc _ (.cells #[.bool n1, .slice a1 xs1.length c1] 24)) (cell_box w _ _ _ 0 _ (by simp) rfl) (Nat.le_refl _)) (Nat.le_refl _)
    have hx0_1 : wz0.cell? ⟨w.heap.size, 1, none⟩ = some (.slice a0 xs0.length c0) := cell_keep hb (cell_keep (bel_alloc _ (.cells #[.bool n1, .slice a1 xs1.length c1] 24)) (cell_box w _ _ _ 1 _ (by simp) rfl) (Nat.le_refl _)) (Nat.le_refl _)
    have hx1_0 : wz0.cell? ⟨w.heap.size + 1, 0, none⟩ = some (.bool n1) := cell_keep hb (cell_box (World.alloc w (.cells #[.bool n0, .slice a0 xs0.length c0] 24)) _ _ _ 0 _ (by simp) rfl) (Nat.le_refl _)
    have hx1_1 : wz0.cell? ⟨w.heap.size + 1, 1, none⟩ = some (.slice a1 xs1.length c1) := cell_keep hb (cell_box (World.alloc w (.cells #[.bool n0, .slice a0 xs0.length c0] 24)) _ _ _ 1 _ (by simp) rfl) (Nat.le_refl _)
    replace hb0 := hb0.trans (hb.mono hb0.size)
    clear hb
    go_wp2_with fail
    refine (szSigned_no _ _ _ _ _ _ (by omega) (by omega) (by omega) hp1.2).mono ?_
    rintro e wz ⟨rfl, hbz⟩
    replace hb0 := hb0.trans (hbz.mono hb0.size)
    go_wp2
    go_ret
    exact ⟨rfl, hb0⟩
  replace hb0 := hb0.trans ((bel_alloc w (.cells #[.bool n0, .slice a0 xs0.length c0] 24)).mono (by simp))
  replace hb0 := hb0.trans ((bel_alloc _ (.cells #[.bool n1, .slice a1 xs1.length c1] 24)).mono (by simp; try omega))
  have zbox : w.heap.size + 2 ≤ ((World.alloc (World.alloc w (.cells #[.bool n0, .slice a0 xs0.length c0] 24)) (.cells #[.bool n1, .slice a1 xs1.length c1] 24))).heap.size := by simp
  go_enter Try.func13, Try.ntmps13
  go_wp2_with fail
  refine (szSigned_yes _ _ _ _ _ _ (by omega) (by omega)).mono ?_
  rintro e wz0 ⟨rfl, hb⟩
  have zwz0 : (World.alloc (World.alloc w (.cells #[.bool n0, .slice a0 xs0.length c0] 24)) (.cells #[.bool n1, .slice a1 xs1.length c1] 24)).heap.size ≤ wz0.heap.size := hb.size
  have hx0_0 : wz0.cell? ⟨w.heap.size, 0, none⟩ = some (.bool n0) := cell_keep hb (cell_keep (bel_alloc _ (.cells #[.bool n1, .slice a1 xs1.length c1] 24)) (cell_box w _ _ _ 0 _ (by simp) rfl) (Nat.le_refl _)) (Nat.le_refl _)
  have hx0_1 : wz0.cell? ⟨w.heap.size, 1, none⟩ = some (.slice a0 xs0.length c0) := cell_keep hb (cell_keep (bel_alloc _ (.cells #[.bool n1, .slice a1 xs1.length c1] 24)) (cell_box w _ _ _ 1 _ (by simp) rfl) (Nat.le_refl _)) (Nat.le_refl _)
  have hx1_0 : wz0.cell? ⟨w.heap.size + 1, 0, none⟩ = some (.bool n1) := cell_keep hb (cell_box (World.alloc w (.cells #[.bool n0, .slice a0 xs0.length c0] 24)) _ _ _ 0 _ (by simp) rfl) (Nat.le_refl _)
  have hx1_1 : wz0.cell? ⟨w.heap.size + 1, 1, none⟩ = some (.slice a1 xs1.length c1) := cell_keep hb (cell_box (World.alloc w (.cells #[.bool n0, .slice a0 xs0.length c0] 24)) _ _ _ 1 _ (by simp) rfl) (Nat.le_refl _)
  replace hb0 := hb0.trans (hb.mono hb0.size)
  clear hb
  go_wp2_with fail
  refine (szSigned_yes _ _ _ _ _ _ (by omega) (by omega)).mono ?_
  rintro e wz1 ⟨rfl, hb⟩
  have zwz1 : wz0.heap.size ≤ wz1.heap.size := hb.size
  replace hx0_0 := cell_keep hb hx0_0 (Nat.le_refl _)
  replace hx0_1 := cell_keep hb hx0_1 (Nat.le_refl _)
  replace hx1_0 := cell_keep hb hx1_0 (Nat.le_refl _)
  replace hx1_1 := cell_keep hb hx1_1 (Nat.le_refl _)
  replace hb0 := hb0.trans (hb.mono hb0.size)
  clear hb
  go_wp2_with fail
  refine (toSigned_any _ _ _ _ _ (hp0.1.below hb0 (Nat.le_refl _)) (by omega)).mono ?_
  rintro e w1 ⟨⟨ad1, cp2, rfl, ho3⟩, hb⟩
  have s4 := Slot.of ho3
  have lc5 := (ho3.inn (by omega)).2.1
  clear ho3
  have zw1 : wz1.heap.size ≤ w1.heap.size := hb.size
  replace hx0_0 := cell_keep hb hx0_0 (Nat.le_refl _)
  replace hx0_1 := cell_keep hb hx0_1 (Nat.le_refl _)
  replace hx1_0 := cell_keep hb hx1_0 (Nat.le_refl _)
  replace hx1_1 := cell_keep hb hx1_1 (Nat.le_refl _)
  replace hb0 := hb0.trans (hb.mono hb0.size)
  clear hb
  go_wp2_with fail
  refine (toSigned_any _ _ _ _ _ (hp1.1.below hb0 (Nat.le_refl _)) (by omega)).mono ?_
  rintro e w2 ⟨⟨ad6, cp7, rfl, ho8⟩, hb⟩
  have s9 := Slot.of ho8
  have lc10 := (ho8.inn (by omega)).2.1
  clear ho8
  have zw2 : w1.heap.size ≤ w2.heap.size := hb.size
  replace s4 := s4.below hb s4.1
  replace hx0_0 := cell_keep hb hx0_0 (Nat.le_refl _)
  replace hx0_1 := cell_keep hb hx0_1 (Nat.le_refl _)
  replace hx1_0 := cell_keep hb hx1_0 (Nat.le_refl _)
  replace hx1_1 := cell_keep hb hx1_1 (Nat.le_refl _)
  replace hb0 := hb0.trans (hb.mono hb0.size)
  clear hb
  go_wp2_with fail
  refine (spec_IntSub _ _ _ _ _ _ _ _ _ ⟨s4.rd, lc5, (by omega)⟩ ⟨s9.rd, lc10, (by omega)⟩).mono ?_
  rintro e w3 ⟨⟨ad11, cp12, rfl, ho13, hn14⟩, hb⟩
  have s15 := Slot.of ho13
  have lc16 := (ho13.inn (by omega)).2.1
  clear ho13
  have zw3 : w2.heap.size ≤ w3.heap.size := hb.size
  replace hx0_0 := cell_keep hb hx0_0 (Nat.le_refl _)
  replace hx0_1 := cell_keep hb hx0_1 (Nat.le_refl _)
  replace hx1_0 := cell_keep hb hx1_0 (Nat.le_refl _)
  replace hx1_1 := cell_keep hb hx1_1 (Nat.le_refl _)
  replace hb0 := hb0.trans (hb.mono hb0.size)
  clear hb
  have hb := bel_alloc w3 (.cells #[.bool (fISub n0 xs0 n1 xs1).1, .slice ad11 (fISub n0 xs0 n1 xs1).2.length cp12] 27)
  have zb17 : w3.heap.size + 1 ≤ (World.alloc w3 (.cells #[.bool (fISub n0 xs0 n1 xs1).1, .slice ad11 (fISub n0 xs0 n1 xs1).2.length cp12] 27)).heap.size := by simp
  replace s15 := s15.below hb s15.1
  replace hx0_0 := cell_keep hb hx0_0 (Nat.le_refl _)
  replace hx0_1 := cell_keep hb hx0_1 (Nat.le_refl _)
  replace hx1_0 := cell_keep hb hx1_0 (Nat.le_refl _)
  replace hx1_1 := cell_keep hb hx1_1 (Nat.le_refl _)
  have hv18 : (World.alloc w3 (.cells #[.bool (fISub n0 xs0 n1 xs1).1, .slice ad11 (fISub n0 xs0 n1 xs1).2.length cp12] 27)).cell? ⟨w3.heap.size, 0, none⟩ = some (.bool (fISub n0 xs0 n1 xs1).1) := cell_box w3 _ _ _ 0 _ (by simp) rfl
  have hv19 : (World.alloc w3 (.cells #[.bool (fISub n0 xs0 n1 xs1).1, .slice ad11 (fISub n0 xs0 n1 xs1).2.length cp12] 27)).cell? ⟨w3.heap.size, 1, none⟩ = some (.slice ad11 (fISub n0 xs0 n1 xs1).2.length cp12) := cell_box w3 _ _ _ 1 _ (by simp) rfl
  replace hb0 := hb0.trans (hb.mono hb0.size)
  clear hb
  go_wp2_with fail
  refine (toSigned_any _ _ _ _ _ (hp0.1.below hb0 (Nat.le_refl _)) (by omega)).mono ?_
  rintro e w4 ⟨⟨ad20, cp21, rfl, ho22⟩, hb⟩
  have s23 := Slot.of ho22
  have lc24 := (ho22.inn (by omega)).2.1
  clear ho22
  have zw4 : (World.alloc w3 (.cells #[.bool (fISub n0 xs0 n1 xs1).1, .slice ad11 (fISub n0 xs0 n1 xs1).2.length cp12] 27)).heap.size ≤ w4.heap.size := hb.size
  replace s15 := s15.below hb s15.1
  replace hx0_0 := cell_keep hb hx0_0 (Nat.le_refl _)
  replace hx0_1 := cell_keep hb hx0_1 (Nat.le_refl _)
  replace hx1_0 := cell_keep hb hx1_0 (Nat.le_refl _)
  replace hx1_1 := cell_keep hb hx1_1 (Nat.le_refl _)
  replace hv18 := cell_keep hb hv18 (Nat.le_refl _)
  replace hv19 := cell_keep hb hv19 (Nat.le_refl _)
  replace hb0 := hb0.trans (hb.mono hb0.size)
  clear hb
  have hb := bel_alloc w4 (.cells #[.bool n0, .slice ad20 xs0.length cp21] 27)
  have zb25 : w4.heap.size + 1 ≤ (World.alloc w4 (.cells #[.bool n0, .slice ad20 xs0.length cp21] 27)).heap.size := by simp
  replace s15 := s15.below hb s15.1
  replace s23 := s23.below hb s23.1
  replace hx0_0 := cell_keep hb hx0_0 (Nat.le_refl _)
  replace hx0_1 := cell_keep hb hx0_1 (Nat.le_refl _)
  replace hx1_0 := cell_keep hb hx1_0 (Nat.le_refl _)
  replace hx1_1 := cell_keep hb hx1_1 (Nat.le_refl _)
  replace hv18 := cell_keep hb hv18 (Nat.le_refl _)
  replace hv19 := cell_keep hb hv19 (Nat.le_refl _)
  have hv26 : (World.alloc w4 (.cells #[.bool n0, .slice ad20 xs0.length cp21] 27)).cell? ⟨w4.heap.size, 0, none⟩ = some (.bool n0) := cell_box w4 _ _ _ 0 _ (by simp) rfl
  have hv27 : (World.alloc w4 (.cells #[.bool n0, .slice ad20 xs0.length cp21] 27)).cell? ⟨w4.heap.size, 1, none⟩ = some (.slice ad20 xs0.length cp21) := cell_box w4 _ _ _ 1 _ (by simp) rfl
  replace hb0 := hb0.trans (hb.mono hb0.size)
  clear hb
  go_wp2_with fail
  refine (toSigned_any _ _ _ _ _ (hp1.1.below hb0 (Nat.le_refl _)) (by omega)).mono ?_
  rintro e w5 ⟨⟨ad28, cp29, rfl, ho30⟩, hb⟩
  have s31 := Slot.of ho30
  have lc32 := (ho30.inn (by omega)).2.1
  clear ho30
  have zw5 : (World.alloc w4 (.cells #[.bool n0, .slice ad20 xs0.length cp21] 27)).heap.size ≤ w5.heap.size := hb.size
  replace s15 := s15.below hb s15.1
  replace s23 := s23.below hb s23.1
  replace hx0_0 := cell_keep hb hx0_0 (Nat.le_refl _)
  replace hx0_1 := cell_keep hb hx0_1 (Nat.le_refl _)
  replace hx1_0 := cell_keep hb hx1_0 (Nat.le_refl _)
  replace hx1_1 := cell_keep hb hx1_1 (Nat.le_refl _)
  replace hv18 := cell_keep hb hv18 (Nat.le_refl _)
  replace hv19 := cell_keep hb hv19 (Nat.le_refl _)
  replace hv26 := cell_keep hb hv26 (Nat.le_refl _)
  replace hv27 := cell_keep hb hv27 (Nat.le_refl _)
  replace hb0 := hb0.trans (hb.mono hb0.size)
  clear hb
  have hb := bel_alloc w5 (.cells #[.bool n1, .slice ad28 xs1.length cp29] 27)
  have zb33 : w5.heap.size + 1 ≤ (World.alloc w5 (.cells #[.bool n1, .slice ad28 xs1.length cp29] 27)).heap.size := by simp
  replace s15 := s15.below hb s15.1
  replace s23 := s23.below hb s23.1
  replace s31 := s31.below hb s31.1
  replace hx0_0 := cell_keep hb hx0_0 (Nat.le_refl _)
  replace hx0_1 := cell_keep hb hx0_1 (Nat.le_refl _)
  replace hx1_0 := cell_keep hb hx1_0 (Nat.le_refl _)
  replace hx1_1 := cell_keep hb hx1_1 (Nat.le_refl _)
  replace hv18 := cell_keep hb hv18 (Nat.le_refl _)
  replace hv19 := cell_keep hb hv19 (Nat.le_refl _)
  replace hv26 := cell_keep hb hv26 (Nat.le_refl _)
  replace hv27 := cell_keep hb hv27 (Nat.le_refl _)
  have hv34 : (World.alloc w5 (.cells #[.bool n1, .slice ad28 xs1.length cp29] 27)).cell? ⟨w5.heap.size, 0, none⟩ = some (.bool n1) := cell_box w5 _ _ _ 0 _ (by simp) rfl
  have hv35 : (World.alloc w5 (.cells #[.bool n1, .slice ad28 xs1.length cp29] 27)).cell? ⟨w5.heap.size, 1, none⟩ = some (.slice ad28 xs1.length cp29) := cell_box w5 _ _ _ 1 _ (by simp) rfl
  replace hb0 := hb0.trans (hb.mono hb0.size)
  clear hb
  go_wp2_with fail
  refine (impl_IntSub _ _ _ _ _ _ _ _ _ ⟨s23.rd, lc24, (by omega)⟩ ⟨s31.rd, lc32, (by omega)⟩).mono ?_
  rintro e w6 ⟨⟨ad36, cp37, rfl, ho38, hn39⟩, hb⟩
  have s40 := Slot.of ho38
  have lc41 := (ho38.inn (by omega)).2.1
  clear ho38
  have zw6 : (World.alloc w5 (.cells #[.bool n1, .slice ad28 xs1.length cp29] 27)).heap.size ≤ w6.heap.size := hb.size
  replace s15 := s15.below hb s15.1
  replace s23 := s23.below hb s23.1
  replace s31 := s31.below hb s31.1
  replace hx0_0 := cell_keep hb hx0_0 (Nat.le_refl _)
  replace hx0_1 := cell_keep hb hx0_1 (Nat.le_refl _)
  replace hx1_0 := cell_keep hb hx1_0 (Nat.le_refl _)
  replace hx1_1 := cell_keep hb hx1_1 (Nat.le_refl _)
  replace hv18 := cell_keep hb hv18 (Nat.le_refl _)
  replace hv19 := cell_keep hb hv19 (Nat.le_refl _)
  replace hv26 := cell_keep hb hv26 (Nat.le_refl _)
  replace hv27 := cell_keep hb hv27 (Nat.le_refl _)
  replace hv34 := cell_keep hb hv34 (Nat.le_refl _)
  replace hv35 := cell_keep hb hv35 (Nat.le_refl _)
  replace hb0 := hb0.trans (hb.mono hb0.size)
  clear hb
  have hb := bel_alloc w6 (.cells #[.bool (fISub n0 xs0 n1 xs1).1, .slice ad36 (fISub n0 xs0 n1 xs1).2.length cp37] 27)
  have zb42 : w6.heap.size + 1 ≤ (World.alloc w6 (.cells #[.bool (fISub n0 xs0 n1 xs1).1, .slice ad36 (fISub n0 xs0 n1 xs1).2.length cp37] 27)).heap.size := by simp
  replace s15 := s15.below hb s15.1
  replace s23 := s23.below hb s23.1
  replace s31 := s31.below hb s31.1
  replace s40 := s40.below hb s40.1
  replace hx0_0 := cell_keep hb hx0_0 (Nat.le_refl _)
  replace hx0_1 := cell_keep hb hx0_1 (Nat.le_refl _)
  replace hx1_0 := cell_keep hb hx1_0 (Nat.le_refl _)
  replace hx1_1 := cell_keep hb hx1_1 (Nat.le_refl _)
  replace hv18 := cell_keep hb hv18 (Nat.le_refl _)
  replace hv19 := cell_keep hb hv19 (Nat.le_refl _)
  replace hv26 := cell_keep hb hv26 (Nat.le_refl _)
  replace hv27 := cell_keep hb hv27 (Nat.le_refl _)
  replace hv34 := cell_keep hb hv34 (Nat.le_refl _)
  replace hv35 := cell_keep hb hv35 (Nat.le_refl _)
  have hv43 : (World.alloc w6 (.cells #[.bool (fISub n0 xs0 n1 xs1).1, .slice ad36 (fISub n0 xs0 n1 xs1).2.length cp37] 27)).cell? ⟨w6.heap.size, 0, none⟩ = some (.bool (fISub n0 xs0 n1 xs1).1) := cell_box w6 _ _ _ 0 _ (by simp) rfl
  have hv44 : (World.alloc w6 (.cells #[.bool (fISub n0 xs0 n1 xs1).1, .slice ad36 (fISub n0 xs0 n1 xs1).2.length cp37] 27)).cell? ⟨w6.heap.size, 1, none⟩ = some (.slice ad36 (fISub n0 xs0 n1 xs1).2.length cp37) := cell_box w6 _ _ _ 1 _ (by simp) rfl
  replace hb0 := hb0.trans (hb.mono hb0.size)
  clear hb
  go_wp2_with fail
  refine (eqSigned_same _ _ _ _ _ _ _ s40.rd s15.rd (by omega)).mono ?_
  rintro e w7 ⟨rfl, hb⟩
  have zw7 : (World.alloc w6 (.cells #[.bool (fISub n0 xs0 n1 xs1).1, .slice ad36 (fISub n0 xs0 n1 xs1).2.length cp37] 27)).heap.size ≤ w7.heap.size := hb.size
  replace s15 := s15.below hb s15.1
  replace s23 := s23.below hb s23.1
  replace s31 := s31.below hb s31.1
  replace s40 := s40.below hb s40.1
  replace hx0_0 := cell_keep hb hx0_0 (Nat.le_refl _)
  replace hx0_1 := cell_keep hb hx0_1 (Nat.le_refl _)
  replace hx1_0 := cell_keep hb hx1_0 (Nat.le_refl _)
  replace hx1_1 := cell_keep hb hx1_1 (Nat.le_refl _)
  replace hv18 := cell_keep hb hv18 (Nat.le_refl _)
  replace hv19 := cell_keep hb hv19 (Nat.le_refl _)
  replace hv26 := cell_keep hb hv26 (Nat.le_refl _)
  replace hv27 := cell_keep hb hv27 (Nat.le_refl _)
  replace hv34 := cell_keep hb hv34 (Nat.le_refl _)
  replace hv35 := cell_keep hb hv35 (Nat.le_refl _)
  replace hv43 := cell_keep hb hv43 (Nat.le_refl _)
  replace hv44 := cell_keep hb hv44 (Nat.le_refl _)
  replace hb0 := hb0.trans (hb.mono hb0.size)
  clear hb
  go_upto_region 8 with fail
  go_cut [None] (fun t wx => t = .bool false ∧ Below w7.heap.size w7 wx)
  case first =>
    go_region_with (first | (go_at_call 17; refine (toSigned_any _ _ _ _ (World.drew w7) (hp0.1.below hb0.drew (Nat.le_refl _)) ?_).mono ?_; omega; rintro e wA ⟨⟨adA, cpA, rfl, hoA⟩, hbA⟩; replace hbA := (Below.refl (w7).heap.size w7).drew.trans hbA; have qhx0_0 := cell_keep hbA hx0_0 (Nat.le_refl _); have qhx0_1 := cell_keep hbA hx0_1 (Nat.le_refl _); have qhx1_0 := cell_keep hbA hx1_0 (Nat.le_refl _); have qhx1_1 := cell_keep hbA hx1_1 (Nat.le_refl _); have qhv18 := cell_keep hbA hv18 (Nat.le_refl _); have qhv19 := cell_keep hbA hv19 (Nat.le_refl _); have qhv26 := cell_keep hbA hv26 (Nat.le_refl _); have qhv27 := cell_keep hbA hv27 (Nat.le_refl _); have qhv34 := cell_keep hbA hv34 (Nat.le_refl _); have qhv35 := cell_keep hbA hv35 (Nat.le_refl _); have qhv43 := cell_keep hbA hv43 (Nat.le_refl _); have qhv44 := cell_keep hbA hv44 (Nat.le_refl _)) | (go_at_call 19; refine (eqSigned_same _ _ _ _ _ _ _ (s23.below hbA s23.1).rd hoA.rd ?_).mono ?_; omega; rintro e wB ⟨rfl, hbB⟩))
    all_goals (go_wp2_with fail; go_meet; exact ⟨rfl, hbA.trans (hbB.mono hbA.size)⟩)
  case rest =>
  obtain ⟨rfl, hb⟩ := hcut
  obtain ⟨w8, hW⟩ : ∃ x : World, x = wc := ⟨_, rfl⟩
  rw [← hW] at hb ⊢
  clear hW
  have zw8 : w7.heap.size ≤ w8.heap.size := hb.size
  replace s15 := s15.below hb s15.1
  replace s23 := s23.below hb s23.1
  replace s31 := s31.below hb s31.1
  replace s40 := s40.below hb s40.1
  replace hx0_0 := cell_keep hb hx0_0 (Nat.le_refl _)
  replace hx0_1 := cell_keep hb hx0_1 (Nat.le_refl _)
  replace hx1_0 := cell_keep hb hx1_0 (Nat.le_refl _)
  replace hx1_1 := cell_keep hb hx1_1 (Nat.le_refl _)
  replace hv18 := cell_keep hb hv18 (Nat.le_refl _)
  replace hv19 := cell_keep hb hv19 (Nat.le_refl _)
  replace hv26 := cell_keep hb hv26 (Nat.le_refl _)
  replace hv27 := cell_keep hb hv27 (Nat.le_refl _)
  replace hv34 := cell_keep hb hv34 (Nat.le_refl _)
  replace hv35 := cell_keep hb hv35 (Nat.le_refl _)
  replace hv43 := cell_keep hb hv43 (Nat.le_refl _)
  replace hv44 := cell_keep hb hv44 (Nat.le_refl _)
  replace hb0 := hb0.trans (hb.mono hb0.size)
  clear hb
  go_upto_region 14 with fail
  go_cut [44] (fun t wx => t = .bool false ∧ Below w8.heap.size w8 wx)
  case first =>
    go_region_with (first | (go_at_call 17; refine (toSigned_any _ _ _ _ (World.drew w8) (hp1.1.below hb0.drew (Nat.le_refl _)) ?_).mono ?_; omega; rintro e wA ⟨⟨adA, cpA, rfl, hoA⟩, hbA⟩; replace hbA := (Below.refl (w8).heap.size w8).drew.trans hbA; have qhx0_0 := cell_keep hbA hx0_0 (Nat.le_refl _); have qhx0_1 := cell_keep hbA hx0_1 (Nat.le_refl _); have qhx1_0 := cell_keep hbA hx1_0 (Nat.le_refl _); have qhx1_1 := cell_keep hbA hx1_1 (Nat.le_refl _); have qhv18 := cell_keep hbA hv18 (Nat.le_refl _); have qhv19 := cell_keep hbA hv19 (Nat.le_refl _); have qhv26 := cell_keep hbA hv26 (Nat.le_refl _); have qhv27 := cell_keep hbA hv27 (Nat.le_refl _); have qhv34 := cell_keep hbA hv34 (Nat.le_refl _); have qhv35 := cell_keep hbA hv35 (Nat.le_refl _); have qhv43 := cell_keep hbA hv43 (Nat.le_refl _); have qhv44 := cell_keep hbA hv44 (Nat.le_refl _)) | (go_at_call 19; refine (eqSigned_same _ _ _ _ _ _ _ (s31.below hbA s31.1).rd hoA.rd ?_).mono ?_; omega; rintro e wB ⟨rfl, hbB⟩))
    all_goals (go_wp2_with fail; go_meet; exact ⟨rfl, hbA.trans (hbB.mono hbA.size)⟩)
  case rest =>
  obtain ⟨rfl, hb⟩ := hcut
  obtain ⟨w9, hW⟩ : ∃ x : World, x = wc := ⟨_, rfl⟩
  rw [← hW] at hb ⊢
  clear hW
  have zw9 : w8.heap.size ≤ w9.heap.size := hb.size
  replace s15 := s15.below hb s15.1
  replace s23 := s23.below hb s23.1
  replace s31 := s31.below hb s31.1
  replace s40 := s40.below hb s40.1
  replace hx0_0 := cell_keep hb hx0_0 (Nat.le_refl _)
  replace hx0_1 := cell_keep hb hx0_1 (Nat.le_refl _)
  replace hx1_0 := cell_keep hb hx1_0 (Nat.le_refl _)
  replace hx1_1 := cell_keep hb hx1_1 (Nat.le_refl _)
  replace hv18 := cell_keep hb hv18 (Nat.le_refl _)
  replace hv19 := cell_keep hb hv19 (Nat.le_refl _)
  replace hv26 := cell_keep hb hv26 (Nat.le_refl _)
  replace hv27 := cell_keep hb hv27 (Nat.le_refl _)
  replace hv34 := cell_keep hb hv34 (Nat.le_refl _)
  replace hv35 := cell_keep hb hv35 (Nat.le_refl _)
  replace hv43 := cell_keep hb hv43 (Nat.le_refl _)
  replace hv44 := cell_keep hb hv44 (Nat.le_refl _)
  replace hb0 := hb0.trans (hb.mono hb0.size)
  clear hb
  go_wp2_with fail
  refine (markSigned_any _ _ _ _ _ _ _ _ s23 (by omega) (by omega)).mono ?_
  rintro e w10 ⟨rfl, s45, hw⟩
  replace s15 := s15.wr hw (by omega)
  replace s31 := s31.wr hw (by omega)
  replace s40 := s40.wr hw (by omega)
  clear s23
  replace hb0 := below_wr hb0 hw (by omega) hb0.size
  have zw10 : w9.heap.size ≤ w10.heap.size := hw.size
  replace hx0_0 := cell_keep_wr hw hx0_0 (by omega)
  replace hx0_1 := cell_keep_wr hw hx0_1 (by omega)
  replace hx1_0 := cell_keep_wr hw hx1_0 (by omega)
  replace hx1_1 := cell_keep_wr hw hx1_1 (by omega)
  replace hv18 := cell_keep_wr hw hv18 (by omega)
  replace hv19 := cell_keep_wr hw hv19 (by omega)
  replace hv26 := cell_keep_wr hw hv26 (by omega)
  replace hv27 := cell_keep_wr hw hv27 (by omega)
  replace hv34 := cell_keep_wr hw hv34 (by omega)
  replace hv35 := cell_keep_wr hw hv35 (by omega)
  replace hv43 := cell_keep_wr hw hv43 (by omega)
  replace hv44 := cell_keep_wr hw hv44 (by omega)
  clear hw
  go_wp2_with fail
  refine (markSigned_any _ _ _ _ _ _ _ _ s31 (by omega) (by omega)).mono ?_
  rintro e w11 ⟨rfl, s46, hw⟩
  replace s15 := s15.wr hw (by omega)
  replace s45 := s45.wr hw (by omega)
  replace s40 := s40.wr hw (by omega)
  clear s31
  replace hb0 := below_wr hb0 hw (by omega) hb0.size
  have zw11 : w10.heap.size ≤ w11.heap.size := hw.size
  replace hx0_0 := cell_keep_wr hw hx0_0 (by omega)
  replace hx0_1 := cell_keep_wr hw hx0_1 (by omega)
  replace hx1_0 := cell_keep_wr hw hx1_0 (by omega)
  replace hx1_1 := cell_keep_wr hw hx1_1 (by omega)
  replace hv18 := cell_keep_wr hw hv18 (by omega)
  replace hv19 := cell_keep_wr hw hv19 (by omega)
  replace hv26 := cell_keep_wr hw hv26 (by omega)
  replace hv27 := cell_keep_wr hw hv27 (by omega)
  replace hv34 := cell_keep_wr hw hv34 (by omega)
  replace hv35 := cell_keep_wr hw hv35 (by omega)
  replace hv43 := cell_keep_wr hw hv43 (by omega)
  replace hv44 := cell_keep_wr hw hv44 (by omega)
  clear hw
  go_wp2_with fail
  refine (eqSigned_same _ _ _ _ _ _ _ s40.rd s15.rd (by omega)).mono ?_
  rintro e w12 ⟨rfl, hb⟩
  have zw12 : w11.heap.size ≤ w12.heap.size := hb.size
  replace s15 := s15.below hb s15.1
  replace s45 := s45.below hb s45.1
  replace s46 := s46.below hb s46.1
  replace s40 := s40.below hb s40.1
  replace hx0_0 := cell_keep hb hx0_0 (Nat.le_refl _)
  replace hx0_1 := cell_keep hb hx0_1 (Nat.le_refl _)
  replace hx1_0 := cell_keep hb hx1_0 (Nat.le_refl _)
  replace hx1_1 := cell_keep hb hx1_1 (Nat.le_refl _)
  replace hv18 := cell_keep hb hv18 (Nat.le_refl _)
  replace hv19 := cell_keep hb hv19 (Nat.le_refl _)
  replace hv26 := cell_keep hb hv26 (Nat.le_refl _)
  replace hv27 := cell_keep hb hv27 (Nat.le_refl _)
  replace hv34 := cell_keep hb hv34 (Nat.le_refl _)
  replace hv35 := cell_keep hb hv35 (Nat.le_refl _)
  replace hv43 := cell_keep hb hv43 (Nat.le_refl _)
  replace hv44 := cell_keep hb hv44 (Nat.le_refl _)
  replace hb0 := hb0.trans (hb.mono hb0.size)
  clear hb
  go_wp2_with fail
  refine (markSigned_any _ _ _ _ _ _ _ _ s40 (by omega) (by omega)).mono ?_
  rintro e w13 ⟨rfl, s47, hw⟩
  replace s15 := s15.wr hw (by omega)
  replace s45 := s45.wr hw (by omega)
  replace s46 := s46.wr hw (by omega)
  clear s40
  replace hb0 := below_wr hb0 hw (by omega) hb0.size
  have zw13 : w12.heap.size ≤ w13.heap.size := hw.size
  replace hx0_0 := cell_keep_wr hw hx0_0 (by omega)
  replace hx0_1 := cell_keep_wr hw hx0_1 (by omega)
  replace hx1_0 := cell_keep_wr hw hx1_0 (by omega)
  replace hx1_1 := cell_keep_wr hw hx1_1 (by omega)
  replace hv18 := cell_keep_wr hw hv18 (by omega)
  replace hv19 := cell_keep_wr hw hv19 (by omega)
  replace hv26 := cell_keep_wr hw hv26 (by omega)
  replace hv27 := cell_keep_wr hw hv27 (by omega)
  replace hv34 := cell_keep_wr hw hv34 (by omega)
  replace hv35 := cell_keep_wr hw hv35 (by omega)
  replace hv43 := cell_keep_wr hw hv43 (by omega)
  replace hv44 := cell_keep_wr hw hv44 (by omega)
  clear hw
  go_wp2_with fail
  refine (heldSigned_any _ _ _ _ _ _ s47.rd (by omega) (by omega)).mono ?_
  rintro e w14 ⟨rfl, hb⟩
  have zw14 : w13.heap.size ≤ w14.heap.size := hb.size
  replace s15 := s15.below hb s15.1
  replace s45 := s45.below hb s45.1
  replace s46 := s46.below hb s46.1
  replace s47 := s47.below hb s47.1
  replace hx0_0 := cell_keep hb hx0_0 (Nat.le_refl _)
  replace hx0_1 := cell_keep hb hx0_1 (Nat.le_refl _)
  replace hx1_0 := cell_keep hb hx1_0 (Nat.le_refl _)
  replace hx1_1 := cell_keep hb hx1_1 (Nat.le_refl _)
  replace hv18 := cell_keep hb hv18 (Nat.le_refl _)
  replace hv19 := cell_keep hb hv19 (Nat.le_refl _)
  replace hv26 := cell_keep hb hv26 (Nat.le_refl _)
  replace hv27 := cell_keep hb hv27 (Nat.le_refl _)
  replace hv34 := cell_keep hb hv34 (Nat.le_refl _)
  replace hv35 := cell_keep hb hv35 (Nat.le_refl _)
  replace hv43 := cell_keep hb hv43 (Nat.le_refl _)
  replace hv44 := cell_keep hb hv44 (Nat.le_refl _)
  replace hb0 := hb0.trans (hb.mono hb0.size)
  clear hb
  go_wp2_with fail
  refine (toSigned_any _ _ _ _ _ (hp0.1.below hb0 (Nat.le_refl _)) (by omega)).mono ?_
  rintro e w15 ⟨⟨ad48, cp49, rfl, ho50⟩, hb⟩
  have s51 := Slot.of ho50
  have lc52 := (ho50.inn (by omega)).2.1
  clear ho50
  have zw15 : w14.heap.size ≤ w15.heap.size := hb.size
  replace s15 := s15.below hb s15.1
  replace s45 := s45.below hb s45.1
  replace s46 := s46.below hb s46.1
  replace s47 := s47.below hb s47.1
  replace hx0_0 := cell_keep hb hx0_0 (Nat.le_refl _)
  replace hx0_1 := cell_keep hb hx0_1 (Nat.le_refl _)
  replace hx1_0 := cell_keep hb hx1_0 (Nat.le_refl _)
  replace hx1_1 := cell_keep hb hx1_1 (Nat.le_refl _)
  replace hv18 := cell_keep hb hv18 (Nat.le_refl _)
  replace hv19 := cell_keep hb hv19 (Nat.le_refl _)
  replace hv26 := cell_keep hb hv26 (Nat.le_refl _)
  replace hv27 := cell_keep hb hv27 (Nat.le_refl _)
  replace hv34 := cell_keep hb hv34 (Nat.le_refl _)
  replace hv35 := cell_keep hb hv35 (Nat.le_refl _)
  replace hv43 := cell_keep hb hv43 (Nat.le_refl _)
  replace hv44 := cell_keep hb hv44 (Nat.le_refl _)
  replace hb0 := hb0.trans (hb.mono hb0.size)
  clear hb
  go_wp2_with fail
  refine (toSigned_any _ _ _ _ _ (hp1.1.below hb0 (Nat.le_refl _)) (by omega)).mono ?_
  rintro e w16 ⟨⟨ad53, cp54, rfl, ho55⟩, hb⟩
  have s56 := Slot.of ho55
  have lc57 := (ho55.inn (by omega)).2.1
  clear ho55
  have zw16 : w15.heap.size ≤ w16.heap.size := hb.size
  replace s15 := s15.below hb s15.1
  replace s45 := s45.below hb s45.1
  replace s46 := s46.below hb s46.1
  replace s47 := s47.below hb s47.1
  replace s51 := s51.below hb s51.1
  replace hx0_0 := cell_keep hb hx0_0 (Nat.le_refl _)
  replace hx0_1 := cell_keep hb hx0_1 (Nat.le_refl _)
  replace hx1_0 := cell_keep hb hx1_0 (Nat.le_refl _)
  replace hx1_1 := cell_keep hb hx1_1 (Nat.le_refl _)
  replace hv18 := cell_keep hb hv18 (Nat.le_refl _)
  replace hv19 := cell_keep hb hv19 (Nat.le_refl _)
  replace hv26 := cell_keep hb hv26 (Nat.le_refl _)
  replace hv27 := cell_keep hb hv27 (Nat.le_refl _)
  replace hv34 := cell_keep hb hv34 (Nat.le_refl _)
  replace hv35 := cell_keep hb hv35 (Nat.le_refl _)
  replace hv43 := cell_keep hb hv43 (Nat.le_refl _)
  replace hv44 := cell_keep hb hv44 (Nat.le_refl _)
  replace hb0 := hb0.trans (hb.mono hb0.size)
  clear hb
  go_wp2_with fail
  refine (impl_IntSub _ _ _ _ _ _ _ _ _ ⟨s51.rd, lc52, (by omega)⟩ ⟨s56.rd, lc57, (by omega)⟩).mono ?_
  rintro e w17 ⟨⟨ad58, cp59, rfl, ho60, hn61⟩, hb⟩
  have s62 := Slot.of ho60
  have lc63 := (ho60.inn (by omega)).2.1
  clear ho60
  have zw17 : w16.heap.size ≤ w17.heap.size := hb.size
  replace s15 := s15.below hb s15.1
  replace s45 := s45.below hb s45.1
  replace s46 := s46.below hb s46.1
  replace s47 := s47.below hb s47.1
  replace hx0_0 := cell_keep hb hx0_0 (Nat.le_refl _)
  replace hx0_1 := cell_keep hb hx0_1 (Nat.le_refl _)
  replace hx1_0 := cell_keep hb hx1_0 (Nat.le_refl _)
  replace hx1_1 := cell_keep hb hx1_1 (Nat.le_refl _)
  replace hv18 := cell_keep hb hv18 (Nat.le_refl _)
  replace hv19 := cell_keep hb hv19 (Nat.le_refl _)
  replace hv26 := cell_keep hb hv26 (Nat.le_refl _)
  replace hv27 := cell_keep hb hv27 (Nat.le_refl _)
  replace hv34 := cell_keep hb hv34 (Nat.le_refl _)
  replace hv35 := cell_keep hb hv35 (Nat.le_refl _)
  replace hv43 := cell_keep hb hv43 (Nat.le_refl _)
  replace hv44 := cell_keep hb hv44 (Nat.le_refl _)
  replace hb0 := hb0.trans (hb.mono hb0.size)
  clear hb
  have hb := bel_alloc w17 (.cells #[.bool (fISub n0 xs0 n1 xs1).1, .slice ad58 (fISub n0 xs0 n1 xs1).2.length cp59] 27)
  have zb64 : w17.heap.size + 1 ≤ (World.alloc w17 (.cells #[.bool (fISub n0 xs0 n1 xs1).1, .slice ad58 (fISub n0 xs0 n1 xs1).2.length cp59] 27)).heap.size := by simp
  replace s15 := s15.below hb s15.1
  replace s45 := s45.below hb s45.1
  replace s46 := s46.below hb s46.1
  replace s47 := s47.below hb s47.1
  replace s62 := s62.below hb s62.1
  replace hx0_0 := cell_keep hb hx0_0 (Nat.le_refl _)
  replace hx0_1 := cell_keep hb hx0_1 (Nat.le_refl _)
  replace hx1_0 := cell_keep hb hx1_0 (Nat.le_refl _)
  replace hx1_1 := cell_keep hb hx1_1 (Nat.le_refl _)
  replace hv18 := cell_keep hb hv18 (Nat.le_refl _)
  replace hv19 := cell_keep hb hv19 (Nat.le_refl _)
  replace hv26 := cell_keep hb hv26 (Nat.le_refl _)
  replace hv27 := cell_keep hb hv27 (Nat.le_refl _)
  replace hv34 := cell_keep hb hv34 (Nat.le_refl _)
  replace hv35 := cell_keep hb hv35 (Nat.le_refl _)
  replace hv43 := cell_keep hb hv43 (Nat.le_refl _)
  replace hv44 := cell_keep hb hv44 (Nat.le_refl _)
  have hv65 : (World.alloc w17 (.cells #[.bool (fISub n0 xs0 n1 xs1).1, .slice ad58 (fISub n0 xs0 n1 xs1).2.length cp59] 27)).cell? ⟨w17.heap.size, 0, none⟩ = some (.bool (fISub n0 xs0 n1 xs1).1) := cell_box w17 _ _ _ 0 _ (by simp) rfl
  have hv66 : (World.alloc w17 (.cells #[.bool (fISub n0 xs0 n1 xs1).1, .slice ad58 (fISub n0 xs0 n1 xs1).2.length cp59] 27)).cell? ⟨w17.heap.size, 1, none⟩ = some (.slice ad58 (fISub n0 xs0 n1 xs1).2.length cp59) := cell_box w17 _ _ _ 1 _ (by simp) rfl
  replace hb0 := hb0.trans (hb.mono hb0.size)
  clear hb
  go_wp2_with fail
  refine (eqSigned_same _ _ _ _ _ _ _ s62.rd s15.rd (by omega)).mono ?_
  rintro e w18 ⟨rfl, hb⟩
  have zw18 : (World.alloc w17 (.cells #[.bool (fISub n0 xs0 n1 xs1).1, .slice ad58 (fISub n0 xs0 n1 xs1).2.length cp59] 27)).heap.size ≤ w18.heap.size := hb.size
  replace s15 := s15.below hb s15.1
  replace s45 := s45.below hb s45.1
  replace s46 := s46.below hb s46.1
  replace s47 := s47.below hb s47.1
  replace s62 := s62.below hb s62.1
  replace hx0_0 := cell_keep hb hx0_0 (Nat.le_refl _)
  replace hx0_1 := cell_keep hb hx0_1 (Nat.le_refl _)
  replace hx1_0 := cell_keep hb hx1_0 (Nat.le_refl _)
  replace hx1_1 := cell_keep hb hx1_1 (Nat.le_refl _)
  replace hv18 := cell_keep hb hv18 (Nat.le_refl _)
  replace hv19 := cell_keep hb hv19 (Nat.le_refl _)
  replace hv26 := cell_keep hb hv26 (Nat.le_refl _)
  replace hv27 := cell_keep hb hv27 (Nat.le_refl _)
  replace hv34 := cell_keep hb hv34 (Nat.le_refl _)
  replace hv35 := cell_keep hb hv35 (Nat.le_refl _)
  replace hv43 := cell_keep hb hv43 (Nat.le_refl _)
  replace hv44 := cell_keep hb hv44 (Nat.le_refl _)
  replace hv65 := cell_keep hb hv65 (Nat.le_refl _)
  replace hv66 := cell_keep hb hv66 (Nat.le_refl _)
  replace hb0 := hb0.trans (hb.mono hb0.size)
  clear hb
  go_wp2_with fail
  refine (heldSigned_any _ _ _ _ _ _ s47.rd (by omega) (by omega)).mono ?_
  rintro e w19 ⟨rfl, hb⟩
  have zw19 : w18.heap.size ≤ w19.heap.size := hb.size
  replace s15 := s15.below hb s15.1
  replace s45 := s45.below hb s45.1
  replace s46 := s46.below hb s46.1
  replace s47 := s47.below hb s47.1
  replace s62 := s62.below hb s62.1
  replace hx0_0 := cell_keep hb hx0_0 (Nat.le_refl _)
  replace hx0_1 := cell_keep hb hx0_1 (Nat.le_refl _)
  replace hx1_0 := cell_keep hb hx1_0 (Nat.le_refl _)
  replace hx1_1 := cell_keep hb hx1_1 (Nat.le_refl _)
  replace hv18 := cell_keep hb hv18 (Nat.le_refl _)
  replace hv19 := cell_keep hb hv19 (Nat.le_refl _)
  replace hv26 := cell_keep hb hv26 (Nat.le_refl _)
  replace hv27 := cell_keep hb hv27 (Nat.le_refl _)
  replace hv34 := cell_keep hb hv34 (Nat.le_refl _)
  replace hv35 := cell_keep hb hv35 (Nat.le_refl _)
  replace hv43 := cell_keep hb hv43 (Nat.le_refl _)
  replace hv44 := cell_keep hb hv44 (Nat.le_refl _)
  replace hv65 := cell_keep hb hv65 (Nat.le_refl _)
  replace hv66 := cell_keep hb hv66 (Nat.le_refl _)
  replace hb0 := hb0.trans (hb.mono hb0.size)
  clear hb
  go_wp2
  go_ret
  exact ⟨rfl, hb0⟩

theorem own : ownKnob Try.prog.godebug = none := by kernel_rfl
theorem laidOut : laidOutB Try.prog = true := by kernel_rfl
set_option maxRecDepth 100000 in
theorem lifted (os : Os) (started : os.Started) (H : Type) (enc : TypeId × Value → H) :
    ReturnsInHanded {} Try.checked os 13 .any (Rows.fnExactIntSubSpec.pre6 enc Try.prog Try.f13 Rows.fnExactIntSubRow.domain false) (Rows.fnExactIntSubSpec.post enc Try.prog Try.f13 false true false false) := by
  refine returnsInHanded_of_change (C := Try.checked) own started (by kernel_rfl) Try.func13
    (ChangeSpec.witness6 (enc := enc) (C := Try.checked) false ⟨#[], #[.agg #[.bool false, .slice none 0 0], .agg #[.bool false, .slice none 0 0]], []⟩ 8 (by kernel_rfl) (by kernel_rfl) (by kernel_rfl) (by kernel_rfl)) ?_
  intro W base args ds gs before hval0 hW hcnd _
  have hval : ∀ (j : Nat) t v, Try.f13.params[j]? = some t → args[j]? = some v → Value.okWide Try.prog W .any base t v := hval0
  have hW' := hW
  obtain ⟨p, q, hA0, hV, rfl, hfz, hnd⟩ := hW
  have hA : DataW.TrodAll enc Try.prog W 0 (fun _ => true) true Try.f13.params.toList args.toList ds p := hA0
  rw [Try.params13] at hA hval
  obtain ⟨v0, vs0, d0, ds0, p0, q0, hargs, rfl, rfl, h0, r0⟩ := trodAll_cons hA
  obtain ⟨v1, vs1, d1, ds1, p1, q1, rfl, rfl, rfl, h1, r1⟩ := trodAll_cons r0
  obtain ⟨rfl, rfl, rfl⟩ := trodAll_nil r1
  obtain rfl : args = #[v0, v1] := by cases args; simp_all
  obtain ⟨rfl, rfl⟩ := trodVars_none hV
  have k0 := h0
  have lt0 : ∀ x ∈ p0, x.block < W.heap.size := by obtain ⟨m, hm⟩ := k0; exact DataW.trod_lt m _ _ _ hm
  have k1 := h1
  have lt1 : ∀ x ∈ p1, x.block < W.heap.size := by obtain ⟨m, hm⟩ := k1; exact DataW.trod_lt m _ _ _ hm
  obtain ⟨f00, f10, y00, y10, m0, rfl, rfl, rfl, hy00, hy10⟩ := Joins.open_agg2 Try.underlying24 (by kernel_rfl) (by kernel_rfl) (hval 0 24 v0 rfl rfl) h0
  obtain ⟨n0, e00, rfl⟩ := DataW.trod_bool Try.underlying4 hy00
  simp only [List.cons.injEq, and_true] at e00
  subst e00
  obtain ⟨a0, cap0, xs0, e10, w0⟩ : ∃ (a : Option Addr) (c : Nat) (xs : List Int), f10 = .slice a xs.length c ∧ (Rd W a xs ∧ xs.length ≤ maxLen) := by
    rcases open_ints Try.underlying22 Try.underlying3 (by kernel_rfl) hy10 with ⟨hcs, _⟩ | ⟨x, l, c, zs, hcs, _, hl, hm, hz, _, hcell, hwz⟩
    · exact ⟨none, 0, [], by simpa using hcs, Rd.nil _ _, Nat.zero_le _⟩
    · have hz' : zs.length = c := by simpa using hz
      have hl' : (zs.take l).length = l := by rw [List.length_take]; omega
      refine ⟨some x, c, zs.take l, by rw [hl']; simpa using hcs, rd_of_cells hcell _, by rw [hl']; omega⟩
  subst e10
  obtain ⟨f01, f11, y01, y11, m1, rfl, rfl, rfl, hy01, hy11⟩ := Joins.open_agg2 Try.underlying24 (by kernel_rfl) (by kernel_rfl) (hval 1 24 v1 rfl rfl) h1
  obtain ⟨n1, e01, rfl⟩ := DataW.trod_bool Try.underlying4 hy01
  simp only [List.cons.injEq, and_true] at e01
  subst e01
  obtain ⟨a1, cap1, xs1, e11, w1⟩ : ∃ (a : Option Addr) (c : Nat) (xs : List Int), f11 = .slice a xs.length c ∧ (Rd W a xs ∧ xs.length ≤ maxLen) := by
    rcases open_ints Try.underlying22 Try.underlying3 (by kernel_rfl) hy11 with ⟨hcs, _⟩ | ⟨x, l, c, zs, hcs, _, hl, hm, hz, _, hcell, hwz⟩
    · exact ⟨none, 0, [], by simpa using hcs, Rd.nil _ _, Nat.zero_le _⟩
    · have hz' : zs.length = c := by simpa using hz
      have hl' : (zs.take l).length = l := by rw [List.length_take]; omega
      refine ⟨some x, c, zs.take l, by rw [hl']; simpa using hcs, rd_of_cells hcell _, by rw [hl']; omega⟩
  subst e11
  clear hA0 hval0
  refine (walk n0 a0 cap0 xs0 n1 a1 cap1 xs1 W w0 w1).mono fun e W' ⟨he, bel⟩ => ?_
  subst he
  exact ⟨_, rfl, _, _, _, [], _, [], hW', trodAll_mk1 (shut_bool Try.underlying4 _), (trodAll_cons_mk (Below.trod laidOut (by kernel_rfl) (of_decide_eq_true (by kernel_rfl)) k0 bel lt0) (trodAll_cons_mk (Below.trod laidOut (by kernel_rfl) (of_decide_eq_true (by kernel_rfl)) k1 bel lt1) trodAll_mk0)), rfl, bel.frame _, fun h => by cases h⟩

theorem over : Rows.fnExactIntSubRow.holds Try.pinned (OpenSpec.ofChange Rows.fnExactIntSubSpec) :=
  OpenClaim.holds_of_wide 13 Try.f13 rfl rfl rfl rfl rfl rfl rfl ⟨rfl, rfl, rfl, rfl, rfl⟩ rfl rfl rfl rfl rfl (by kernel_rfl) Try.func13 (by kernel_rfl)
    (of_decide_eq_true (by kernel_rfl)) (by unfold Func.isWrapper; first | (rw [if_pos (by decide +kernel)]; kernel_rfl) | (rw [if_neg (by decide +kernel)]; exact ⟨rfl, rfl⟩))
    (fun os started H enc _ => lifted os started H enc)

theorem proved : Rows.FnExactIntSubSaid := over
#print axioms proved
end Go.Proofs.Ytmkhpeddmifdkaa.fnExactIntSub
