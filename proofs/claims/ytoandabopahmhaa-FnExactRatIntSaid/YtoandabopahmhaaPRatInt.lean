/- The law FnExactRatInt answers true at every input. No condition. (The walk is printed by gen_law.py off the law's text.) -/
import Derived.Test.YtoandabopahmhaaRows
import Derived.Test.YtoandabopahmhaaWRat0
import Derived.Test.YtoandabopahmhaaWRat
import Derived.Test.YtoandabopahmhaaWRatInt
import Derived.Test.YtoandabopahmhaaWRatIntS
import Derived.ProofKit
import Derived.OpenShut
import Derived.ShutString
import Derived.ChangeOld
import Derived.Lib.SmallJoins
import Derived.Deep.RegionWith
import Derived.Deep.RegionHeld3
import Derived.Deep.DeepCutAuto
import Derived.Below
namespace Go.Proofs.Ytoandabopahmhaa.fnExactRatInt
open Go.ChangeShapes Go.WideShapes Go.ChangeAt Go.RowKit
open Go.ChangeMaps (open_string shut_string)
set_option linter.unusedVariables false

set_option maxRecDepth 100000 in
set_option maxHeartbeats 4000000 in
theorem walk (n0 : Bool) (a0 : Option Addr) (c0 : Nat) (xs0 : List Int) (w : World) (hp0 : Rd w a0 xs0 ∧ xs0.length ≤ maxLen) :
    Calls Try.prog 7 #[.agg #[.bool n0, .slice a0 xs0.length c0]] w fun e w' => e = .returned (.bool true) ∧ Below w.heap.size w w' := by
  have hb0 := Below.refl w.heap.size w
  have hm0 := hp0.2
  unfold maxLen at hm0
  by_cases hs0 : (xs0.length : Int) ≤ 1048576
  rotate_left
  · replace hb0 := hb0.trans ((bel_alloc w (.cells #[.bool n0, .slice a0 xs0.length c0] 24)).mono (by simp))
    have zbox : w.heap.size + 1 ≤ ((World.alloc w (.cells #[.bool n0, .slice a0 xs0.length c0] 24))).heap.size := by simp
    go_enter Try.func7, Try.ntmps7
    go_wp2_with fail
    refine (szSigned_no _ _ _ _ _ _ (by omega) (by omega) (by omega) hp0.2).mono ?_
    rintro e wz ⟨rfl, hbz⟩
    replace hb0 := hb0.trans (hbz.mono hb0.size)
    go_wp2
    go_ret
    exact ⟨rfl, hb0⟩
  replace hb0 := hb0.trans ((bel_alloc w (.cells #[.bool n0, .slice a0 xs0.length c0] 24)).mono (by simp))
  have zbox : w.heap.size + 1 ≤ ((World.alloc w (.cells #[.bool n0, .slice a0 xs0.length c0] 24))).heap.size := by simp
  go_enter Try.func7, Try.ntmps7
  go_wp2_with fail
  refine (szSigned_yes _ _ _ _ _ _ (by omega) (by omega)).mono ?_
  rintro e wz0 ⟨rfl, hb⟩
  have zwz0 : (World.alloc w (.cells #[.bool n0, .slice a0 xs0.length c0] 24)).heap.size ≤ wz0.heap.size := hb.size
  have hx0_0 : wz0.cell? ⟨w.heap.size, 0, none⟩ = some (.bool n0) := cell_keep hb (cell_box w _ _ _ 0 _ (by simp) rfl) (Nat.le_refl _)
  have hx0_1 : wz0.cell? ⟨w.heap.size, 1, none⟩ = some (.slice a0 xs0.length c0) := cell_keep hb (cell_box w _ _ _ 1 _ (by simp) rfl) (Nat.le_refl _)
  replace hb0 := hb0.trans (hb.mono hb0.size)
  clear hb
  go_wp2_with fail
  refine (toSigned_any _ _ _ _ _ (hp0.1.below hb0 (Nat.le_refl _)) (by omega)).mono ?_
  rintro e w1 ⟨⟨ad1, cp2, rfl, ho3⟩, hb⟩
  have s4 := Slot.of ho3
  have lc5 := (ho3.inn (by omega)).2.1
  clear ho3
  have zw1 : wz0.heap.size ≤ w1.heap.size := hb.size
  replace hx0_0 := cell_keep hb hx0_0 (Nat.le_refl _)
  replace hx0_1 := cell_keep hb hx0_1 (Nat.le_refl _)
  replace hb0 := hb0.trans (hb.mono hb0.size)
  clear hb
  go_wp2_with fail
  refine (spec_RatInt _ _ _ _ _ ⟨s4.rd, lc5, (by omega)⟩).mono ?_
  rintro e w2 ⟨⟨ad6, cp7, bd8, dp9, rfl, ho10, hn11, ho12, hn13⟩, hb⟩
  have s14 := Slot.of ho10
  have lc15 := (ho10.inn (by omega)).2.1
  clear ho10
  have s16 := Slot.of ho12
  have lc17 := (ho12.inn (by omega)).2.1
  clear ho12
  have zw2 : w1.heap.size ≤ w2.heap.size := hb.size
  replace hx0_0 := cell_keep hb hx0_0 (Nat.le_refl _)
  replace hx0_1 := cell_keep hb hx0_1 (Nat.le_refl _)
  replace hb0 := hb0.trans (hb.mono hb0.size)
  clear hb
  have hb := bel_alloc w2 (.cells #[.bool (fRatInt n0 xs0).1.1, .slice ad6 (fRatInt n0 xs0).1.2.1.length cp7, .slice bd8 (fRatInt n0 xs0).1.2.2.length dp9] 31)
  have zb18 : w2.heap.size + 1 ≤ (World.alloc w2 (.cells #[.bool (fRatInt n0 xs0).1.1, .slice ad6 (fRatInt n0 xs0).1.2.1.length cp7, .slice bd8 (fRatInt n0 xs0).1.2.2.length dp9] 31)).heap.size := by simp
  replace s14 := s14.below hb s14.1
  replace s16 := s16.below hb s16.1
  replace hx0_0 := cell_keep hb hx0_0 (Nat.le_refl _)
  replace hx0_1 := cell_keep hb hx0_1 (Nat.le_refl _)
  have hv19 : (World.alloc w2 (.cells #[.bool (fRatInt n0 xs0).1.1, .slice ad6 (fRatInt n0 xs0).1.2.1.length cp7, .slice bd8 (fRatInt n0 xs0).1.2.2.length dp9] 31)).cell? ⟨w2.heap.size, 0, none⟩ = some (.bool (fRatInt n0 xs0).1.1) := cell_box w2 _ _ _ 0 _ (by simp) rfl
  have hv20 : (World.alloc w2 (.cells #[.bool (fRatInt n0 xs0).1.1, .slice ad6 (fRatInt n0 xs0).1.2.1.length cp7, .slice bd8 (fRatInt n0 xs0).1.2.2.length dp9] 31)).cell? ⟨w2.heap.size, 1, none⟩ = some (.slice ad6 (fRatInt n0 xs0).1.2.1.length cp7) := cell_box w2 _ _ _ 1 _ (by simp) rfl
  have hv21 : (World.alloc w2 (.cells #[.bool (fRatInt n0 xs0).1.1, .slice ad6 (fRatInt n0 xs0).1.2.1.length cp7, .slice bd8 (fRatInt n0 xs0).1.2.2.length dp9] 31)).cell? ⟨w2.heap.size, 2, none⟩ = some (.slice bd8 (fRatInt n0 xs0).1.2.2.length dp9) := cell_box w2 _ _ _ 2 _ (by simp) rfl
  replace hb0 := hb0.trans (hb.mono hb0.size)
  clear hb
  go_wp2_with fail
  refine (toSigned_any _ _ _ _ _ (hp0.1.below hb0 (Nat.le_refl _)) (by omega)).mono ?_
  rintro e w3 ⟨⟨ad22, cp23, rfl, ho24⟩, hb⟩
  have s25 := Slot.of ho24
  have lc26 := (ho24.inn (by omega)).2.1
  clear ho24
  have zw3 : (World.alloc w2 (.cells #[.bool (fRatInt n0 xs0).1.1, .slice ad6 (fRatInt n0 xs0).1.2.1.length cp7, .slice bd8 (fRatInt n0 xs0).1.2.2.length dp9] 31)).heap.size ≤ w3.heap.size := hb.size
  replace s14 := s14.below hb s14.1
  replace s16 := s16.below hb s16.1
  replace hx0_0 := cell_keep hb hx0_0 (Nat.le_refl _)
  replace hx0_1 := cell_keep hb hx0_1 (Nat.le_refl _)
  replace hv19 := cell_keep hb hv19 (Nat.le_refl _)
  replace hv20 := cell_keep hb hv20 (Nat.le_refl _)
  replace hv21 := cell_keep hb hv21 (Nat.le_refl _)
  replace hb0 := hb0.trans (hb.mono hb0.size)
  clear hb
  have hb := bel_alloc w3 (.cells #[.bool n0, .slice ad22 xs0.length cp23] 29)
  have zb27 : w3.heap.size + 1 ≤ (World.alloc w3 (.cells #[.bool n0, .slice ad22 xs0.length cp23] 29)).heap.size := by simp
  replace s14 := s14.below hb s14.1
  replace s16 := s16.below hb s16.1
  replace s25 := s25.below hb s25.1
  replace hx0_0 := cell_keep hb hx0_0 (Nat.le_refl _)
  replace hx0_1 := cell_keep hb hx0_1 (Nat.le_refl _)
  replace hv19 := cell_keep hb hv19 (Nat.le_refl _)
  replace hv20 := cell_keep hb hv20 (Nat.le_refl _)
  replace hv21 := cell_keep hb hv21 (Nat.le_refl _)
  have hv28 : (World.alloc w3 (.cells #[.bool n0, .slice ad22 xs0.length cp23] 29)).cell? ⟨w3.heap.size, 0, none⟩ = some (.bool n0) := cell_box w3 _ _ _ 0 _ (by simp) rfl
  have hv29 : (World.alloc w3 (.cells #[.bool n0, .slice ad22 xs0.length cp23] 29)).cell? ⟨w3.heap.size, 1, none⟩ = some (.slice ad22 xs0.length cp23) := cell_box w3 _ _ _ 1 _ (by simp) rfl
  replace hb0 := hb0.trans (hb.mono hb0.size)
  clear hb
  go_wp2_with fail
  refine (impl_RatInt _ _ _ _ _ ⟨s25.rd, lc26, (by omega)⟩).mono ?_
  rintro e w4 ⟨⟨ad30, cp31, bd32, dp33, lo34, up35, lo36, up37, rfl, s38, hn39, s40, hn41, g42, g43, d44⟩, hb⟩
  have s38u := s38.1
  have s40u := s40.1
  have zw4 : (World.alloc w3 (.cells #[.bool n0, .slice ad22 xs0.length cp23] 29)).heap.size ≤ w4.heap.size := hb.size
  replace s14 := s14.below hb s14.1
  replace s16 := s16.below hb s16.1
  replace s25 := s25.below hb s25.1
  replace hx0_0 := cell_keep hb hx0_0 (Nat.le_refl _)
  replace hx0_1 := cell_keep hb hx0_1 (Nat.le_refl _)
  replace hv19 := cell_keep hb hv19 (Nat.le_refl _)
  replace hv20 := cell_keep hb hv20 (Nat.le_refl _)
  replace hv21 := cell_keep hb hv21 (Nat.le_refl _)
  replace hv28 := cell_keep hb hv28 (Nat.le_refl _)
  replace hv29 := cell_keep hb hv29 (Nat.le_refl _)
  replace hb0 := hb0.trans (hb.mono hb0.size)
  clear hb
  have hb := bel_alloc w4 (.cells #[.bool (fRatInt n0 xs0).1.1, .slice ad30 (fRatInt n0 xs0).1.2.1.length cp31, .slice bd32 (fRatInt n0 xs0).1.2.2.length dp33] 31)
  have zb45 : w4.heap.size + 1 ≤ (World.alloc w4 (.cells #[.bool (fRatInt n0 xs0).1.1, .slice ad30 (fRatInt n0 xs0).1.2.1.length cp31, .slice bd32 (fRatInt n0 xs0).1.2.2.length dp33] 31)).heap.size := by simp
  replace s14 := s14.below hb s14.1
  replace s16 := s16.below hb s16.1
  replace s25 := s25.below hb s25.1
  replace s38 := s38.below hb s38.1
  replace s40 := s40.below hb s40.1
  replace hx0_0 := cell_keep hb hx0_0 (Nat.le_refl _)
  replace hx0_1 := cell_keep hb hx0_1 (Nat.le_refl _)
  replace hv19 := cell_keep hb hv19 (Nat.le_refl _)
  replace hv20 := cell_keep hb hv20 (Nat.le_refl _)
  replace hv21 := cell_keep hb hv21 (Nat.le_refl _)
  replace hv28 := cell_keep hb hv28 (Nat.le_refl _)
  replace hv29 := cell_keep hb hv29 (Nat.le_refl _)
  have hv46 : (World.alloc w4 (.cells #[.bool (fRatInt n0 xs0).1.1, .slice ad30 (fRatInt n0 xs0).1.2.1.length cp31, .slice bd32 (fRatInt n0 xs0).1.2.2.length dp33] 31)).cell? ⟨w4.heap.size, 0, none⟩ = some (.bool (fRatInt n0 xs0).1.1) := cell_box w4 _ _ _ 0 _ (by simp) rfl
  have hv47 : (World.alloc w4 (.cells #[.bool (fRatInt n0 xs0).1.1, .slice ad30 (fRatInt n0 xs0).1.2.1.length cp31, .slice bd32 (fRatInt n0 xs0).1.2.2.length dp33] 31)).cell? ⟨w4.heap.size, 1, none⟩ = some (.slice ad30 (fRatInt n0 xs0).1.2.1.length cp31) := cell_box w4 _ _ _ 1 _ (by simp) rfl
  have hv48 : (World.alloc w4 (.cells #[.bool (fRatInt n0 xs0).1.1, .slice ad30 (fRatInt n0 xs0).1.2.1.length cp31, .slice bd32 (fRatInt n0 xs0).1.2.2.length dp33] 31)).cell? ⟨w4.heap.size, 2, none⟩ = some (.slice bd32 (fRatInt n0 xs0).1.2.2.length dp33) := cell_box w4 _ _ _ 2 _ (by simp) rfl
  replace hb0 := hb0.trans (hb.mono hb0.size)
  clear hb
  go_wp2_with fail
  refine (eqRat_same _ _ _ _ _ _ _ _ _ _ _ _ s38.rd s14.rd s40.rd s16.rd (by omega) (by omega)).mono ?_
  rintro e w5 ⟨rfl, hb⟩
  have zw5 : (World.alloc w4 (.cells #[.bool (fRatInt n0 xs0).1.1, .slice ad30 (fRatInt n0 xs0).1.2.1.length cp31, .slice bd32 (fRatInt n0 xs0).1.2.2.length dp33] 31)).heap.size ≤ w5.heap.size := hb.size
  replace s14 := s14.below hb s14.1
  replace s16 := s16.below hb s16.1
  replace s25 := s25.below hb s25.1
  replace s38 := s38.below hb s38.1
  replace s40 := s40.below hb s40.1
  replace hx0_0 := cell_keep hb hx0_0 (Nat.le_refl _)
  replace hx0_1 := cell_keep hb hx0_1 (Nat.le_refl _)
  replace hv19 := cell_keep hb hv19 (Nat.le_refl _)
  replace hv20 := cell_keep hb hv20 (Nat.le_refl _)
  replace hv21 := cell_keep hb hv21 (Nat.le_refl _)
  replace hv28 := cell_keep hb hv28 (Nat.le_refl _)
  replace hv29 := cell_keep hb hv29 (Nat.le_refl _)
  replace hv46 := cell_keep hb hv46 (Nat.le_refl _)
  replace hv47 := cell_keep hb hv47 (Nat.le_refl _)
  replace hv48 := cell_keep hb hv48 (Nat.le_refl _)
  replace hb0 := hb0.trans (hb.mono hb0.size)
  clear hb
  go_upto_region 10 with fail
  go_cut [45] (fun t wx => t = .bool false ∧ Below w5.heap.size w5 wx)
  case first =>
    go_region_with (first | (go_at_call 26; refine (toSigned_any _ _ _ _ (World.drew w5) (hp0.1.below hb0.drew (Nat.le_refl _)) ?_).mono ?_; omega; rintro e wA ⟨⟨adA, cpA, rfl, hoA⟩, hbA⟩; replace hbA := (Below.refl (w5).heap.size w5).drew.trans hbA; have qhx0_0 := cell_keep hbA hx0_0 (Nat.le_refl _); have qhx0_1 := cell_keep hbA hx0_1 (Nat.le_refl _); have qhv19 := cell_keep hbA hv19 (Nat.le_refl _); have qhv20 := cell_keep hbA hv20 (Nat.le_refl _); have qhv21 := cell_keep hbA hv21 (Nat.le_refl _); have qhv28 := cell_keep hbA hv28 (Nat.le_refl _); have qhv29 := cell_keep hbA hv29 (Nat.le_refl _); have qhv46 := cell_keep hbA hv46 (Nat.le_refl _); have qhv47 := cell_keep hbA hv47 (Nat.le_refl _); have qhv48 := cell_keep hbA hv48 (Nat.le_refl _)) | (go_at_call 28; refine (eqSigned_same _ _ _ _ _ _ _ (s25.below hbA s25.1).rd hoA.rd ?_).mono ?_; omega; rintro e wB ⟨rfl, hbB⟩))
    all_goals (go_wp2_with fail; go_meet; exact ⟨rfl, hbA.trans (hbB.mono hbA.size)⟩)
  case rest =>
  obtain ⟨rfl, hb⟩ := hcut
  obtain ⟨w6, hW⟩ : ∃ x : World, x = wc := ⟨_, rfl⟩
  rw [← hW] at hb ⊢
  clear hW
  have zw6 : w5.heap.size ≤ w6.heap.size := hb.size
  replace s14 := s14.below hb s14.1
  replace s16 := s16.below hb s16.1
  replace s25 := s25.below hb s25.1
  replace s38 := s38.below hb s38.1
  replace s40 := s40.below hb s40.1
  replace hx0_0 := cell_keep hb hx0_0 (Nat.le_refl _)
  replace hx0_1 := cell_keep hb hx0_1 (Nat.le_refl _)
  replace hv19 := cell_keep hb hv19 (Nat.le_refl _)
  replace hv20 := cell_keep hb hv20 (Nat.le_refl _)
  replace hv21 := cell_keep hb hv21 (Nat.le_refl _)
  replace hv28 := cell_keep hb hv28 (Nat.le_refl _)
  replace hv29 := cell_keep hb hv29 (Nat.le_refl _)
  replace hv46 := cell_keep hb hv46 (Nat.le_refl _)
  replace hv47 := cell_keep hb hv47 (Nat.le_refl _)
  replace hv48 := cell_keep hb hv48 (Nat.le_refl _)
  replace hb0 := hb0.trans (hb.mono hb0.size)
  clear hb
  go_wp2_with fail
  refine (markSigned_any _ _ _ _ _ _ _ _ s25 (by omega) (by omega)).mono ?_
  rintro e w7 ⟨rfl, s49, hw⟩
  replace s14 := s14.wr hw (by omega)
  replace s16 := s16.wr hw (by omega)
  replace s38 := s38.wr hw (by omega)
  replace s40 := s40.wr hw (by omega)
  clear s25
  replace hb0 := below_wr hb0 hw (by omega) hb0.size
  have zw7 : w6.heap.size ≤ w7.heap.size := hw.size
  replace hx0_0 := cell_keep_wr hw hx0_0 (by omega)
  replace hx0_1 := cell_keep_wr hw hx0_1 (by omega)
  replace hv19 := cell_keep_wr hw hv19 (by omega)
  replace hv20 := cell_keep_wr hw hv20 (by omega)
  replace hv21 := cell_keep_wr hw hv21 (by omega)
  replace hv28 := cell_keep_wr hw hv28 (by omega)
  replace hv29 := cell_keep_wr hw hv29 (by omega)
  replace hv46 := cell_keep_wr hw hv46 (by omega)
  replace hv47 := cell_keep_wr hw hv47 (by omega)
  replace hv48 := cell_keep_wr hw hv48 (by omega)
  clear hw
  go_wp2_with fail
  refine (eqRat_same _ _ _ _ _ _ _ _ _ _ _ _ s38.rd s14.rd s40.rd s16.rd (by omega) (by omega)).mono ?_
  rintro e w8 ⟨rfl, hb⟩
  have zw8 : w7.heap.size ≤ w8.heap.size := hb.size
  replace s14 := s14.below hb s14.1
  replace s16 := s16.below hb s16.1
  replace s49 := s49.below hb s49.1
  replace s38 := s38.below hb s38.1
  replace s40 := s40.below hb s40.1
  replace hx0_0 := cell_keep hb hx0_0 (Nat.le_refl _)
  replace hx0_1 := cell_keep hb hx0_1 (Nat.le_refl _)
  replace hv19 := cell_keep hb hv19 (Nat.le_refl _)
  replace hv20 := cell_keep hb hv20 (Nat.le_refl _)
  replace hv21 := cell_keep hb hv21 (Nat.le_refl _)
  replace hv28 := cell_keep hb hv28 (Nat.le_refl _)
  replace hv29 := cell_keep hb hv29 (Nat.le_refl _)
  replace hv46 := cell_keep hb hv46 (Nat.le_refl _)
  replace hv47 := cell_keep hb hv47 (Nat.le_refl _)
  replace hv48 := cell_keep hb hv48 (Nat.le_refl _)
  replace hb0 := hb0.trans (hb.mono hb0.size)
  clear hb
  go_wp2_with fail
  refine (markRat_any _ _ _ _ _ _ _ _ _ _ _ _ _ s38 s40 d44 (by omega) (by omega) (by omega)).mono ?_
  rintro e w9 ⟨rfl, w10, s50, s51, hw, hw2⟩
  replace s14 := (s14.wr hw (by omega)).wr hw2 (by omega)
  replace s16 := (s16.wr hw (by omega)).wr hw2 (by omega)
  replace s49 := (s49.wr hw (by omega)).wr hw2 (by omega)
  clear s38 s40
  replace hb0 := below_wr hb0 hw (by omega) hb0.size
  replace hb0 := below_wr hb0 hw2 (by omega) hb0.size
  have zw10 : w8.heap.size ≤ w10.heap.size := hw.size
  have zw9 : w10.heap.size ≤ w9.heap.size := hw2.size
  replace hx0_0 := cell_keep_wr hw2 (cell_keep_wr hw hx0_0 (by omega)) (by omega)
  replace hx0_1 := cell_keep_wr hw2 (cell_keep_wr hw hx0_1 (by omega)) (by omega)
  replace hv19 := cell_keep_wr hw2 (cell_keep_wr hw hv19 (by omega)) (by omega)
  replace hv20 := cell_keep_wr hw2 (cell_keep_wr hw hv20 (by omega)) (by omega)
  replace hv21 := cell_keep_wr hw2 (cell_keep_wr hw hv21 (by omega)) (by omega)
  replace hv28 := cell_keep_wr hw2 (cell_keep_wr hw hv28 (by omega)) (by omega)
  replace hv29 := cell_keep_wr hw2 (cell_keep_wr hw hv29 (by omega)) (by omega)
  replace hv46 := cell_keep_wr hw2 (cell_keep_wr hw hv46 (by omega)) (by omega)
  replace hv47 := cell_keep_wr hw2 (cell_keep_wr hw hv47 (by omega)) (by omega)
  replace hv48 := cell_keep_wr hw2 (cell_keep_wr hw hv48 (by omega)) (by omega)
  clear hw hw2
  go_wp2_with fail
  refine (heldRat_any _ _ _ _ _ _ _ _ _ s50.rd s51.rd (by omega) (by omega) (by omega)).mono ?_
  rintro e w11 ⟨rfl, hb⟩
  have zw11 : w9.heap.size ≤ w11.heap.size := hb.size
  replace s14 := s14.below hb s14.1
  replace s16 := s16.below hb s16.1
  replace s49 := s49.below hb s49.1
  replace s50 := s50.below hb s50.1
  replace s51 := s51.below hb s51.1
  replace hx0_0 := cell_keep hb hx0_0 (Nat.le_refl _)
  replace hx0_1 := cell_keep hb hx0_1 (Nat.le_refl _)
  replace hv19 := cell_keep hb hv19 (Nat.le_refl _)
  replace hv20 := cell_keep hb hv20 (Nat.le_refl _)
  replace hv21 := cell_keep hb hv21 (Nat.le_refl _)
  replace hv28 := cell_keep hb hv28 (Nat.le_refl _)
  replace hv29 := cell_keep hb hv29 (Nat.le_refl _)
  replace hv46 := cell_keep hb hv46 (Nat.le_refl _)
  replace hv47 := cell_keep hb hv47 (Nat.le_refl _)
  replace hv48 := cell_keep hb hv48 (Nat.le_refl _)
  replace hb0 := hb0.trans (hb.mono hb0.size)
  clear hb
  go_wp2_with fail
  refine (toSigned_any _ _ _ _ _ (hp0.1.below hb0 (Nat.le_refl _)) (by omega)).mono ?_
  rintro e w12 ⟨⟨ad52, cp53, rfl, ho54⟩, hb⟩
  have s55 := Slot.of ho54
  have lc56 := (ho54.inn (by omega)).2.1
  clear ho54
  have zw12 : w11.heap.size ≤ w12.heap.size := hb.size
  replace s14 := s14.below hb s14.1
  replace s16 := s16.below hb s16.1
  replace s49 := s49.below hb s49.1
  replace s50 := s50.below hb s50.1
  replace s51 := s51.below hb s51.1
  replace hx0_0 := cell_keep hb hx0_0 (Nat.le_refl _)
  replace hx0_1 := cell_keep hb hx0_1 (Nat.le_refl _)
  replace hv19 := cell_keep hb hv19 (Nat.le_refl _)
  replace hv20 := cell_keep hb hv20 (Nat.le_refl _)
  replace hv21 := cell_keep hb hv21 (Nat.le_refl _)
  replace hv28 := cell_keep hb hv28 (Nat.le_refl _)
  replace hv29 := cell_keep hb hv29 (Nat.le_refl _)
  replace hv46 := cell_keep hb hv46 (Nat.le_refl _)
  replace hv47 := cell_keep hb hv47 (Nat.le_refl _)
  replace hv48 := cell_keep hb hv48 (Nat.le_refl _)
  replace hb0 := hb0.trans (hb.mono hb0.size)
  clear hb
  go_wp2_with fail
  refine (impl_RatInt _ _ _ _ _ ⟨s55.rd, lc56, (by omega)⟩).mono ?_
  rintro e w13 ⟨⟨ad57, cp58, bd59, dp60, lo61, up62, lo63, up64, rfl, s65, hn66, s67, hn68, g69, g70, d71⟩, hb⟩
  have s65u := s65.1
  have s67u := s67.1
  have zw13 : w12.heap.size ≤ w13.heap.size := hb.size
  replace s14 := s14.below hb s14.1
  replace s16 := s16.below hb s16.1
  replace s49 := s49.below hb s49.1
  replace s50 := s50.below hb s50.1
  replace s51 := s51.below hb s51.1
  replace hx0_0 := cell_keep hb hx0_0 (Nat.le_refl _)
  replace hx0_1 := cell_keep hb hx0_1 (Nat.le_refl _)
  replace hv19 := cell_keep hb hv19 (Nat.le_refl _)
  replace hv20 := cell_keep hb hv20 (Nat.le_refl _)
  replace hv21 := cell_keep hb hv21 (Nat.le_refl _)
  replace hv28 := cell_keep hb hv28 (Nat.le_refl _)
  replace hv29 := cell_keep hb hv29 (Nat.le_refl _)
  replace hv46 := cell_keep hb hv46 (Nat.le_refl _)
  replace hv47 := cell_keep hb hv47 (Nat.le_refl _)
  replace hv48 := cell_keep hb hv48 (Nat.le_refl _)
  replace hb0 := hb0.trans (hb.mono hb0.size)
  clear hb
  have hb := bel_alloc w13 (.cells #[.bool (fRatInt n0 xs0).1.1, .slice ad57 (fRatInt n0 xs0).1.2.1.length cp58, .slice bd59 (fRatInt n0 xs0).1.2.2.length dp60] 31)
  have zb72 : w13.heap.size + 1 ≤ (World.alloc w13 (.cells #[.bool (fRatInt n0 xs0).1.1, .slice ad57 (fRatInt n0 xs0).1.2.1.length cp58, .slice bd59 (fRatInt n0 xs0).1.2.2.length dp60] 31)).heap.size := by simp
  replace s14 := s14.below hb s14.1
  replace s16 := s16.below hb s16.1
  replace s49 := s49.below hb s49.1
  replace s50 := s50.below hb s50.1
  replace s51 := s51.below hb s51.1
  replace s65 := s65.below hb s65.1
  replace s67 := s67.below hb s67.1
  replace hx0_0 := cell_keep hb hx0_0 (Nat.le_refl _)
  replace hx0_1 := cell_keep hb hx0_1 (Nat.le_refl _)
  replace hv19 := cell_keep hb hv19 (Nat.le_refl _)
  replace hv20 := cell_keep hb hv20 (Nat.le_refl _)
  replace hv21 := cell_keep hb hv21 (Nat.le_refl _)
  replace hv28 := cell_keep hb hv28 (Nat.le_refl _)
  replace hv29 := cell_keep hb hv29 (Nat.le_refl _)
  replace hv46 := cell_keep hb hv46 (Nat.le_refl _)
  replace hv47 := cell_keep hb hv47 (Nat.le_refl _)
  replace hv48 := cell_keep hb hv48 (Nat.le_refl _)
  have hv73 : (World.alloc w13 (.cells #[.bool (fRatInt n0 xs0).1.1, .slice ad57 (fRatInt n0 xs0).1.2.1.length cp58, .slice bd59 (fRatInt n0 xs0).1.2.2.length dp60] 31)).cell? ⟨w13.heap.size, 0, none⟩ = some (.bool (fRatInt n0 xs0).1.1) := cell_box w13 _ _ _ 0 _ (by simp) rfl
  have hv74 : (World.alloc w13 (.cells #[.bool (fRatInt n0 xs0).1.1, .slice ad57 (fRatInt n0 xs0).1.2.1.length cp58, .slice bd59 (fRatInt n0 xs0).1.2.2.length dp60] 31)).cell? ⟨w13.heap.size, 1, none⟩ = some (.slice ad57 (fRatInt n0 xs0).1.2.1.length cp58) := cell_box w13 _ _ _ 1 _ (by simp) rfl
  have hv75 : (World.alloc w13 (.cells #[.bool (fRatInt n0 xs0).1.1, .slice ad57 (fRatInt n0 xs0).1.2.1.length cp58, .slice bd59 (fRatInt n0 xs0).1.2.2.length dp60] 31)).cell? ⟨w13.heap.size, 2, none⟩ = some (.slice bd59 (fRatInt n0 xs0).1.2.2.length dp60) := cell_box w13 _ _ _ 2 _ (by simp) rfl
  replace hb0 := hb0.trans (hb.mono hb0.size)
  clear hb
  go_wp2_with fail
  refine (eqRat_same _ _ _ _ _ _ _ _ _ _ _ _ s65.rd s14.rd s67.rd s16.rd (by omega) (by omega)).mono ?_
  rintro e w14 ⟨rfl, hb⟩
  have zw14 : (World.alloc w13 (.cells #[.bool (fRatInt n0 xs0).1.1, .slice ad57 (fRatInt n0 xs0).1.2.1.length cp58, .slice bd59 (fRatInt n0 xs0).1.2.2.length dp60] 31)).heap.size ≤ w14.heap.size := hb.size
  replace s14 := s14.below hb s14.1
  replace s16 := s16.below hb s16.1
  replace s49 := s49.below hb s49.1
  replace s50 := s50.below hb s50.1
  replace s51 := s51.below hb s51.1
  replace s65 := s65.below hb s65.1
  replace s67 := s67.below hb s67.1
  replace hx0_0 := cell_keep hb hx0_0 (Nat.le_refl _)
  replace hx0_1 := cell_keep hb hx0_1 (Nat.le_refl _)
  replace hv19 := cell_keep hb hv19 (Nat.le_refl _)
  replace hv20 := cell_keep hb hv20 (Nat.le_refl _)
  replace hv21 := cell_keep hb hv21 (Nat.le_refl _)
  replace hv28 := cell_keep hb hv28 (Nat.le_refl _)
  replace hv29 := cell_keep hb hv29 (Nat.le_refl _)
  replace hv46 := cell_keep hb hv46 (Nat.le_refl _)
  replace hv47 := cell_keep hb hv47 (Nat.le_refl _)
  replace hv48 := cell_keep hb hv48 (Nat.le_refl _)
  replace hv73 := cell_keep hb hv73 (Nat.le_refl _)
  replace hv74 := cell_keep hb hv74 (Nat.le_refl _)
  replace hv75 := cell_keep hb hv75 (Nat.le_refl _)
  replace hb0 := hb0.trans (hb.mono hb0.size)
  clear hb
  go_wp2_with fail
  refine (heldRat_any _ _ _ _ _ _ _ _ _ s50.rd s51.rd (by omega) (by omega) (by omega)).mono ?_
  rintro e w15 ⟨rfl, hb⟩
  have zw15 : w14.heap.size ≤ w15.heap.size := hb.size
  replace s14 := s14.below hb s14.1
  replace s16 := s16.below hb s16.1
  replace s49 := s49.below hb s49.1
  replace s50 := s50.below hb s50.1
  replace s51 := s51.below hb s51.1
  replace s65 := s65.below hb s65.1
  replace s67 := s67.below hb s67.1
  replace hx0_0 := cell_keep hb hx0_0 (Nat.le_refl _)
  replace hx0_1 := cell_keep hb hx0_1 (Nat.le_refl _)
  replace hv19 := cell_keep hb hv19 (Nat.le_refl _)
  replace hv20 := cell_keep hb hv20 (Nat.le_refl _)
  replace hv21 := cell_keep hb hv21 (Nat.le_refl _)
  replace hv28 := cell_keep hb hv28 (Nat.le_refl _)
  replace hv29 := cell_keep hb hv29 (Nat.le_refl _)
  replace hv46 := cell_keep hb hv46 (Nat.le_refl _)
  replace hv47 := cell_keep hb hv47 (Nat.le_refl _)
  replace hv48 := cell_keep hb hv48 (Nat.le_refl _)
  replace hv73 := cell_keep hb hv73 (Nat.le_refl _)
  replace hv74 := cell_keep hb hv74 (Nat.le_refl _)
  replace hv75 := cell_keep hb hv75 (Nat.le_refl _)
  replace hb0 := hb0.trans (hb.mono hb0.size)
  clear hb
  go_wp2
  go_ret
  exact ⟨rfl, hb0⟩

theorem own : ownKnob Try.prog.godebug = none := by kernel_rfl
theorem laidOut : laidOutB Try.prog = true := by kernel_rfl
set_option maxRecDepth 100000 in
theorem lifted (os : Os) (started : os.Started) (H : Type) (enc : TypeId × Value → H) :
    ReturnsInHanded {} Try.checked os 7 .any (Rows.fnExactRatIntSpec.pre6 enc Try.prog Try.f7 Rows.fnExactRatIntRow.domain false) (Rows.fnExactRatIntSpec.post enc Try.prog Try.f7 false true false false) := by
  refine returnsInHanded_of_change (C := Try.checked) own started (by kernel_rfl) Try.func7
    (ChangeSpec.witness6 (enc := enc) (C := Try.checked) false ⟨#[], #[.agg #[.bool false, .slice none 0 0]], []⟩ 8 (by kernel_rfl) (by kernel_rfl) (by kernel_rfl) (by kernel_rfl)) ?_
  intro W base args ds gs before hval0 hW hcnd _
  have hval : ∀ (j : Nat) t v, Try.f7.params[j]? = some t → args[j]? = some v → Value.okWide Try.prog W .any base t v := hval0
  have hW' := hW
  obtain ⟨p, q, hA0, hV, rfl, hfz, hnd⟩ := hW
  have hA : DataW.TrodAll enc Try.prog W 0 (fun _ => true) true Try.f7.params.toList args.toList ds p := hA0
  rw [Try.params7] at hA hval
  obtain ⟨v0, vs0, d0, ds0, p0, q0, hargs, rfl, rfl, h0, r0⟩ := trodAll_cons hA
  obtain ⟨rfl, rfl, rfl⟩ := trodAll_nil r0
  obtain rfl : args = #[v0] := by cases args; simp_all
  obtain ⟨rfl, rfl⟩ := trodVars_none hV
  have k0 := h0
  have lt0 : ∀ x ∈ p0, x.block < W.heap.size := by obtain ⟨m, hm⟩ := k0; exact DataW.trod_lt m _ _ _ hm
  obtain ⟨f00, f10, y00, y10, m0, rfl, rfl, rfl, hy00, hy10⟩ := Joins.open_agg2 Try.underlying24 (by kernel_rfl) (by kernel_rfl) (hval 0 24 v0 rfl rfl) h0
  obtain ⟨n0, e00, rfl⟩ := DataW.trod_bool Try.underlying4 hy00
  simp only [List.cons.injEq, and_true] at e00
  subst e00
  obtain ⟨a0, cap0, xs0, e10, w0⟩ : ∃ (a : Option Addr) (c : Nat) (xs : List Int), f10 = .slice a xs.length c ∧ (Rd W a xs ∧ xs.length ≤ maxLen) := by
    rcases open_ints Try.underlying22 Try.underlying3 (by kernel_rfl) hy10 with ⟨hcs, _⟩ | ⟨x, l, c, zs, hcs, _, hl, hm, hz, _, hcell, hwz⟩
    · exact ⟨none, 0, [], by simpa using hcs, Rd.nil _ _, Nat.zero_le _⟩
    · have hz' : zs.length = c := by simpa using hz
      have hl' : (zs.take l).length = l := by rw [List.length_take]; omega
      refine ⟨some x, c, zs.take l, by rw [hl']; simpa using hcs, rd_of_cells hcell _, by rw [hl']; omega⟩
  subst e10
  clear hA0 hval0
  refine (walk n0 a0 cap0 xs0 W w0).mono fun e W' ⟨he, bel⟩ => ?_
  subst he
  exact ⟨_, rfl, _, _, _, [], _, [], hW', trodAll_mk1 (shut_bool Try.underlying4 _), (trodAll_cons_mk (Below.trod laidOut (by kernel_rfl) (of_decide_eq_true (by kernel_rfl)) k0 bel lt0) trodAll_mk0), rfl, bel.frame _, fun h => by cases h⟩

theorem over : Rows.fnExactRatIntRow.holds Try.pinned (OpenSpec.ofChange Rows.fnExactRatIntSpec) :=
  OpenClaim.holds_of_wide 7 Try.f7 rfl rfl rfl rfl rfl rfl rfl ⟨rfl, rfl, rfl, rfl, rfl⟩ rfl rfl rfl rfl rfl (by kernel_rfl) Try.func7 (by kernel_rfl)
    (of_decide_eq_true (by kernel_rfl)) (by unfold Func.isWrapper; first | (rw [if_pos (by decide +kernel)]; kernel_rfl) | (rw [if_neg (by decide +kernel)]; exact ⟨rfl, rfl⟩))
    (fun os started H enc _ => lifted os started H enc)

theorem proved : Rows.FnExactRatIntSaid := over
#print axioms proved
end Go.Proofs.Ytoandabopahmhaa.fnExactRatInt
