/- The law FnExactRatNeg answers true at every input. No condition. (The walk is printed by gen_law.py off the law's text.) -/
import Derived.Test.YtoandabopahmhaaRows
import Derived.Test.YtoandabopahmhaaWRatNeg
import Derived.Test.YtoandabopahmhaaWRatNegS
import Derived.ProofKit
import Derived.OpenShut
import Derived.ShutString
import Derived.ChangeOld
import Derived.Lib.SmallJoins
import Derived.Deep.RegionWith
import Derived.Deep.RegionHeld3
import Derived.Deep.DeepCutAuto
import Derived.Below
namespace Go.Proofs.Ytoandabopahmhaa.fnExactRatNeg
open Go.ChangeShapes Go.WideShapes Go.ChangeAt Go.RowKit
open Go.ChangeMaps (open_string shut_string)
set_option linter.unusedVariables false

set_option maxRecDepth 100000 in
set_option maxHeartbeats 4000000 in
theorem walk (n0 : Bool) (a0 : Option Addr) (c0 : Nat) (xs0 : List Int) (b0 : Option Addr) (d0 : Nat) (ys0 : List Int) (w : World) (hp0 : (Rd w a0 xs0 ∧ xs0.length ≤ maxLen) ∧ (Rd w b0 ys0 ∧ ys0.length ≤ maxLen)) :
    Calls Try.prog 8 #[.agg #[.bool n0, .slice a0 xs0.length c0, .slice b0 ys0.length d0]] w fun e w' => e = .returned (.bool true) ∧ Below w.heap.size w w' := by
  have hb0 := Below.refl w.heap.size w
  have hm0 := hp0.1.2
  unfold maxLen at hm0
  have hk0 := hp0.2.2
  unfold maxLen at hk0
  by_cases hs0 : (xs0.length : Int) + ys0.length ≤ 1048576
  rotate_left
  · replace hb0 := hb0.trans ((bel_alloc w (.cells #[.bool n0, .slice a0 xs0.length c0, .slice b0 ys0.length d0] 26)).mono (by simp))
    have zbox : w.heap.size + 1 ≤ ((World.alloc w (.cells #[.bool n0, .slice a0 xs0.length c0, .slice b0 ys0.length d0] 26))).heap.size := by simp
    go_enter Try.func8, Try.ntmps8
    go_wp2_with fail
    refine (szRat_no _ _ _ _ _ _ _ _ _ (by omega) (by omega) (by omega) hp0.1.2 hp0.2.2).mono ?_
    rintro e wz ⟨rfl, hbz⟩
    replace hb0 := hb0.trans (hbz.mono hb0.size)
    go_wp2
    go_ret
    exact ⟨rfl, hb0⟩
  replace hb0 := hb0.trans ((bel_alloc w (.cells #[.bool n0, .slice a0 xs0.length c0, .slice b0 ys0.length d0] 26)).mono (by simp))
  have zbox : w.heap.size + 1 ≤ ((World.alloc w (.cells #[.bool n0, .slice a0 xs0.length c0, .slice b0 ys0.length d0] 26))).heap.size := by simp
  go_enter Try.func8, Try.ntmps8
  go_wp2_with fail
  refine (szRat_yes _ _ _ _ _ _ _ _ _ (by omega) (by omega)).mono ?_
  rintro e wz0 ⟨rfl, hb⟩
  have zwz0 : (World.alloc w (.cells #[.bool n0, .slice a0 xs0.length c0, .slice b0 ys0.length d0] 26)).heap.size ≤ wz0.heap.size := hb.size
  have hx0_0 : wz0.cell? ⟨w.heap.size, 0, none⟩ = some (.bool n0) := cell_keep hb (cell_box w _ _ _ 0 _ (by simp) rfl) (Nat.le_refl _)
  have hx0_1 : wz0.cell? ⟨w.heap.size, 1, none⟩ = some (.slice a0 xs0.length c0) := cell_keep hb (cell_box w _ _ _ 1 _ (by simp) rfl) (Nat.le_refl _)
  have hx0_2 : wz0.cell? ⟨w.heap.size, 2, none⟩ = some (.slice b0 ys0.length d0) := cell_keep hb (cell_box w _ _ _ 2 _ (by simp) rfl) (Nat.le_refl _)
  replace hb0 := hb0.trans (hb.mono hb0.size)
  clear hb
  go_wp2_with fail
  refine (toRat_any _ _ _ _ _ _ _ _ (hp0.1.1.below hb0 (Nat.le_refl _)) (hp0.2.1.below hb0 (Nat.le_refl _)) (by omega) (by omega)).mono ?_
  rintro e w1 ⟨⟨ad1, cp2, bd4, dp5, lo6, up7, lo8, up9, rfl, s10, s11, g12, g13, d14⟩, hb⟩
  have lc15 := s10.le
  have lc16 := s11.le
  have s10u := s10.1
  have s11u := s11.1
  have zw1 : wz0.heap.size ≤ w1.heap.size := hb.size
  replace hx0_0 := cell_keep hb hx0_0 (Nat.le_refl _)
  replace hx0_1 := cell_keep hb hx0_1 (Nat.le_refl _)
  replace hx0_2 := cell_keep hb hx0_2 (Nat.le_refl _)
  replace hb0 := hb0.trans (hb.mono hb0.size)
  clear hb
  go_wp2_with fail
  refine (spec_RatNeg _ _ _ _ _ _ _ _ ⟨s10.rd, lc15, (by omega)⟩ ⟨s11.rd, lc16, (by omega)⟩).mono ?_
  rintro e w2 ⟨⟨ad17, cp18, bd19, dp20, rfl, ho21, hn22, ho23, hn24⟩, hb⟩
  have s25 := Slot.of ho21
  have lc26 := (ho21.inn (by omega)).2.1
  clear ho21
  have s27 := Slot.of ho23
  have lc28 := (ho23.inn (by omega)).2.1
  clear ho23
  have zw2 : w1.heap.size ≤ w2.heap.size := hb.size
  replace hx0_0 := cell_keep hb hx0_0 (Nat.le_refl _)
  replace hx0_1 := cell_keep hb hx0_1 (Nat.le_refl _)
  replace hx0_2 := cell_keep hb hx0_2 (Nat.le_refl _)
  replace hb0 := hb0.trans (hb.mono hb0.size)
  clear hb
  have hb := bel_alloc w2 (.cells #[.bool (fRatNeg n0 xs0 ys0).1.1, .slice ad17 (fRatNeg n0 xs0 ys0).1.2.1.length cp18, .slice bd19 (fRatNeg n0 xs0 ys0).1.2.2.length dp20] 31)
  have zb29 : w2.heap.size + 1 ≤ (World.alloc w2 (.cells #[.bool (fRatNeg n0 xs0 ys0).1.1, .slice ad17 (fRatNeg n0 xs0 ys0).1.2.1.length cp18, .slice bd19 (fRatNeg n0 xs0 ys0).1.2.2.length dp20] 31)).heap.size := by simp
  replace s25 := s25.below hb s25.1
  replace s27 := s27.below hb s27.1
  replace hx0_0 := cell_keep hb hx0_0 (Nat.le_refl _)
  replace hx0_1 := cell_keep hb hx0_1 (Nat.le_refl _)
  replace hx0_2 := cell_keep hb hx0_2 (Nat.le_refl _)
  have hv30 : (World.alloc w2 (.cells #[.bool (fRatNeg n0 xs0 ys0).1.1, .slice ad17 (fRatNeg n0 xs0 ys0).1.2.1.length cp18, .slice bd19 (fRatNeg n0 xs0 ys0).1.2.2.length dp20] 31)).cell? ⟨w2.heap.size, 0, none⟩ = some (.bool (fRatNeg n0 xs0 ys0).1.1) := cell_box w2 _ _ _ 0 _ (by simp) rfl
  have hv31 : (World.alloc w2 (.cells #[.bool (fRatNeg n0 xs0 ys0).1.1, .slice ad17 (fRatNeg n0 xs0 ys0).1.2.1.length cp18, .slice bd19 (fRatNeg n0 xs0 ys0).1.2.2.length dp20] 31)).cell? ⟨w2.heap.size, 1, none⟩ = some (.slice ad17 (fRatNeg n0 xs0 ys0).1.2.1.length cp18) := cell_box w2 _ _ _ 1 _ (by simp) rfl
  have hv32 : (World.alloc w2 (.cells #[.bool (fRatNeg n0 xs0 ys0).1.1, .slice ad17 (fRatNeg n0 xs0 ys0).1.2.1.length cp18, .slice bd19 (fRatNeg n0 xs0 ys0).1.2.2.length dp20] 31)).cell? ⟨w2.heap.size, 2, none⟩ = some (.slice bd19 (fRatNeg n0 xs0 ys0).1.2.2.length dp20) := cell_box w2 _ _ _ 2 _ (by simp) rfl
  replace hb0 := hb0.trans (hb.mono hb0.size)
  clear hb
  go_wp2_with fail
  refine (toRat_any _ _ _ _ _ _ _ _ (hp0.1.1.below hb0 (Nat.le_refl _)) (hp0.2.1.below hb0 (Nat.le_refl _)) (by omega) (by omega)).mono ?_
  rintro e w3 ⟨⟨ad33, cp34, bd36, dp37, lo38, up39, lo40, up41, rfl, s42, s43, g44, g45, d46⟩, hb⟩
  have lc47 := s42.le
  have lc48 := s43.le
  have s42u := s42.1
  have s43u := s43.1
  have zw3 : (World.alloc w2 (.cells #[.bool (fRatNeg n0 xs0 ys0).1.1, .slice ad17 (fRatNeg n0 xs0 ys0).1.2.1.length cp18, .slice bd19 (fRatNeg n0 xs0 ys0).1.2.2.length dp20] 31)).heap.size ≤ w3.heap.size := hb.size
  replace s25 := s25.below hb s25.1
  replace s27 := s27.below hb s27.1
  replace hx0_0 := cell_keep hb hx0_0 (Nat.le_refl _)
  replace hx0_1 := cell_keep hb hx0_1 (Nat.le_refl _)
  replace hx0_2 := cell_keep hb hx0_2 (Nat.le_refl _)
  replace hv30 := cell_keep hb hv30 (Nat.le_refl _)
  replace hv31 := cell_keep hb hv31 (Nat.le_refl _)
  replace hv32 := cell_keep hb hv32 (Nat.le_refl _)
  replace hb0 := hb0.trans (hb.mono hb0.size)
  clear hb
  have hb := bel_alloc w3 (.cells #[.bool n0, .slice ad33 xs0.length cp34, .slice bd36 ys0.length dp37] 31)
  have zb49 : w3.heap.size + 1 ≤ (World.alloc w3 (.cells #[.bool n0, .slice ad33 xs0.length cp34, .slice bd36 ys0.length dp37] 31)).heap.size := by simp
  replace s25 := s25.below hb s25.1
  replace s27 := s27.below hb s27.1
  replace s42 := s42.below hb s42.1
  replace s43 := s43.below hb s43.1
  replace hx0_0 := cell_keep hb hx0_0 (Nat.le_refl _)
  replace hx0_1 := cell_keep hb hx0_1 (Nat.le_refl _)
  replace hx0_2 := cell_keep hb hx0_2 (Nat.le_refl _)
  replace hv30 := cell_keep hb hv30 (Nat.le_refl _)
  replace hv31 := cell_keep hb hv31 (Nat.le_refl _)
  replace hv32 := cell_keep hb hv32 (Nat.le_refl _)
  have hv50 : (World.alloc w3 (.cells #[.bool n0, .slice ad33 xs0.length cp34, .slice bd36 ys0.length dp37] 31)).cell? ⟨w3.heap.size, 0, none⟩ = some (.bool n0) := cell_box w3 _ _ _ 0 _ (by simp) rfl
  have hv51 : (World.alloc w3 (.cells #[.bool n0, .slice ad33 xs0.length cp34, .slice bd36 ys0.length dp37] 31)).cell? ⟨w3.heap.size, 1, none⟩ = some (.slice ad33 xs0.length cp34) := cell_box w3 _ _ _ 1 _ (by simp) rfl
  have hv52 : (World.alloc w3 (.cells #[.bool n0, .slice ad33 xs0.length cp34, .slice bd36 ys0.length dp37] 31)).cell? ⟨w3.heap.size, 2, none⟩ = some (.slice bd36 ys0.length dp37) := cell_box w3 _ _ _ 2 _ (by simp) rfl
  replace hb0 := hb0.trans (hb.mono hb0.size)
  clear hb
  go_wp2_with fail
  refine (impl_RatNeg _ _ _ _ _ _ _ _ ⟨s42.rd, lc47, (by omega)⟩ ⟨s43.rd, lc48, (by omega)⟩).mono ?_
  rintro e w4 ⟨⟨ad53, cp54, bd55, dp56, lo57, up58, lo59, up60, rfl, s61, hn62, s63, hn64, g65, g66, d67⟩, hb⟩
  have s61u := s61.1
  have s63u := s63.1
  have zw4 : (World.alloc w3 (.cells #[.bool n0, .slice ad33 xs0.length cp34, .slice bd36 ys0.length dp37] 31)).heap.size ≤ w4.heap.size := hb.size
  replace s25 := s25.below hb s25.1
  replace s27 := s27.below hb s27.1
  replace s42 := s42.below hb s42.1
  replace s43 := s43.below hb s43.1
  replace hx0_0 := cell_keep hb hx0_0 (Nat.le_refl _)
  replace hx0_1 := cell_keep hb hx0_1 (Nat.le_refl _)
  replace hx0_2 := cell_keep hb hx0_2 (Nat.le_refl _)
  replace hv30 := cell_keep hb hv30 (Nat.le_refl _)
  replace hv31 := cell_keep hb hv31 (Nat.le_refl _)
  replace hv32 := cell_keep hb hv32 (Nat.le_refl _)
  replace hv50 := cell_keep hb hv50 (Nat.le_refl _)
  replace hv51 := cell_keep hb hv51 (Nat.le_refl _)
  replace hv52 := cell_keep hb hv52 (Nat.le_refl _)
  replace hb0 := hb0.trans (hb.mono hb0.size)
  clear hb
  have hb := bel_alloc w4 (.cells #[.bool (fRatNeg n0 xs0 ys0).1.1, .slice ad53 (fRatNeg n0 xs0 ys0).1.2.1.length cp54, .slice bd55 (fRatNeg n0 xs0 ys0).1.2.2.length dp56] 31)
  have zb68 : w4.heap.size + 1 ≤ (World.alloc w4 (.cells #[.bool (fRatNeg n0 xs0 ys0).1.1, .slice ad53 (fRatNeg n0 xs0 ys0).1.2.1.length cp54, .slice bd55 (fRatNeg n0 xs0 ys0).1.2.2.length dp56] 31)).heap.size := by simp
  replace s25 := s25.below hb s25.1
  replace s27 := s27.below hb s27.1
  replace s42 := s42.below hb s42.1
  replace s43 := s43.below hb s43.1
  replace s61 := s61.below hb s61.1
  replace s63 := s63.below hb s63.1
  replace hx0_0 := cell_keep hb hx0_0 (Nat.le_refl _)
  replace hx0_1 := cell_keep hb hx0_1 (Nat.le_refl _)
  replace hx0_2 := cell_keep hb hx0_2 (Nat.le_refl _)
  replace hv30 := cell_keep hb hv30 (Nat.le_refl _)
  replace hv31 := cell_keep hb hv31 (Nat.le_refl _)
  replace hv32 := cell_keep hb hv32 (Nat.le_refl _)
  replace hv50 := cell_keep hb hv50 (Nat.le_refl _)
  replace hv51 := cell_keep hb hv51 (Nat.le_refl _)
  replace hv52 := cell_keep hb hv52 (Nat.le_refl _)
  have hv69 : (World.alloc w4 (.cells #[.bool (fRatNeg n0 xs0 ys0).1.1, .slice ad53 (fRatNeg n0 xs0 ys0).1.2.1.length cp54, .slice bd55 (fRatNeg n0 xs0 ys0).1.2.2.length dp56] 31)).cell? ⟨w4.heap.size, 0, none⟩ = some (.bool (fRatNeg n0 xs0 ys0).1.1) := cell_box w4 _ _ _ 0 _ (by simp) rfl
  have hv70 : (World.alloc w4 (.cells #[.bool (fRatNeg n0 xs0 ys0).1.1, .slice ad53 (fRatNeg n0 xs0 ys0).1.2.1.length cp54, .slice bd55 (fRatNeg n0 xs0 ys0).1.2.2.length dp56] 31)).cell? ⟨w4.heap.size, 1, none⟩ = some (.slice ad53 (fRatNeg n0 xs0 ys0).1.2.1.length cp54) := cell_box w4 _ _ _ 1 _ (by simp) rfl
  have hv71 : (World.alloc w4 (.cells #[.bool (fRatNeg n0 xs0 ys0).1.1, .slice ad53 (fRatNeg n0 xs0 ys0).1.2.1.length cp54, .slice bd55 (fRatNeg n0 xs0 ys0).1.2.2.length dp56] 31)).cell? ⟨w4.heap.size, 2, none⟩ = some (.slice bd55 (fRatNeg n0 xs0 ys0).1.2.2.length dp56) := cell_box w4 _ _ _ 2 _ (by simp) rfl
  replace hb0 := hb0.trans (hb.mono hb0.size)
  clear hb
  go_wp2_with fail
  refine (eqRat_same _ _ _ _ _ _ _ _ _ _ _ _ s61.rd s25.rd s63.rd s27.rd (by omega) (by omega)).mono ?_
  rintro e w5 ⟨rfl, hb⟩
  have zw5 : (World.alloc w4 (.cells #[.bool (fRatNeg n0 xs0 ys0).1.1, .slice ad53 (fRatNeg n0 xs0 ys0).1.2.1.length cp54, .slice bd55 (fRatNeg n0 xs0 ys0).1.2.2.length dp56] 31)).heap.size ≤ w5.heap.size := hb.size
  replace s25 := s25.below hb s25.1
  replace s27 := s27.below hb s27.1
  replace s42 := s42.below hb s42.1
  replace s43 := s43.below hb s43.1
  replace s61 := s61.below hb s61.1
  replace s63 := s63.below hb s63.1
  replace hx0_0 := cell_keep hb hx0_0 (Nat.le_refl _)
  replace hx0_1 := cell_keep hb hx0_1 (Nat.le_refl _)
  replace hx0_2 := cell_keep hb hx0_2 (Nat.le_refl _)
  replace hv30 := cell_keep hb hv30 (Nat.le_refl _)
  replace hv31 := cell_keep hb hv31 (Nat.le_refl _)
  replace hv32 := cell_keep hb hv32 (Nat.le_refl _)
  replace hv50 := cell_keep hb hv50 (Nat.le_refl _)
  replace hv51 := cell_keep hb hv51 (Nat.le_refl _)
  replace hv52 := cell_keep hb hv52 (Nat.le_refl _)
  replace hv69 := cell_keep hb hv69 (Nat.le_refl _)
  replace hv70 := cell_keep hb hv70 (Nat.le_refl _)
  replace hv71 := cell_keep hb hv71 (Nat.le_refl _)
  replace hb0 := hb0.trans (hb.mono hb0.size)
  clear hb
  go_upto_region 10 with fail
  go_cut [45] (fun t wx => t = .bool false ∧ Below w5.heap.size w5 wx)
  case first =>
    go_region_with (first | (go_at_call 17; refine (toRat_any _ _ _ _ _ _ _ (World.drew w5) (hp0.1.1.below hb0.drew (Nat.le_refl _)) (hp0.2.1.below hb0.drew (Nat.le_refl _)) ?_ ?_).mono ?_; omega; omega; rintro e wA ⟨⟨adA, cpA, bdA, dpA, loA, upA, loA2, upA2, rfl, sA, sA2, gA, gA2, dA⟩, hbA⟩; replace hbA := (Below.refl (w5).heap.size w5).drew.trans hbA; have qhx0_0 := cell_keep hbA hx0_0 (Nat.le_refl _); have qhx0_1 := cell_keep hbA hx0_1 (Nat.le_refl _); have qhx0_2 := cell_keep hbA hx0_2 (Nat.le_refl _); have qhv30 := cell_keep hbA hv30 (Nat.le_refl _); have qhv31 := cell_keep hbA hv31 (Nat.le_refl _); have qhv32 := cell_keep hbA hv32 (Nat.le_refl _); have qhv50 := cell_keep hbA hv50 (Nat.le_refl _); have qhv51 := cell_keep hbA hv51 (Nat.le_refl _); have qhv52 := cell_keep hbA hv52 (Nat.le_refl _); have qhv69 := cell_keep hbA hv69 (Nat.le_refl _); have qhv70 := cell_keep hbA hv70 (Nat.le_refl _); have qhv71 := cell_keep hbA hv71 (Nat.le_refl _)) | (go_at_call 19; refine (eqRat_same _ _ _ _ _ _ _ _ _ _ _ _ (s42.below hbA s42.1).rd sA.rd (s43.below hbA s43.1).rd sA2.rd ?_ ?_).mono ?_; omega; omega; rintro e wB ⟨rfl, hbB⟩))
    all_goals (go_wp2_with fail; go_meet; exact ⟨rfl, hbA.trans (hbB.mono hbA.size)⟩)
  case rest =>
  obtain ⟨rfl, hb⟩ := hcut
  obtain ⟨w6, hW⟩ : ∃ x : World, x = wc := ⟨_, rfl⟩
  rw [← hW] at hb ⊢
  clear hW
  have zw6 : w5.heap.size ≤ w6.heap.size := hb.size
  replace s25 := s25.below hb s25.1
  replace s27 := s27.below hb s27.1
  replace s42 := s42.below hb s42.1
  replace s43 := s43.below hb s43.1
  replace s61 := s61.below hb s61.1
  replace s63 := s63.below hb s63.1
  replace hx0_0 := cell_keep hb hx0_0 (Nat.le_refl _)
  replace hx0_1 := cell_keep hb hx0_1 (Nat.le_refl _)
  replace hx0_2 := cell_keep hb hx0_2 (Nat.le_refl _)
  replace hv30 := cell_keep hb hv30 (Nat.le_refl _)
  replace hv31 := cell_keep hb hv31 (Nat.le_refl _)
  replace hv32 := cell_keep hb hv32 (Nat.le_refl _)
  replace hv50 := cell_keep hb hv50 (Nat.le_refl _)
  replace hv51 := cell_keep hb hv51 (Nat.le_refl _)
  replace hv52 := cell_keep hb hv52 (Nat.le_refl _)
  replace hv69 := cell_keep hb hv69 (Nat.le_refl _)
  replace hv70 := cell_keep hb hv70 (Nat.le_refl _)
  replace hv71 := cell_keep hb hv71 (Nat.le_refl _)
  replace hb0 := hb0.trans (hb.mono hb0.size)
  clear hb
  go_wp2_with fail
  refine (markRat_any _ _ _ _ _ _ _ _ _ _ _ _ _ s42 s43 d46 (by omega) (by omega) (by omega)).mono ?_
  rintro e w7 ⟨rfl, w8, s72, s73, hw, hw2⟩
  replace s25 := (s25.wr hw (by omega)).wr hw2 (by omega)
  replace s27 := (s27.wr hw (by omega)).wr hw2 (by omega)
  replace s61 := (s61.wr hw (by omega)).wr hw2 (by omega)
  replace s63 := (s63.wr hw (by omega)).wr hw2 (by omega)
  clear s42 s43
  replace hb0 := below_wr hb0 hw (by omega) hb0.size
  replace hb0 := below_wr hb0 hw2 (by omega) hb0.size
  have zw8 : w6.heap.size ≤ w8.heap.size := hw.size
  have zw7 : w8.heap.size ≤ w7.heap.size := hw2.size
  replace hx0_0 := cell_keep_wr hw2 (cell_keep_wr hw hx0_0 (by omega)) (by omega)
  replace hx0_1 := cell_keep_wr hw2 (cell_keep_wr hw hx0_1 (by omega)) (by omega)
  replace hx0_2 := cell_keep_wr hw2 (cell_keep_wr hw hx0_2 (by omega)) (by omega)
  replace hv30 := cell_keep_wr hw2 (cell_keep_wr hw hv30 (by omega)) (by omega)
  replace hv31 := cell_keep_wr hw2 (cell_keep_wr hw hv31 (by omega)) (by omega)
  replace hv32 := cell_keep_wr hw2 (cell_keep_wr hw hv32 (by omega)) (by omega)
  replace hv50 := cell_keep_wr hw2 (cell_keep_wr hw hv50 (by omega)) (by omega)
  replace hv51 := cell_keep_wr hw2 (cell_keep_wr hw hv51 (by omega)) (by omega)
  replace hv52 := cell_keep_wr hw2 (cell_keep_wr hw hv52 (by omega)) (by omega)
  replace hv69 := cell_keep_wr hw2 (cell_keep_wr hw hv69 (by omega)) (by omega)
  replace hv70 := cell_keep_wr hw2 (cell_keep_wr hw hv70 (by omega)) (by omega)
  replace hv71 := cell_keep_wr hw2 (cell_keep_wr hw hv71 (by omega)) (by omega)
  clear hw hw2
  go_wp2_with fail
  refine (eqRat_same _ _ _ _ _ _ _ _ _ _ _ _ s61.rd s25.rd s63.rd s27.rd (by omega) (by omega)).mono ?_
  rintro e w9 ⟨rfl, hb⟩
  have zw9 : w7.heap.size ≤ w9.heap.size := hb.size
  replace s25 := s25.below hb s25.1
  replace s27 := s27.below hb s27.1
  replace s72 := s72.below hb s72.1
  replace s73 := s73.below hb s73.1
  replace s61 := s61.below hb s61.1
  replace s63 := s63.below hb s63.1
  replace hx0_0 := cell_keep hb hx0_0 (Nat.le_refl _)
  replace hx0_1 := cell_keep hb hx0_1 (Nat.le_refl _)
  replace hx0_2 := cell_keep hb hx0_2 (Nat.le_refl _)
  replace hv30 := cell_keep hb hv30 (Nat.le_refl _)
  replace hv31 := cell_keep hb hv31 (Nat.le_refl _)
  replace hv32 := cell_keep hb hv32 (Nat.le_refl _)
  replace hv50 := cell_keep hb hv50 (Nat.le_refl _)
  replace hv51 := cell_keep hb hv51 (Nat.le_refl _)
  replace hv52 := cell_keep hb hv52 (Nat.le_refl _)
  replace hv69 := cell_keep hb hv69 (Nat.le_refl _)
  replace hv70 := cell_keep hb hv70 (Nat.le_refl _)
  replace hv71 := cell_keep hb hv71 (Nat.le_refl _)
  replace hb0 := hb0.trans (hb.mono hb0.size)
  clear hb
  go_wp2_with fail
  refine (markRat_any _ _ _ _ _ _ _ _ _ _ _ _ _ s61 s63 d67 (by omega) (by omega) (by omega)).mono ?_
  rintro e w10 ⟨rfl, w11, s74, s75, hw, hw2⟩
  replace s25 := (s25.wr hw (by omega)).wr hw2 (by omega)
  replace s27 := (s27.wr hw (by omega)).wr hw2 (by omega)
  replace s72 := (s72.wr hw (by omega)).wr hw2 (by omega)
  replace s73 := (s73.wr hw (by omega)).wr hw2 (by omega)
  clear s61 s63
  replace hb0 := below_wr hb0 hw (by omega) hb0.size
  replace hb0 := below_wr hb0 hw2 (by omega) hb0.size
  have zw11 : w9.heap.size ≤ w11.heap.size := hw.size
  have zw10 : w11.heap.size ≤ w10.heap.size := hw2.size
  replace hx0_0 := cell_keep_wr hw2 (cell_keep_wr hw hx0_0 (by omega)) (by omega)
  replace hx0_1 := cell_keep_wr hw2 (cell_keep_wr hw hx0_1 (by omega)) (by omega)
  replace hx0_2 := cell_keep_wr hw2 (cell_keep_wr hw hx0_2 (by omega)) (by omega)
  replace hv30 := cell_keep_wr hw2 (cell_keep_wr hw hv30 (by omega)) (by omega)
  replace hv31 := cell_keep_wr hw2 (cell_keep_wr hw hv31 (by omega)) (by omega)
  replace hv32 := cell_keep_wr hw2 (cell_keep_wr hw hv32 (by omega)) (by omega)
  replace hv50 := cell_keep_wr hw2 (cell_keep_wr hw hv50 (by omega)) (by omega)
  replace hv51 := cell_keep_wr hw2 (cell_keep_wr hw hv51 (by omega)) (by omega)
  replace hv52 := cell_keep_wr hw2 (cell_keep_wr hw hv52 (by omega)) (by omega)
  replace hv69 := cell_keep_wr hw2 (cell_keep_wr hw hv69 (by omega)) (by omega)
  replace hv70 := cell_keep_wr hw2 (cell_keep_wr hw hv70 (by omega)) (by omega)
  replace hv71 := cell_keep_wr hw2 (cell_keep_wr hw hv71 (by omega)) (by omega)
  clear hw hw2
  go_wp2_with fail
  refine (heldRat_any _ _ _ _ _ _ _ _ _ s74.rd s75.rd (by omega) (by omega) (by omega)).mono ?_
  rintro e w12 ⟨rfl, hb⟩
  have zw12 : w10.heap.size ≤ w12.heap.size := hb.size
  replace s25 := s25.below hb s25.1
  replace s27 := s27.below hb s27.1
  replace s72 := s72.below hb s72.1
  replace s73 := s73.below hb s73.1
  replace s74 := s74.below hb s74.1
  replace s75 := s75.below hb s75.1
  replace hx0_0 := cell_keep hb hx0_0 (Nat.le_refl _)
  replace hx0_1 := cell_keep hb hx0_1 (Nat.le_refl _)
  replace hx0_2 := cell_keep hb hx0_2 (Nat.le_refl _)
  replace hv30 := cell_keep hb hv30 (Nat.le_refl _)
  replace hv31 := cell_keep hb hv31 (Nat.le_refl _)
  replace hv32 := cell_keep hb hv32 (Nat.le_refl _)
  replace hv50 := cell_keep hb hv50 (Nat.le_refl _)
  replace hv51 := cell_keep hb hv51 (Nat.le_refl _)
  replace hv52 := cell_keep hb hv52 (Nat.le_refl _)
  replace hv69 := cell_keep hb hv69 (Nat.le_refl _)
  replace hv70 := cell_keep hb hv70 (Nat.le_refl _)
  replace hv71 := cell_keep hb hv71 (Nat.le_refl _)
  replace hb0 := hb0.trans (hb.mono hb0.size)
  clear hb
  go_wp2_with fail
  refine (toRat_any _ _ _ _ _ _ _ _ (hp0.1.1.below hb0 (Nat.le_refl _)) (hp0.2.1.below hb0 (Nat.le_refl _)) (by omega) (by omega)).mono ?_
  rintro e w13 ⟨⟨ad76, cp77, bd79, dp80, lo81, up82, lo83, up84, rfl, s85, s86, g87, g88, d89⟩, hb⟩
  have lc90 := s85.le
  have lc91 := s86.le
  have s85u := s85.1
  have s86u := s86.1
  have zw13 : w12.heap.size ≤ w13.heap.size := hb.size
  replace s25 := s25.below hb s25.1
  replace s27 := s27.below hb s27.1
  replace s72 := s72.below hb s72.1
  replace s73 := s73.below hb s73.1
  replace s74 := s74.below hb s74.1
  replace s75 := s75.below hb s75.1
  replace hx0_0 := cell_keep hb hx0_0 (Nat.le_refl _)
  replace hx0_1 := cell_keep hb hx0_1 (Nat.le_refl _)
  replace hx0_2 := cell_keep hb hx0_2 (Nat.le_refl _)
  replace hv30 := cell_keep hb hv30 (Nat.le_refl _)
  replace hv31 := cell_keep hb hv31 (Nat.le_refl _)
  replace hv32 := cell_keep hb hv32 (Nat.le_refl _)
  replace hv50 := cell_keep hb hv50 (Nat.le_refl _)
  replace hv51 := cell_keep hb hv51 (Nat.le_refl _)
  replace hv52 := cell_keep hb hv52 (Nat.le_refl _)
  replace hv69 := cell_keep hb hv69 (Nat.le_refl _)
  replace hv70 := cell_keep hb hv70 (Nat.le_refl _)
  replace hv71 := cell_keep hb hv71 (Nat.le_refl _)
  replace hb0 := hb0.trans (hb.mono hb0.size)
  clear hb
  go_wp2_with fail
  refine (impl_RatNeg _ _ _ _ _ _ _ _ ⟨s85.rd, lc90, (by omega)⟩ ⟨s86.rd, lc91, (by omega)⟩).mono ?_
  rintro e w14 ⟨⟨ad92, cp93, bd94, dp95, lo96, up97, lo98, up99, rfl, s100, hn101, s102, hn103, g104, g105, d106⟩, hb⟩
  have s100u := s100.1
  have s102u := s102.1
  have zw14 : w13.heap.size ≤ w14.heap.size := hb.size
  replace s25 := s25.below hb s25.1
  replace s27 := s27.below hb s27.1
  replace s72 := s72.below hb s72.1
  replace s73 := s73.below hb s73.1
  replace s74 := s74.below hb s74.1
  replace s75 := s75.below hb s75.1
  replace hx0_0 := cell_keep hb hx0_0 (Nat.le_refl _)
  replace hx0_1 := cell_keep hb hx0_1 (Nat.le_refl _)
  replace hx0_2 := cell_keep hb hx0_2 (Nat.le_refl _)
  replace hv30 := cell_keep hb hv30 (Nat.le_refl _)
  replace hv31 := cell_keep hb hv31 (Nat.le_refl _)
  replace hv32 := cell_keep hb hv32 (Nat.le_refl _)
  replace hv50 := cell_keep hb hv50 (Nat.le_refl _)
  replace hv51 := cell_keep hb hv51 (Nat.le_refl _)
  replace hv52 := cell_keep hb hv52 (Nat.le_refl _)
  replace hv69 := cell_keep hb hv69 (Nat.le_refl _)
  replace hv70 := cell_keep hb hv70 (Nat.le_refl _)
  replace hv71 := cell_keep hb hv71 (Nat.le_refl _)
  replace hb0 := hb0.trans (hb.mono hb0.size)
  clear hb
  have hb := bel_alloc w14 (.cells #[.bool (fRatNeg n0 xs0 ys0).1.1, .slice ad92 (fRatNeg n0 xs0 ys0).1.2.1.length cp93, .slice bd94 (fRatNeg n0 xs0 ys0).1.2.2.length dp95] 31)
  have zb107 : w14.heap.size + 1 ≤ (World.alloc w14 (.cells #[.bool (fRatNeg n0 xs0 ys0).1.1, .slice ad92 (fRatNeg n0 xs0 ys0).1.2.1.length cp93, .slice bd94 (fRatNeg n0 xs0 ys0).1.2.2.length dp95] 31)).heap.size := by simp
  replace s25 := s25.below hb s25.1
  replace s27 := s27.below hb s27.1
  replace s72 := s72.below hb s72.1
  replace s73 := s73.below hb s73.1
  replace s74 := s74.below hb s74.1
  replace s75 := s75.below hb s75.1
  replace s100 := s100.below hb s100.1
  replace s102 := s102.below hb s102.1
  replace hx0_0 := cell_keep hb hx0_0 (Nat.le_refl _)
  replace hx0_1 := cell_keep hb hx0_1 (Nat.le_refl _)
  replace hx0_2 := cell_keep hb hx0_2 (Nat.le_refl _)
  replace hv30 := cell_keep hb hv30 (Nat.le_refl _)
  replace hv31 := cell_keep hb hv31 (Nat.le_refl _)
  replace hv32 := cell_keep hb hv32 (Nat.le_refl _)
  replace hv50 := cell_keep hb hv50 (Nat.le_refl _)
  replace hv51 := cell_keep hb hv51 (Nat.le_refl _)
  replace hv52 := cell_keep hb hv52 (Nat.le_refl _)
  replace hv69 := cell_keep hb hv69 (Nat.le_refl _)
  replace hv70 := cell_keep hb hv70 (Nat.le_refl _)
  replace hv71 := cell_keep hb hv71 (Nat.le_refl _)
  have hv108 : (World.alloc w14 (.cells #[.bool (fRatNeg n0 xs0 ys0).1.1, .slice ad92 (fRatNeg n0 xs0 ys0).1.2.1.length cp93, .slice bd94 (fRatNeg n0 xs0 ys0).1.2.2.length dp95] 31)).cell? ⟨w14.heap.size, 0, none⟩ = some (.bool (fRatNeg n0 xs0 ys0).1.1) := cell_box w14 _ _ _ 0 _ (by simp) rfl
  have hv109 : (World.alloc w14 (.cells #[.bool (fRatNeg n0 xs0 ys0).1.1, .slice ad92 (fRatNeg n0 xs0 ys0).1.2.1.length cp93, .slice bd94 (fRatNeg n0 xs0 ys0).1.2.2.length dp95] 31)).cell? ⟨w14.heap.size, 1, none⟩ = some (.slice ad92 (fRatNeg n0 xs0 ys0).1.2.1.length cp93) := cell_box w14 _ _ _ 1 _ (by simp) rfl
  have hv110 : (World.alloc w14 (.cells #[.bool (fRatNeg n0 xs0 ys0).1.1, .slice ad92 (fRatNeg n0 xs0 ys0).1.2.1.length cp93, .slice bd94 (fRatNeg n0 xs0 ys0).1.2.2.length dp95] 31)).cell? ⟨w14.heap.size, 2, none⟩ = some (.slice bd94 (fRatNeg n0 xs0 ys0).1.2.2.length dp95) := cell_box w14 _ _ _ 2 _ (by simp) rfl
  replace hb0 := hb0.trans (hb.mono hb0.size)
  clear hb
  go_wp2_with fail
  refine (eqRat_same _ _ _ _ _ _ _ _ _ _ _ _ s100.rd s25.rd s102.rd s27.rd (by omega) (by omega)).mono ?_
  rintro e w15 ⟨rfl, hb⟩
  have zw15 : (World.alloc w14 (.cells #[.bool (fRatNeg n0 xs0 ys0).1.1, .slice ad92 (fRatNeg n0 xs0 ys0).1.2.1.length cp93, .slice bd94 (fRatNeg n0 xs0 ys0).1.2.2.length dp95] 31)).heap.size ≤ w15.heap.size := hb.size
  replace s25 := s25.below hb s25.1
  replace s27 := s27.below hb s27.1
  replace s72 := s72.below hb s72.1
  replace s73 := s73.below hb s73.1
  replace s74 := s74.below hb s74.1
  replace s75 := s75.below hb s75.1
  replace s100 := s100.below hb s100.1
  replace s102 := s102.below hb s102.1
  replace hx0_0 := cell_keep hb hx0_0 (Nat.le_refl _)
  replace hx0_1 := cell_keep hb hx0_1 (Nat.le_refl _)
  replace hx0_2 := cell_keep hb hx0_2 (Nat.le_refl _)
  replace hv30 := cell_keep hb hv30 (Nat.le_refl _)
  replace hv31 := cell_keep hb hv31 (Nat.le_refl _)
  replace hv32 := cell_keep hb hv32 (Nat.le_refl _)
  replace hv50 := cell_keep hb hv50 (Nat.le_refl _)
  replace hv51 := cell_keep hb hv51 (Nat.le_refl _)
  replace hv52 := cell_keep hb hv52 (Nat.le_refl _)
  replace hv69 := cell_keep hb hv69 (Nat.le_refl _)
  replace hv70 := cell_keep hb hv70 (Nat.le_refl _)
  replace hv71 := cell_keep hb hv71 (Nat.le_refl _)
  replace hv108 := cell_keep hb hv108 (Nat.le_refl _)
  replace hv109 := cell_keep hb hv109 (Nat.le_refl _)
  replace hv110 := cell_keep hb hv110 (Nat.le_refl _)
  replace hb0 := hb0.trans (hb.mono hb0.size)
  clear hb
  go_wp2_with fail
  refine (heldRat_any _ _ _ _ _ _ _ _ _ s74.rd s75.rd (by omega) (by omega) (by omega)).mono ?_
  rintro e w16 ⟨rfl, hb⟩
  have zw16 : w15.heap.size ≤ w16.heap.size := hb.size
  replace s25 := s25.below hb s25.1
  replace s27 := s27.below hb s27.1
  replace s72 := s72.below hb s72.1
  replace s73 := s73.below hb s73.1
  replace s74 := s74.below hb s74.1
  replace s75 := s75.below hb s75.1
  replace s100 := s100.below hb s100.1
  replace s102 := s102.below hb s102.1
  replace hx0_0 := cell_keep hb hx0_0 (Nat.le_refl _)
  replace hx0_1 := cell_keep hb hx0_1 (Nat.le_refl _)
  replace hx0_2 := cell_keep hb hx0_2 (Nat.le_refl _)
  replace hv30 := cell_keep hb hv30 (Nat.le_refl _)
  replace hv31 := cell_keep hb hv31 (Nat.le_refl _)
  replace hv32 := cell_keep hb hv32 (Nat.le_refl _)
  replace hv50 := cell_keep hb hv50 (Nat.le_refl _)
  replace hv51 := cell_keep hb hv51 (Nat.le_refl _)
  replace hv52 := cell_keep hb hv52 (Nat.le_refl _)
  replace hv69 := cell_keep hb hv69 (Nat.le_refl _)
  replace hv70 := cell_keep hb hv70 (Nat.le_refl _)
  replace hv71 := cell_keep hb hv71 (Nat.le_refl _)
  replace hv108 := cell_keep hb hv108 (Nat.le_refl _)
  replace hv109 := cell_keep hb hv109 (Nat.le_refl _)
  replace hv110 := cell_keep hb hv110 (Nat.le_refl _)
  replace hb0 := hb0.trans (hb.mono hb0.size)
  clear hb
  go_wp2
  go_ret
  exact ⟨rfl, hb0⟩

theorem own : ownKnob Try.prog.godebug = none := by kernel_rfl
theorem laidOut : laidOutB Try.prog = true := by kernel_rfl
set_option maxRecDepth 100000 in
theorem lifted (os : Os) (started : os.Started) (H : Type) (enc : TypeId × Value → H) :
    ReturnsInHanded {} Try.checked os 8 .any (Rows.fnExactRatNegSpec.pre6 enc Try.prog Try.f8 Rows.fnExactRatNegRow.domain false) (Rows.fnExactRatNegSpec.post enc Try.prog Try.f8 false true false false) := by
  refine returnsInHanded_of_change (C := Try.checked) own started (by kernel_rfl) Try.func8
    (ChangeSpec.witness6 (enc := enc) (C := Try.checked) false ⟨#[], #[.agg #[.bool false, .slice none 0 0, .slice none 0 0]], []⟩ 8 (by kernel_rfl) (by kernel_rfl) (by kernel_rfl) (by kernel_rfl)) ?_
  intro W base args ds gs before hval0 hW hcnd _
  have hval : ∀ (j : Nat) t v, Try.f8.params[j]? = some t → args[j]? = some v → Value.okWide Try.prog W .any base t v := hval0
  have hW' := hW
  obtain ⟨p, q, hA0, hV, rfl, hfz, hnd⟩ := hW
  have hA : DataW.TrodAll enc Try.prog W 0 (fun _ => true) true Try.f8.params.toList args.toList ds p := hA0
  rw [Try.params8] at hA hval
  obtain ⟨v0, vs0, d0, ds0, p0, q0, hargs, rfl, rfl, h0, r0⟩ := trodAll_cons hA
  obtain ⟨rfl, rfl, rfl⟩ := trodAll_nil r0
  obtain rfl : args = #[v0] := by cases args; simp_all
  obtain ⟨rfl, rfl⟩ := trodVars_none hV
  have k0 := h0
  have lt0 : ∀ x ∈ p0, x.block < W.heap.size := by obtain ⟨m, hm⟩ := k0; exact DataW.trod_lt m _ _ _ hm
  obtain ⟨n0, a0, cap0, xs0, b0, dap0, ys0, rfl, w0⟩ := open_rat (hval 0 26 v0 rfl rfl) h0 rfl
  clear hA0 hval0
  refine (walk n0 a0 cap0 xs0 b0 dap0 ys0 W w0).mono fun e W' ⟨he, bel⟩ => ?_
  subst he
  exact ⟨_, rfl, _, _, _, [], _, [], hW', trodAll_mk1 (shut_bool Try.underlying4 _), (trodAll_cons_mk (Below.trod laidOut (by kernel_rfl) (of_decide_eq_true (by kernel_rfl)) k0 bel lt0) trodAll_mk0), rfl, bel.frame _, fun h => by cases h⟩

theorem over : Rows.fnExactRatNegRow.holds Try.pinned (OpenSpec.ofChange Rows.fnExactRatNegSpec) :=
  OpenClaim.holds_of_wide 8 Try.f8 rfl rfl rfl rfl rfl rfl rfl ⟨rfl, rfl, rfl, rfl, rfl⟩ rfl rfl rfl rfl rfl (by kernel_rfl) Try.func8 (by kernel_rfl)
    (of_decide_eq_true (by kernel_rfl)) (by unfold Func.isWrapper; first | (rw [if_pos (by decide +kernel)]; kernel_rfl) | (rw [if_neg (by decide +kernel)]; exact ⟨rfl, rfl⟩))
    (fun os started H enc _ => lifted os started H enc)

theorem proved : Rows.FnExactRatNegSaid := over
#print axioms proved
end Go.Proofs.Ytoandabopahmhaa.fnExactRatNeg
