/- The law FnExactIntNeg answers true at every input. No condition. (The walk is printed by gen_law.py off the law's text.) -/
import Derived.Test.YtmkhpeddmifdkaaRows
import Derived.Test.YtmkhpeddmifdkaaWIntOf
import Derived.Test.YtmkhpeddmifdkaaWIntFm
import Derived.Test.YtmkhpeddmifdkaaWIntCmi
import Derived.Test.YtmkhpeddmifdkaaWEqInt
import Derived.Test.YtmkhpeddmifdkaaWMark
import Derived.ProofKit
import Derived.OpenShut
import Derived.ShutString
import Derived.ChangeOld
import Derived.Lib.SmallJoins
import Derived.Deep.RegionWith
import Derived.Deep.DeepCutAuto
import Derived.Below
namespace Go.Proofs.Ytmkhpeddmifdkaa.fnExactIntNeg
open Go.ChangeShapes Go.WideShapes Go.ChangeAt Go.RowKit
open Go.ChangeMaps (open_string shut_string)
set_option linter.unusedVariables false

set_option maxHeartbeats 4000000 in
theorem walk (n0 : Bool) (a0 : Option Addr) (c0 : Nat) (xs0 : List Int) (w : World) (hp0 : Rd w a0 xs0 ∧ xs0.length ≤ maxLen) :
    Calls Try.prog 7 #[.agg #[.bool n0, .slice a0 xs0.length c0]] w fun e w' => e = .returned (.bool true) ∧ Below w.heap.size w w' := by
  have hb0 := Below.refl w.heap.size w
  have hm0 := hp0.2
  unfold maxLen at hm0
  by_cases hs0 : (xs0.length : Int) ≤ 1048576
  rotate_left
  · replace hb0 := hb0.trans ((bel_alloc w (.cells #[.bool n0, .slice a0 xs0.length c0] 24)).mono (by simp))
    have zbox : w.heap.size + 1 ≤ ((World.alloc w (.cells #[.bool n0, .slice a0 xs0.length c0] 24))).heap.size := by simp
    go_enter Try.func7, Try.ntmps7
    go_wp2_with fail
    refine (szSigned_no _ _ _ _ _ _ (by omega) (by omega) (by omega) hp0.2).mono ?_
    rintro e wz ⟨rfl, hbz⟩
    replace hb0 := hb0.trans (hbz.mono hb0.size)
    go_wp2
    go_ret
    exact ⟨rfl, hb0⟩
  replace hb0 := hb0.trans ((bel_alloc w (.cells #[.bool n0, .slice a0 xs0.length c0] 24)).mono (by simp))
  have zbox : w.heap.size + 1 ≤ ((World.alloc w (.cells #[.bool n0, .slice a0 xs0.length c0] 24))).heap.size := by simp
  go_enter Try.func7, Try.ntmps7
  go_wp2_with fail
  refine (szSigned_yes _ _ _ _ _ _ (by omega) (by omega)).mono ?_
  rintro e wz0 ⟨rfl, hb⟩
  have zwz0 : (World.alloc w (.cells #[.bool n0, .slice a0 xs0.length c0] 24)).heap.size ≤ wz0.heap.size := hb.size
  have hx0_0 : wz0.cell? ⟨w.heap.size, 0, none⟩ = some (.bool n0) := cell_keep hb (cell_box w _ _ _ 0 _ (by simp) rfl) (Nat.le_refl _)
  have hx0_1 : wz0.cell? ⟨w.heap.size, 1, none⟩ = some (.slice a0 xs0.length c0) := cell_keep hb (cell_box w _ _ _ 1 _ (by simp) rfl) (Nat.le_refl _)
  replace hb0 := hb0.trans (hb.mono hb0.size)
  clear hb
  go_wp2_with fail
  refine (toSigned_any _ _ _ _ _ (hp0.1.below hb0 (Nat.le_refl _)) (by omega)).mono ?_
  rintro e w1 ⟨⟨ad1, cp2, rfl, ho3⟩, hb⟩
  have s4 := Slot.of ho3
  have lc5 := (ho3.inn (by omega)).2.1
  clear ho3
  have zw1 : wz0.heap.size ≤ w1.heap.size := hb.size
  replace hx0_0 := cell_keep hb hx0_0 (Nat.le_refl _)
  replace hx0_1 := cell_keep hb hx0_1 (Nat.le_refl _)
  replace hb0 := hb0.trans (hb.mono hb0.size)
  clear hb
  go_wp2_with fail
  refine (spec_IntNeg _ _ _ _ _ ⟨s4.rd, lc5, (by omega)⟩).mono ?_
  rintro e w2 ⟨⟨ad6, cp7, rfl, ho8, hn9⟩, hb⟩
  have s10 := Slot.of ho8
  have lc11 := (ho8.inn (by omega)).2.1
  clear ho8
  have zw2 : w1.heap.size ≤ w2.heap.size := hb.size
  replace hx0_0 := cell_keep hb hx0_0 (Nat.le_refl _)
  replace hx0_1 := cell_keep hb hx0_1 (Nat.le_refl _)
  replace hb0 := hb0.trans (hb.mono hb0.size)
  clear hb
  have hb := bel_alloc w2 (.cells #[.bool (fNeg n0 xs0).1, .slice ad6 (fNeg n0 xs0).2.length cp7] 27)
  have zb12 : w2.heap.size + 1 ≤ (World.alloc w2 (.cells #[.bool (fNeg n0 xs0).1, .slice ad6 (fNeg n0 xs0).2.length cp7] 27)).heap.size := by simp
  replace s10 := s10.below hb s10.1
  replace hx0_0 := cell_keep hb hx0_0 (Nat.le_refl _)
  replace hx0_1 := cell_keep hb hx0_1 (Nat.le_refl _)
  have hv13 : (World.alloc w2 (.cells #[.bool (fNeg n0 xs0).1, .slice ad6 (fNeg n0 xs0).2.length cp7] 27)).cell? ⟨w2.heap.size, 0, none⟩ = some (.bool (fNeg n0 xs0).1) := cell_box w2 _ _ _ 0 _ (by simp) rfl
  have hv14 : (World.alloc w2 (.cells #[.bool (fNeg n0 xs0).1, .slice ad6 (fNeg n0 xs0).2.length cp7] 27)).cell? ⟨w2.heap.size, 1, none⟩ = some (.slice ad6 (fNeg n0 xs0).2.length cp7) := cell_box w2 _ _ _ 1 _ (by simp) rfl
  replace hb0 := hb0.trans (hb.mono hb0.size)
  clear hb
  go_wp2_with fail
  refine (toSigned_any _ _ _ _ _ (hp0.1.below hb0 (Nat.le_refl _)) (by omega)).mono ?_
  rintro e w3 ⟨⟨ad15, cp16, rfl, ho17⟩, hb⟩
  have s18 := Slot.of ho17
  have lc19 := (ho17.inn (by omega)).2.1
  clear ho17
  have zw3 : (World.alloc w2 (.cells #[.bool (fNeg n0 xs0).1, .slice ad6 (fNeg n0 xs0).2.length cp7] 27)).heap.size ≤ w3.heap.size := hb.size
  replace s10 := s10.below hb s10.1
  replace hx0_0 := cell_keep hb hx0_0 (Nat.le_refl _)
  replace hx0_1 := cell_keep hb hx0_1 (Nat.le_refl _)
  replace hv13 := cell_keep hb hv13 (Nat.le_refl _)
  replace hv14 := cell_keep hb hv14 (Nat.le_refl _)
  replace hb0 := hb0.trans (hb.mono hb0.size)
  clear hb
  have hb := bel_alloc w3 (.cells #[.bool n0, .slice ad15 xs0.length cp16] 27)
  have zb20 : w3.heap.size + 1 ≤ (World.alloc w3 (.cells #[.bool n0, .slice ad15 xs0.length cp16] 27)).heap.size := by simp
  replace s10 := s10.below hb s10.1
  replace s18 := s18.below hb s18.1
  replace hx0_0 := cell_keep hb hx0_0 (Nat.le_refl _)
  replace hx0_1 := cell_keep hb hx0_1 (Nat.le_refl _)
  replace hv13 := cell_keep hb hv13 (Nat.le_refl _)
  replace hv14 := cell_keep hb hv14 (Nat.le_refl _)
  have hv21 : (World.alloc w3 (.cells #[.bool n0, .slice ad15 xs0.length cp16] 27)).cell? ⟨w3.heap.size, 0, none⟩ = some (.bool n0) := cell_box w3 _ _ _ 0 _ (by simp) rfl
  have hv22 : (World.alloc w3 (.cells #[.bool n0, .slice ad15 xs0.length cp16] 27)).cell? ⟨w3.heap.size, 1, none⟩ = some (.slice ad15 xs0.length cp16) := cell_box w3 _ _ _ 1 _ (by simp) rfl
  replace hb0 := hb0.trans (hb.mono hb0.size)
  clear hb
  go_wp2_with fail
  refine (impl_IntNeg _ _ _ _ _ ⟨s18.rd, lc19, (by omega)⟩).mono ?_
  rintro e w4 ⟨⟨ad23, cp24, rfl, ho25, hn26⟩, hb⟩
  have s27 := Slot.of ho25
  have lc28 := (ho25.inn (by omega)).2.1
  clear ho25
  have zw4 : (World.alloc w3 (.cells #[.bool n0, .slice ad15 xs0.length cp16] 27)).heap.size ≤ w4.heap.size := hb.size
  replace s10 := s10.below hb s10.1
  replace s18 := s18.below hb s18.1
  replace hx0_0 := cell_keep hb hx0_0 (Nat.le_refl _)
  replace hx0_1 := cell_keep hb hx0_1 (Nat.le_refl _)
  replace hv13 := cell_keep hb hv13 (Nat.le_refl _)
  replace hv14 := cell_keep hb hv14 (Nat.le_refl _)
  replace hv21 := cell_keep hb hv21 (Nat.le_refl _)
  replace hv22 := cell_keep hb hv22 (Nat.le_refl _)
  replace hb0 := hb0.trans (hb.mono hb0.size)
  clear hb
  have hb := bel_alloc w4 (.cells #[.bool (fNeg n0 xs0).1, .slice ad23 (fNeg n0 xs0).2.length cp24] 27)
  have zb29 : w4.heap.size + 1 ≤ (World.alloc w4 (.cells #[.bool (fNeg n0 xs0).1, .slice ad23 (fNeg n0 xs0).2.length cp24] 27)).heap.size := by simp
  replace s10 := s10.below hb s10.1
  replace s18 := s18.below hb s18.1
  replace s27 := s27.below hb s27.1
  replace hx0_0 := cell_keep hb hx0_0 (Nat.le_refl _)
  replace hx0_1 := cell_keep hb hx0_1 (Nat.le_refl _)
  replace hv13 := cell_keep hb hv13 (Nat.le_refl _)
  replace hv14 := cell_keep hb hv14 (Nat.le_refl _)
  replace hv21 := cell_keep hb hv21 (Nat.le_refl _)
  replace hv22 := cell_keep hb hv22 (Nat.le_refl _)
  have hv30 : (World.alloc w4 (.cells #[.bool (fNeg n0 xs0).1, .slice ad23 (fNeg n0 xs0).2.length cp24] 27)).cell? ⟨w4.heap.size, 0, none⟩ = some (.bool (fNeg n0 xs0).1) := cell_box w4 _ _ _ 0 _ (by simp) rfl
  have hv31 : (World.alloc w4 (.cells #[.bool (fNeg n0 xs0).1, .slice ad23 (fNeg n0 xs0).2.length cp24] 27)).cell? ⟨w4.heap.size, 1, none⟩ = some (.slice ad23 (fNeg n0 xs0).2.length cp24) := cell_box w4 _ _ _ 1 _ (by simp) rfl
  replace hb0 := hb0.trans (hb.mono hb0.size)
  clear hb
  go_wp2_with fail
  refine (eqSigned_same _ _ _ _ _ _ _ s27.rd s10.rd (by omega)).mono ?_
  rintro e w5 ⟨rfl, hb⟩
  have zw5 : (World.alloc w4 (.cells #[.bool (fNeg n0 xs0).1, .slice ad23 (fNeg n0 xs0).2.length cp24] 27)).heap.size ≤ w5.heap.size := hb.size
  replace s10 := s10.below hb s10.1
  replace s18 := s18.below hb s18.1
  replace s27 := s27.below hb s27.1
  replace hx0_0 := cell_keep hb hx0_0 (Nat.le_refl _)
  replace hx0_1 := cell_keep hb hx0_1 (Nat.le_refl _)
  replace hv13 := cell_keep hb hv13 (Nat.le_refl _)
  replace hv14 := cell_keep hb hv14 (Nat.le_refl _)
  replace hv21 := cell_keep hb hv21 (Nat.le_refl _)
  replace hv22 := cell_keep hb hv22 (Nat.le_refl _)
  replace hv30 := cell_keep hb hv30 (Nat.le_refl _)
  replace hv31 := cell_keep hb hv31 (Nat.le_refl _)
  replace hb0 := hb0.trans (hb.mono hb0.size)
  clear hb
  go_upto_region 10 with fail
  go_cut [31] (fun t wx => t = .bool false ∧ Below w5.heap.size w5 wx)
  case first =>
    go_region_with (first | (go_at_call 17; refine (toSigned_any _ _ _ _ (World.drew w5) (hp0.1.below hb0.drew (Nat.le_refl _)) ?_).mono ?_; omega; rintro e wA ⟨⟨adA, cpA, rfl, hoA⟩, hbA⟩; replace hbA := (Below.refl (w5).heap.size w5).drew.trans hbA; have qhx0_0 := cell_keep hbA hx0_0 (Nat.le_refl _); have qhx0_1 := cell_keep hbA hx0_1 (Nat.le_refl _); have qhv13 := cell_keep hbA hv13 (Nat.le_refl _); have qhv14 := cell_keep hbA hv14 (Nat.le_refl _); have qhv21 := cell_keep hbA hv21 (Nat.le_refl _); have qhv22 := cell_keep hbA hv22 (Nat.le_refl _); have qhv30 := cell_keep hbA hv30 (Nat.le_refl _); have qhv31 := cell_keep hbA hv31 (Nat.le_refl _)) | (go_at_call 19; refine (eqSigned_same _ _ _ _ _ _ _ (s18.below hbA s18.1).rd hoA.rd ?_).mono ?_; omega; rintro e wB ⟨rfl, hbB⟩))
    all_goals (go_wp2_with fail; go_meet; exact ⟨rfl, hbA.trans (hbB.mono hbA.size)⟩)
  case rest =>
  obtain ⟨rfl, hb⟩ := hcut
  obtain ⟨w6, hW⟩ : ∃ x : World, x = wc := ⟨_, rfl⟩
  rw [← hW] at hb ⊢
  clear hW
  have zw6 : w5.heap.size ≤ w6.heap.size := hb.size
  replace s10 := s10.below hb s10.1
  replace s18 := s18.below hb s18.1
  replace s27 := s27.below hb s27.1
  replace hx0_0 := cell_keep hb hx0_0 (Nat.le_refl _)
  replace hx0_1 := cell_keep hb hx0_1 (Nat.le_refl _)
  replace hv13 := cell_keep hb hv13 (Nat.le_refl _)
  replace hv14 := cell_keep hb hv14 (Nat.le_refl _)
  replace hv21 := cell_keep hb hv21 (Nat.le_refl _)
  replace hv22 := cell_keep hb hv22 (Nat.le_refl _)
  replace hv30 := cell_keep hb hv30 (Nat.le_refl _)
  replace hv31 := cell_keep hb hv31 (Nat.le_refl _)
  replace hb0 := hb0.trans (hb.mono hb0.size)
  clear hb
  go_wp2_with fail
  refine (markSigned_any _ _ _ _ _ _ _ _ s18 (by omega) (by omega)).mono ?_
  rintro e w7 ⟨rfl, s32, hw⟩
  replace s10 := s10.wr hw (by omega)
  replace s27 := s27.wr hw (by omega)
  clear s18
  replace hb0 := below_wr hb0 hw (by omega) hb0.size
  have zw7 : w6.heap.size ≤ w7.heap.size := hw.size
  replace hx0_0 := cell_keep_wr hw hx0_0 (by omega)
  replace hx0_1 := cell_keep_wr hw hx0_1 (by omega)
  replace hv13 := cell_keep_wr hw hv13 (by omega)
  replace hv14 := cell_keep_wr hw hv14 (by omega)
  replace hv21 := cell_keep_wr hw hv21 (by omega)
  replace hv22 := cell_keep_wr hw hv22 (by omega)
  replace hv30 := cell_keep_wr hw hv30 (by omega)
  replace hv31 := cell_keep_wr hw hv31 (by omega)
  clear hw
  go_wp2_with fail
  refine (eqSigned_same _ _ _ _ _ _ _ s27.rd s10.rd (by omega)).mono ?_
  rintro e w8 ⟨rfl, hb⟩
  have zw8 : w7.heap.size ≤ w8.heap.size := hb.size
  replace s10 := s10.below hb s10.1
  replace s32 := s32.below hb s32.1
  replace s27 := s27.below hb s27.1
  replace hx0_0 := cell_keep hb hx0_0 (Nat.le_refl _)
  replace hx0_1 := cell_keep hb hx0_1 (Nat.le_refl _)
  replace hv13 := cell_keep hb hv13 (Nat.le_refl _)
  replace hv14 := cell_keep hb hv14 (Nat.le_refl _)
  replace hv21 := cell_keep hb hv21 (Nat.le_refl _)
  replace hv22 := cell_keep hb hv22 (Nat.le_refl _)
  replace hv30 := cell_keep hb hv30 (Nat.le_refl _)
  replace hv31 := cell_keep hb hv31 (Nat.le_refl _)
  replace hb0 := hb0.trans (hb.mono hb0.size)
  clear hb
  go_wp2_with fail
  refine (markSigned_any _ _ _ _ _ _ _ _ s27 (by omega) (by omega)).mono ?_
  rintro e w9 ⟨rfl, s33, hw⟩
  replace s10 := s10.wr hw (by omega)
  replace s32 := s32.wr hw (by omega)
  clear s27
  replace hb0 := below_wr hb0 hw (by omega) hb0.size
  have zw9 : w8.heap.size ≤ w9.heap.size := hw.size
  replace hx0_0 := cell_keep_wr hw hx0_0 (by omega)
  replace hx0_1 := cell_keep_wr hw hx0_1 (by omega)
  replace hv13 := cell_keep_wr hw hv13 (by omega)
  replace hv14 := cell_keep_wr hw hv14 (by omega)
  replace hv21 := cell_keep_wr hw hv21 (by omega)
  replace hv22 := cell_keep_wr hw hv22 (by omega)
  replace hv30 := cell_keep_wr hw hv30 (by omega)
  replace hv31 := cell_keep_wr hw hv31 (by omega)
  clear hw
  go_wp2_with fail
  refine (heldSigned_any _ _ _ _ _ _ s33.rd (by omega) (by omega)).mono ?_
  rintro e w10 ⟨rfl, hb⟩
  have zw10 : w9.heap.size ≤ w10.heap.size := hb.size
  replace s10 := s10.below hb s10.1
  replace s32 := s32.below hb s32.1
  replace s33 := s33.below hb s33.1
  replace hx0_0 := cell_keep hb hx0_0 (Nat.le_refl _)
  replace hx0_1 := cell_keep hb hx0_1 (Nat.le_refl _)
  replace hv13 := cell_keep hb hv13 (Nat.le_refl _)
  replace hv14 := cell_keep hb hv14 (Nat.le_refl _)
  replace hv21 := cell_keep hb hv21 (Nat.le_refl _)
  replace hv22 := cell_keep hb hv22 (Nat.le_refl _)
  replace hv30 := cell_keep hb hv30 (Nat.le_refl _)
  replace hv31 := cell_keep hb hv31 (Nat.le_refl _)
  replace hb0 := hb0.trans (hb.mono hb0.size)
  clear hb
  go_wp2_with fail
  refine (toSigned_any _ _ _ _ _ (hp0.1.below hb0 (Nat.le_refl _)) (by omega)).mono ?_
  rintro e w11 ⟨⟨ad34, cp35, rfl, ho36⟩, hb⟩
  have s37 := Slot.of ho36
  have lc38 := (ho36.inn (by omega)).2.1
  clear ho36
  have zw11 : w10.heap.size ≤ w11.heap.size := hb.size
  replace s10 := s10.below hb s10.1
  replace s32 := s32.below hb s32.1
  replace s33 := s33.below hb s33.1
  replace hx0_0 := cell_keep hb hx0_0 (Nat.le_refl _)
  replace hx0_1 := cell_keep hb hx0_1 (Nat.le_refl _)
  replace hv13 := cell_keep hb hv13 (Nat.le_refl _)
  replace hv14 := cell_keep hb hv14 (Nat.le_refl _)
  replace hv21 := cell_keep hb hv21 (Nat.le_refl _)
  replace hv22 := cell_keep hb hv22 (Nat.le_refl _)
  replace hv30 := cell_keep hb hv30 (Nat.le_refl _)
  replace hv31 := cell_keep hb hv31 (Nat.le_refl _)
  replace hb0 := hb0.trans (hb.mono hb0.size)
  clear hb
  go_wp2_with fail
  refine (impl_IntNeg _ _ _ _ _ ⟨s37.rd, lc38, (by omega)⟩).mono ?_
  rintro e w12 ⟨⟨ad39, cp40, rfl, ho41, hn42⟩, hb⟩
  have s43 := Slot.of ho41
  have lc44 := (ho41.inn (by omega)).2.1
  clear ho41
  have zw12 : w11.heap.size ≤ w12.heap.size := hb.size
  replace s10 := s10.below hb s10.1
  replace s32 := s32.below hb s32.1
  replace s33 := s33.below hb s33.1
  replace hx0_0 := cell_keep hb hx0_0 (Nat.le_refl _)
  replace hx0_1 := cell_keep hb hx0_1 (Nat.le_refl _)
  replace hv13 := cell_keep hb hv13 (Nat.le_refl _)
  replace hv14 := cell_keep hb hv14 (Nat.le_refl _)
  replace hv21 := cell_keep hb hv21 (Nat.le_refl _)
  replace hv22 := cell_keep hb hv22 (Nat.le_refl _)
  replace hv30 := cell_keep hb hv30 (Nat.le_refl _)
  replace hv31 := cell_keep hb hv31 (Nat.le_refl _)
  replace hb0 := hb0.trans (hb.mono hb0.size)
  clear hb
  have hb := bel_alloc w12 (.cells #[.bool (fNeg n0 xs0).1, .slice ad39 (fNeg n0 xs0).2.length cp40] 27)
  have zb45 : w12.heap.size + 1 ≤ (World.alloc w12 (.cells #[.bool (fNeg n0 xs0).1, .slice ad39 (fNeg n0 xs0).2.length cp40] 27)).heap.size := by simp
  replace s10 := s10.below hb s10.1
  replace s32 := s32.below hb s32.1
  replace s33 := s33.below hb s33.1
  replace s43 := s43.below hb s43.1
  replace hx0_0 := cell_keep hb hx0_0 (Nat.le_refl _)
  replace hx0_1 := cell_keep hb hx0_1 (Nat.le_refl _)
  replace hv13 := cell_keep hb hv13 (Nat.le_refl _)
  replace hv14 := cell_keep hb hv14 (Nat.le_refl _)
  replace hv21 := cell_keep hb hv21 (Nat.le_refl _)
  replace hv22 := cell_keep hb hv22 (Nat.le_refl _)
  replace hv30 := cell_keep hb hv30 (Nat.le_refl _)
  replace hv31 := cell_keep hb hv31 (Nat.le_refl _)
  have hv46 : (World.alloc w12 (.cells #[.bool (fNeg n0 xs0).1, .slice ad39 (fNeg n0 xs0).2.length cp40] 27)).cell? ⟨w12.heap.size, 0, none⟩ = some (.bool (fNeg n0 xs0).1) := cell_box w12 _ _ _ 0 _ (by simp) rfl
  have hv47 : (World.alloc w12 (.cells #[.bool (fNeg n0 xs0).1, .slice ad39 (fNeg n0 xs0).2.length cp40] 27)).cell? ⟨w12.heap.size, 1, none⟩ = some (.slice ad39 (fNeg n0 xs0).2.length cp40) := cell_box w12 _ _ _ 1 _ (by simp) rfl
  replace hb0 := hb0.trans (hb.mono hb0.size)
  clear hb
  go_wp2_with fail
  refine (eqSigned_same _ _ _ _ _ _ _ s43.rd s10.rd (by omega)).mono ?_
  rintro e w13 ⟨rfl, hb⟩
  have zw13 : (World.alloc w12 (.cells #[.bool (fNeg n0 xs0).1, .slice ad39 (fNeg n0 xs0).2.length cp40] 27)).heap.size ≤ w13.heap.size := hb.size
  replace s10 := s10.below hb s10.1
  replace s32 := s32.below hb s32.1
  replace s33 := s33.below hb s33.1
  replace s43 := s43.below hb s43.1
  replace hx0_0 := cell_keep hb hx0_0 (Nat.le_refl _)
  replace hx0_1 := cell_keep hb hx0_1 (Nat.le_refl _)
  replace hv13 := cell_keep hb hv13 (Nat.le_refl _)
  replace hv14 := cell_keep hb hv14 (Nat.le_refl _)
  replace hv21 := cell_keep hb hv21 (Nat.le_refl _)
  replace hv22 := cell_keep hb hv22 (Nat.le_refl _)
  replace hv30 := cell_keep hb hv30 (Nat.le_refl _)
  replace hv31 := cell_keep hb hv31 (Nat.le_refl _)
  replace hv46 := cell_keep hb hv46 (Nat.le_refl _)
  replace hv47 := cell_keep hb hv47 (Nat.le_refl _)
  replace hb0 := hb0.trans (hb.mono hb0.size)
  clear hb
  go_wp2_with fail
  refine (heldSigned_any _ _ _ _ _ _ s33.rd (by omega) (by omega)).mono ?_
  rintro e w14 ⟨rfl, hb⟩
  have zw14 : w13.heap.size ≤ w14.heap.size := hb.size
  replace s10 := s10.below hb s10.1
  replace s32 := s32.below hb s32.1
  replace s33 := s33.below hb s33.1
  replace s43 := s43.below hb s43.1
  replace hx0_0 := cell_keep hb hx0_0 (Nat.le_refl _)
  replace hx0_1 := cell_keep hb hx0_1 (Nat.le_refl _)
  replace hv13 := cell_keep hb hv13 (Nat.le_refl _)
  replace hv14 := cell_keep hb hv14 (Nat.le_refl _)
  replace hv21 := cell_keep hb hv21 (Nat.le_refl _)
  replace hv22 := cell_keep hb hv22 (Nat.le_refl _)
  replace hv30 := cell_keep hb hv30 (Nat.le_refl _)
  replace hv31 := cell_keep hb hv31 (Nat.le_refl _)
  replace hv46 := cell_keep hb hv46 (Nat.le_refl _)
  replace hv47 := cell_keep hb hv47 (Nat.le_refl _)
  replace hb0 := hb0.trans (hb.mono hb0.size)
  clear hb
  go_wp2
  go_ret
  exact ⟨rfl, hb0⟩

theorem own : ownKnob Try.prog.godebug = none := by kernel_rfl
theorem laidOut : laidOutB Try.prog = true := by kernel_rfl
set_option maxRecDepth 100000 in
theorem lifted (os : Os) (started : os.Started) (H : Type) (enc : TypeId × Value → H) :
    ReturnsInHanded {} Try.checked os 7 .any (Rows.fnExactIntNegSpec.pre6 enc Try.prog Try.f7 Rows.fnExactIntNegRow.domain false) (Rows.fnExactIntNegSpec.post enc Try.prog Try.f7 false true false false) := by
  refine returnsInHanded_of_change (C := Try.checked) own started (by kernel_rfl) Try.func7
    (ChangeSpec.witness6 (enc := enc) (C := Try.checked) false ⟨#[], #[.agg #[.bool false, .slice none 0 0]], []⟩ 8 (by kernel_rfl) (by kernel_rfl) (by kernel_rfl) (by kernel_rfl)) ?_
  intro W base args ds gs before hval0 hW hcnd _
  have hval : ∀ (j : Nat) t v, Try.f7.params[j]? = some t → args[j]? = some v → Value.okWide Try.prog W .any base t v := hval0
  have hW' := hW
  obtain ⟨p, q, hA0, hV, rfl, hfz, hnd⟩ := hW
  have hA : DataW.TrodAll enc Try.prog W 0 (fun _ => true) true Try.f7.params.toList args.toList ds p := hA0
  rw [Try.params7] at hA hval
  obtain ⟨v0, vs0, d0, ds0, p0, q0, hargs, rfl, rfl, h0, r0⟩ := trodAll_cons hA
  obtain ⟨rfl, rfl, rfl⟩ := trodAll_nil r0
  obtain rfl : args = #[v0] := by cases args; simp_all
  obtain ⟨rfl, rfl⟩ := trodVars_none hV
  have k0 := h0
  have lt0 : ∀ x ∈ p0, x.block < W.heap.size := by obtain ⟨m, hm⟩ := k0; exact DataW.trod_lt m _ _ _ hm
  obtain ⟨f00, f10, y00, y10, m0, rfl, rfl, rfl, hy00, hy10⟩ := Joins.open_agg2 Try.underlying24 (by kernel_rfl) (by kernel_rfl) (hval 0 24 v0 rfl rfl) h0
  obtain ⟨n0, e00, rfl⟩ := DataW.trod_bool Try.underlying4 hy00
  simp only [List.cons.injEq, and_true] at e00
  subst e00
  obtain ⟨a0, cap0, xs0, e10, w0⟩ : ∃ (a : Option Addr) (c : Nat) (xs : List Int), f10 = .slice a xs.length c ∧ (Rd W a xs ∧ xs.length ≤ maxLen) := by
    rcases open_ints Try.underlying22 Try.underlying3 (by kernel_rfl) hy10 with ⟨hcs, _⟩ | ⟨x, l, c, zs, hcs, _, hl, hm, hz, _, hcell, hwz⟩
    · exact ⟨none, 0, [], by simpa using hcs, Rd.nil _ _, Nat.zero_le _⟩
    · have hz' : zs.length = c := by simpa using hz
      have hl' : (zs.take l).length = l := by rw [List.length_take]; omega
      refine ⟨some x, c, zs.take l, by rw [hl']; simpa using hcs, rd_of_cells hcell _, by rw [hl']; omega⟩
  subst e10
  clear hA0 hval0
  refine (walk n0 a0 cap0 xs0 W w0).mono fun e W' ⟨he, bel⟩ => ?_
  subst he
  exact ⟨_, rfl, _, _, _, [], _, [], hW', trodAll_mk1 (shut_bool Try.underlying4 _), (trodAll_cons_mk (Below.trod laidOut (by kernel_rfl) (of_decide_eq_true (by kernel_rfl)) k0 bel lt0) trodAll_mk0), rfl, bel.frame _, fun h => by cases h⟩

theorem over : Rows.fnExactIntNegRow.holds Try.pinned (OpenSpec.ofChange Rows.fnExactIntNegSpec) :=
  OpenClaim.holds_of_wide 7 Try.f7 rfl rfl rfl rfl rfl rfl rfl ⟨rfl, rfl, rfl, rfl, rfl⟩ rfl rfl rfl rfl rfl (by kernel_rfl) Try.func7 (by kernel_rfl)
    (of_decide_eq_true (by kernel_rfl)) (by unfold Func.isWrapper; first | (rw [if_pos (by decide +kernel)]; kernel_rfl) | (rw [if_neg (by decide +kernel)]; exact ⟨rfl, rfl⟩))
    (fun os started H enc _ => lifted os started H enc)

theorem proved : Rows.FnExactIntNegSaid := over
#print axioms proved
end Go.Proofs.Ytmkhpeddmifdkaa.fnExactIntNeg
