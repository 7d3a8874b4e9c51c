/- The law FnExactNatDiv answers true at every input. No condition. (The walk is printed by gen_law.py off the law's text.) -/
import Derived.Test.YthjcdcmhgghliaaRows
import Derived.Test.YthjcdcmhgghliaaWDivS
import Derived.Test.YthjcdcmhgghliaaWDivI
import Derived.Test.YthjcdcmhgghliaaWEqInt
import Derived.Test.YthjcdcmhgghliaaWMark
import Derived.ProofKit
import Derived.OpenShut
import Derived.ShutString
import Derived.ChangeOld
import Derived.Lib.SmallJoins
import Derived.Deep.RegionWith
import Derived.Deep.DeepCutAuto
import Derived.Below
namespace Go.Proofs.Ythjcdcmhgghliaa.fnExactNatDiv
open Go.ChangeShapes Go.WideShapes Go.ChangeAt Go.RowKit
open Go.ChangeMaps (open_string shut_string)
set_option linter.unusedVariables false

set_option maxHeartbeats 4000000 in
theorem walk (a0 : Option Addr) (c0 : Nat) (xs0 : List Int) (a1 : Option Addr) (c1 : Nat) (xs1 : List Int) (w : World) (hp0 : Rd w a0 xs0 ∧ xs0.length ≤ maxLen) (hp1 : Rd w a1 xs1 ∧ xs1.length ≤ maxLen) :
    Calls Try.prog 9 #[.slice a0 xs0.length c0, .slice a1 xs1.length c1] w fun e w' => e = .returned (.bool true) ∧ Below w.heap.size w w' := by
  have hb0 := Below.refl w.heap.size w
  have hm0 := hp0.2
  unfold maxLen at hm0
  have hm1 := hp1.2
  unfold maxLen at hm1
  by_cases hl0 : 1048576 < xs0.length
  · go_enter Try.func9, Try.ntmps9
    go_wp2
    go_ret
    exact ⟨rfl, Below.refl _ _⟩
  by_cases hl1 : 1048576 < xs1.length
  · go_enter Try.func9, Try.ntmps9
    go_wp2
    go_ret
    exact ⟨rfl, Below.refl _ _⟩
  go_enter Try.func9, Try.ntmps9
  go_wp2_with fail
  refine (toIntS_any _ _ _ _ (hp0.1.below hb0 (Nat.le_refl _)) (by omega)).mono ?_
  rintro e w1 ⟨⟨ad1, cp2, rfl, ho3⟩, hb⟩
  have s4 := Slot.of ho3
  have lc5 := (ho3.inn (by omega)).2.1
  clear ho3
  have zw1 : w.heap.size ≤ w1.heap.size := hb.size
  replace hb0 := hb0.trans (hb.mono hb0.size)
  clear hb
  go_wp2_with fail
  refine (toIntS_any _ _ _ _ (hp1.1.below hb0 (Nat.le_refl _)) (by omega)).mono ?_
  rintro e w2 ⟨⟨ad6, cp7, rfl, ho8⟩, hb⟩
  have s9 := Slot.of ho8
  have lc10 := (ho8.inn (by omega)).2.1
  clear ho8
  have zw2 : w1.heap.size ≤ w2.heap.size := hb.size
  replace s4 := s4.below hb s4.1
  replace hb0 := hb0.trans (hb.mono hb0.size)
  clear hb
  go_wp2_with fail
  refine (spec_NatDiv _ _ _ _ _ _ _ ⟨s4.rd, lc5, (by omega)⟩ ⟨s9.rd, lc10, (by omega)⟩).mono ?_
  rintro e w3 ⟨⟨ad11, cp12, ad13, cp14, rfl, ho15, hn16, ho17, hn18⟩, hb⟩
  have s19 := Slot.of ho15
  have lc20 := (ho15.inn (by omega)).2.1
  clear ho15
  have s21 := Slot.of ho17
  have lc22 := (ho17.inn (by omega)).2.1
  clear ho17
  have zw3 : w2.heap.size ≤ w3.heap.size := hb.size
  replace hb0 := hb0.trans (hb.mono hb0.size)
  clear hb
  go_wp2_with fail
  refine (toIntS_any _ _ _ _ (hp0.1.below hb0 (Nat.le_refl _)) (by omega)).mono ?_
  rintro e w4 ⟨⟨ad23, cp24, rfl, ho25⟩, hb⟩
  have s26 := Slot.of ho25
  have lc27 := (ho25.inn (by omega)).2.1
  clear ho25
  have zw4 : w3.heap.size ≤ w4.heap.size := hb.size
  replace s19 := s19.below hb s19.1
  replace s21 := s21.below hb s21.1
  replace hb0 := hb0.trans (hb.mono hb0.size)
  clear hb
  go_wp2_with fail
  refine (toIntS_any _ _ _ _ (hp1.1.below hb0 (Nat.le_refl _)) (by omega)).mono ?_
  rintro e w5 ⟨⟨ad28, cp29, rfl, ho30⟩, hb⟩
  have s31 := Slot.of ho30
  have lc32 := (ho30.inn (by omega)).2.1
  clear ho30
  have zw5 : w4.heap.size ≤ w5.heap.size := hb.size
  replace s19 := s19.below hb s19.1
  replace s21 := s21.below hb s21.1
  replace s26 := s26.below hb s26.1
  replace hb0 := hb0.trans (hb.mono hb0.size)
  clear hb
  go_wp2_with fail
  refine (impl_NatDiv _ _ _ _ _ _ _ ⟨s26.rd, lc27, (by omega)⟩ ⟨s31.rd, lc32, (by omega)⟩).mono ?_
  rintro e w6 ⟨⟨ad33, cp34, ad35, cp36, lo37, up38, lo39, up40, rfl, s41, hn42, s43, hn44, g45, g46, d47⟩, hb⟩
  have s41u := s41.1
  have s43u := s43.1
  have zw6 : w5.heap.size ≤ w6.heap.size := hb.size
  replace s19 := s19.below hb s19.1
  replace s21 := s21.below hb s21.1
  replace s26 := s26.below hb s26.1
  replace s31 := s31.below hb s31.1
  replace hb0 := hb0.trans (hb.mono hb0.size)
  clear hb
  go_wp2_with fail
  refine (eqIntS_same _ _ _ _ _ _ s41.rd s19.rd (by omega)).mono ?_
  rintro e w7 ⟨rfl, hb⟩
  have zw7 : w6.heap.size ≤ w7.heap.size := hb.size
  replace s19 := s19.below hb s19.1
  replace s21 := s21.below hb s21.1
  replace s26 := s26.below hb s26.1
  replace s31 := s31.below hb s31.1
  replace s41 := s41.below hb s41.1
  replace s43 := s43.below hb s43.1
  replace hb0 := hb0.trans (hb.mono hb0.size)
  clear hb
  go_wp2_with fail
  refine (eqIntS_same _ _ _ _ _ _ s43.rd s21.rd (by omega)).mono ?_
  rintro e w8 ⟨rfl, hb⟩
  have zw8 : w7.heap.size ≤ w8.heap.size := hb.size
  replace s19 := s19.below hb s19.1
  replace s21 := s21.below hb s21.1
  replace s26 := s26.below hb s26.1
  replace s31 := s31.below hb s31.1
  replace s41 := s41.below hb s41.1
  replace s43 := s43.below hb s43.1
  replace hb0 := hb0.trans (hb.mono hb0.size)
  clear hb
  go_wp2_with fail
  refine (toIntS_any _ _ _ _ (hp0.1.below hb0 (Nat.le_refl _)) (by omega)).mono ?_
  rintro e w9 ⟨⟨ad48, cp49, rfl, ho50⟩, hb⟩
  have s51 := Slot.of ho50
  have lc52 := (ho50.inn (by omega)).2.1
  clear ho50
  have zw9 : w8.heap.size ≤ w9.heap.size := hb.size
  replace s19 := s19.below hb s19.1
  replace s21 := s21.below hb s21.1
  replace s26 := s26.below hb s26.1
  replace s31 := s31.below hb s31.1
  replace s41 := s41.below hb s41.1
  replace s43 := s43.below hb s43.1
  replace hb0 := hb0.trans (hb.mono hb0.size)
  clear hb
  go_wp2_with fail
  refine (eqIntS_same _ _ _ _ _ _ s26.rd s51.rd (by omega)).mono ?_
  rintro e w10 ⟨rfl, hb⟩
  have zw10 : w9.heap.size ≤ w10.heap.size := hb.size
  replace s19 := s19.below hb s19.1
  replace s21 := s21.below hb s21.1
  replace s26 := s26.below hb s26.1
  replace s31 := s31.below hb s31.1
  replace s41 := s41.below hb s41.1
  replace s43 := s43.below hb s43.1
  replace hb0 := hb0.trans (hb.mono hb0.size)
  clear hb
  go_wp2_with fail
  refine (toIntS_any _ _ _ _ (hp1.1.below hb0 (Nat.le_refl _)) (by omega)).mono ?_
  rintro e w11 ⟨⟨ad53, cp54, rfl, ho55⟩, hb⟩
  have s56 := Slot.of ho55
  have lc57 := (ho55.inn (by omega)).2.1
  clear ho55
  have zw11 : w10.heap.size ≤ w11.heap.size := hb.size
  replace s19 := s19.below hb s19.1
  replace s21 := s21.below hb s21.1
  replace s26 := s26.below hb s26.1
  replace s31 := s31.below hb s31.1
  replace s41 := s41.below hb s41.1
  replace s43 := s43.below hb s43.1
  replace hb0 := hb0.trans (hb.mono hb0.size)
  clear hb
  go_wp2_with fail
  refine (eqIntS_same _ _ _ _ _ _ s31.rd s56.rd (by omega)).mono ?_
  rintro e w12 ⟨rfl, hb⟩
  have zw12 : w11.heap.size ≤ w12.heap.size := hb.size
  replace s19 := s19.below hb s19.1
  replace s21 := s21.below hb s21.1
  replace s26 := s26.below hb s26.1
  replace s31 := s31.below hb s31.1
  replace s41 := s41.below hb s41.1
  replace s43 := s43.below hb s43.1
  replace hb0 := hb0.trans (hb.mono hb0.size)
  clear hb
  go_wp2_with fail
  refine (markIntS_any _ _ _ _ _ _ _ s26 (by omega) (by omega)).mono ?_
  rintro e w13 ⟨rfl, s58, hw⟩
  replace s19 := s19.wr hw (by omega)
  replace s21 := s21.wr hw (by omega)
  replace s31 := s31.wr hw (by omega)
  replace s41 := s41.wr hw (by omega)
  replace s43 := s43.wr hw (by omega)
  clear s26
  replace hb0 := below_wr hb0 hw (by omega) hb0.size
  have zw13 : w12.heap.size ≤ w13.heap.size := hw.size
  clear hw
  go_wp2_with fail
  refine (markIntS_any _ _ _ _ _ _ _ s31 (by omega) (by omega)).mono ?_
  rintro e w14 ⟨rfl, s59, hw⟩
  replace s19 := s19.wr hw (by omega)
  replace s21 := s21.wr hw (by omega)
  replace s58 := s58.wr hw (by omega)
  replace s41 := s41.wr hw (by omega)
  replace s43 := s43.wr hw (by omega)
  clear s31
  replace hb0 := below_wr hb0 hw (by omega) hb0.size
  have zw14 : w13.heap.size ≤ w14.heap.size := hw.size
  clear hw
  go_wp2_with fail
  refine (eqIntS_same _ _ _ _ _ _ s41.rd s19.rd (by omega)).mono ?_
  rintro e w15 ⟨rfl, hb⟩
  have zw15 : w14.heap.size ≤ w15.heap.size := hb.size
  replace s19 := s19.below hb s19.1
  replace s21 := s21.below hb s21.1
  replace s58 := s58.below hb s58.1
  replace s59 := s59.below hb s59.1
  replace s41 := s41.below hb s41.1
  replace s43 := s43.below hb s43.1
  replace hb0 := hb0.trans (hb.mono hb0.size)
  clear hb
  go_wp2_with fail
  refine (eqIntS_same _ _ _ _ _ _ s43.rd s21.rd (by omega)).mono ?_
  rintro e w16 ⟨rfl, hb⟩
  have zw16 : w15.heap.size ≤ w16.heap.size := hb.size
  replace s19 := s19.below hb s19.1
  replace s21 := s21.below hb s21.1
  replace s58 := s58.below hb s58.1
  replace s59 := s59.below hb s59.1
  replace s41 := s41.below hb s41.1
  replace s43 := s43.below hb s43.1
  replace hb0 := hb0.trans (hb.mono hb0.size)
  clear hb
  go_wp2_with fail
  refine (markIntS_any _ _ _ _ _ _ _ s41 (by omega) (by omega)).mono ?_
  rintro e w17 ⟨rfl, s60, hw⟩
  replace s19 := s19.wr hw (by omega)
  replace s21 := s21.wr hw (by omega)
  replace s58 := s58.wr hw (by omega)
  replace s59 := s59.wr hw (by omega)
  replace s43 := s43.wr hw (by omega)
  clear s41
  replace hb0 := below_wr hb0 hw (by omega) hb0.size
  have zw17 : w16.heap.size ≤ w17.heap.size := hw.size
  clear hw
  go_wp2_with fail
  refine (markIntS_any _ _ _ _ _ _ _ s43 (by omega) (by omega)).mono ?_
  rintro e w18 ⟨rfl, s61, hw⟩
  replace s19 := s19.wr hw (by omega)
  replace s21 := s21.wr hw (by omega)
  replace s58 := s58.wr hw (by omega)
  replace s59 := s59.wr hw (by omega)
  replace s60 := s60.wr hw (by omega)
  clear s43
  replace hb0 := below_wr hb0 hw (by omega) hb0.size
  have zw18 : w17.heap.size ≤ w18.heap.size := hw.size
  clear hw
  go_wp2_with fail
  refine (heldIntS_any _ _ _ _ _ s60.rd (by omega) (by omega)).mono ?_
  rintro e w19 ⟨rfl, rfl⟩
  go_wp2_with fail
  refine (heldIntS_any _ _ _ _ _ s61.rd (by omega) (by omega)).mono ?_
  rintro e w20 ⟨rfl, rfl⟩
  go_wp2_with fail
  refine (toIntS_any _ _ _ _ (hp0.1.below hb0 (Nat.le_refl _)) (by omega)).mono ?_
  rintro e w21 ⟨⟨ad62, cp63, rfl, ho64⟩, hb⟩
  have s65 := Slot.of ho64
  have lc66 := (ho64.inn (by omega)).2.1
  clear ho64
  have zw21 : w18.heap.size ≤ w21.heap.size := hb.size
  replace s19 := s19.below hb s19.1
  replace s21 := s21.below hb s21.1
  replace s58 := s58.below hb s58.1
  replace s59 := s59.below hb s59.1
  replace s60 := s60.below hb s60.1
  replace s61 := s61.below hb s61.1
  replace hb0 := hb0.trans (hb.mono hb0.size)
  clear hb
  go_wp2_with fail
  refine (toIntS_any _ _ _ _ (hp1.1.below hb0 (Nat.le_refl _)) (by omega)).mono ?_
  rintro e w22 ⟨⟨ad67, cp68, rfl, ho69⟩, hb⟩
  have s70 := Slot.of ho69
  have lc71 := (ho69.inn (by omega)).2.1
  clear ho69
  have zw22 : w21.heap.size ≤ w22.heap.size := hb.size
  replace s19 := s19.below hb s19.1
  replace s21 := s21.below hb s21.1
  replace s58 := s58.below hb s58.1
  replace s59 := s59.below hb s59.1
  replace s60 := s60.below hb s60.1
  replace s61 := s61.below hb s61.1
  replace s65 := s65.below hb s65.1
  replace hb0 := hb0.trans (hb.mono hb0.size)
  clear hb
  go_wp2_with fail
  refine (impl_NatDiv _ _ _ _ _ _ _ ⟨s65.rd, lc66, (by omega)⟩ ⟨s70.rd, lc71, (by omega)⟩).mono ?_
  rintro e w23 ⟨⟨ad72, cp73, ad74, cp75, lo76, up77, lo78, up79, rfl, s80, hn81, s82, hn83, g84, g85, d86⟩, hb⟩
  have s80u := s80.1
  have s82u := s82.1
  have zw23 : w22.heap.size ≤ w23.heap.size := hb.size
  replace s19 := s19.below hb s19.1
  replace s21 := s21.below hb s21.1
  replace s58 := s58.below hb s58.1
  replace s59 := s59.below hb s59.1
  replace s60 := s60.below hb s60.1
  replace s61 := s61.below hb s61.1
  replace hb0 := hb0.trans (hb.mono hb0.size)
  clear hb
  go_wp2_with fail
  refine (eqIntS_same _ _ _ _ _ _ s80.rd s19.rd (by omega)).mono ?_
  rintro e w24 ⟨rfl, hb⟩
  have zw24 : w23.heap.size ≤ w24.heap.size := hb.size
  replace s19 := s19.below hb s19.1
  replace s21 := s21.below hb s21.1
  replace s58 := s58.below hb s58.1
  replace s59 := s59.below hb s59.1
  replace s60 := s60.below hb s60.1
  replace s61 := s61.below hb s61.1
  replace s80 := s80.below hb s80.1
  replace s82 := s82.below hb s82.1
  replace hb0 := hb0.trans (hb.mono hb0.size)
  clear hb
  go_wp2_with fail
  refine (eqIntS_same _ _ _ _ _ _ s82.rd s21.rd (by omega)).mono ?_
  rintro e w25 ⟨rfl, hb⟩
  have zw25 : w24.heap.size ≤ w25.heap.size := hb.size
  replace s19 := s19.below hb s19.1
  replace s21 := s21.below hb s21.1
  replace s58 := s58.below hb s58.1
  replace s59 := s59.below hb s59.1
  replace s60 := s60.below hb s60.1
  replace s61 := s61.below hb s61.1
  replace s80 := s80.below hb s80.1
  replace s82 := s82.below hb s82.1
  replace hb0 := hb0.trans (hb.mono hb0.size)
  clear hb
  go_wp2_with fail
  refine (heldIntS_any _ _ _ _ _ s60.rd (by omega) (by omega)).mono ?_
  rintro e w26 ⟨rfl, rfl⟩
  go_wp2_with fail
  refine (heldIntS_any _ _ _ _ _ s61.rd (by omega) (by omega)).mono ?_
  rintro e w27 ⟨rfl, rfl⟩
  go_wp2
  go_ret
  exact ⟨rfl, hb0⟩

theorem own : ownKnob Try.prog.godebug = none := by kernel_rfl
theorem laidOut : laidOutB Try.prog = true := by kernel_rfl
set_option maxRecDepth 100000 in
theorem lifted (os : Os) (started : os.Started) (H : Type) (enc : TypeId × Value → H) :
    ReturnsInHanded {} Try.checked os 9 .any (Rows.fnExactNatDivSpec.pre6 enc Try.prog Try.f9 Rows.fnExactNatDivRow.domain false) (Rows.fnExactNatDivSpec.post enc Try.prog Try.f9 false true false false) := by
  refine returnsInHanded_of_change (C := Try.checked) own started (by kernel_rfl) Try.func9
    (ChangeSpec.witness6 (enc := enc) (C := Try.checked) false ⟨#[], #[.slice none 0 0, .slice none 0 0], []⟩ 8 (by kernel_rfl) (by kernel_rfl) (by kernel_rfl) (by kernel_rfl)) ?_
  intro W base args ds gs before hval0 hW hcnd _
  have hval : ∀ (j : Nat) t v, Try.f9.params[j]? = some t → args[j]? = some v → Value.okWide Try.prog W .any base t v := hval0
  have hW' := hW
  obtain ⟨p, q, hA0, hV, rfl, hfz, hnd⟩ := hW
  have hA : DataW.TrodAll enc Try.prog W 0 (fun _ => true) true Try.f9.params.toList args.toList ds p := hA0
  rw [Try.params9] at hA hval
  obtain ⟨v0, vs0, d0, ds0, p0, q0, hargs, rfl, rfl, h0, r0⟩ := trodAll_cons hA
  obtain ⟨v1, vs1, d1, ds1, p1, q1, rfl, rfl, rfl, h1, r1⟩ := trodAll_cons r0
  obtain ⟨rfl, rfl, rfl⟩ := trodAll_nil r1
  obtain rfl : args = #[v0, v1] := by cases args; simp_all
  obtain ⟨rfl, rfl⟩ := trodVars_none hV
  have k0 := h0
  have lt0 : ∀ x ∈ p0, x.block < W.heap.size := by obtain ⟨m, hm⟩ := k0; exact DataW.trod_lt m _ _ _ hm
  have k1 := h1
  have lt1 : ∀ x ∈ p1, x.block < W.heap.size := by obtain ⟨m, hm⟩ := k1; exact DataW.trod_lt m _ _ _ hm
  obtain ⟨a0, len0, cap0, rfl⟩ := okWide_slice Try.underlying34 (hval 0 34 v0 rfl rfl)
  obtain ⟨xs0, rfl, w0⟩ : ∃ xs : List Int, xs.length = len0 ∧ Rd W a0 xs ∧ xs.length ≤ maxLen := by
    obtain ⟨fuel, hf⟩ := h0
    rcases open_ints Try.underlying34 Try.underlying3 (by kernel_rfl) hf with ⟨hcs, _⟩ | ⟨x, l, c, zs, hcs, _, hl, hm, hz, _, hcell, hwz⟩
    · simp [Value.cells] at hcs
      obtain ⟨rfl, rfl, rfl⟩ := hcs
      exact ⟨[], rfl, Rd.nil _ _, Nat.zero_le _⟩
    · simp [Value.cells] at hcs
      obtain ⟨rfl, rfl, rfl⟩ := hcs
      have hz' : zs.length = cap0 := by simpa using hz
      refine ⟨zs.take len0, by rw [List.length_take]; omega, rd_of_cells hcell _, by rw [List.length_take]; omega⟩
  obtain ⟨a1, len1, cap1, rfl⟩ := okWide_slice Try.underlying34 (hval 1 34 v1 rfl rfl)
  obtain ⟨xs1, rfl, w1⟩ : ∃ xs : List Int, xs.length = len1 ∧ Rd W a1 xs ∧ xs.length ≤ maxLen := by
    obtain ⟨fuel, hf⟩ := h1
    rcases open_ints Try.underlying34 Try.underlying3 (by kernel_rfl) hf with ⟨hcs, _⟩ | ⟨x, l, c, zs, hcs, _, hl, hm, hz, _, hcell, hwz⟩
    · simp [Value.cells] at hcs
      obtain ⟨rfl, rfl, rfl⟩ := hcs
      exact ⟨[], rfl, Rd.nil _ _, Nat.zero_le _⟩
    · simp [Value.cells] at hcs
      obtain ⟨rfl, rfl, rfl⟩ := hcs
      have hz' : zs.length = cap1 := by simpa using hz
      refine ⟨zs.take len1, by rw [List.length_take]; omega, rd_of_cells hcell _, by rw [List.length_take]; omega⟩
  clear hA0 hval0
  refine (walk a0 cap0 xs0 a1 cap1 xs1 W w0 w1).mono fun e W' ⟨he, bel⟩ => ?_
  subst he
  exact ⟨_, rfl, _, _, _, [], _, [], hW', trodAll_mk1 (shut_bool Try.underlying4 _), (trodAll_cons_mk (Below.trod laidOut (by kernel_rfl) (of_decide_eq_true (by kernel_rfl)) k0 bel lt0) (trodAll_cons_mk (Below.trod laidOut (by kernel_rfl) (of_decide_eq_true (by kernel_rfl)) k1 bel lt1) trodAll_mk0)), rfl, bel.frame _, fun h => by cases h⟩

theorem over : Rows.fnExactNatDivRow.holds Try.pinned (OpenSpec.ofChange Rows.fnExactNatDivSpec) :=
  OpenClaim.holds_of_wide 9 Try.f9 rfl rfl rfl rfl rfl rfl rfl ⟨rfl, rfl, rfl, rfl, rfl⟩ rfl rfl rfl rfl rfl (by kernel_rfl) Try.func9 (by kernel_rfl)
    (of_decide_eq_true (by kernel_rfl)) (by unfold Func.isWrapper; first | (rw [if_pos (by decide +kernel)]; kernel_rfl) | (rw [if_neg (by decide +kernel)]; exact ⟨rfl, rfl⟩))
    (fun os started H enc _ => lifted os started H enc)

theorem proved : Rows.FnExactNatDivSaid := over
#print axioms proved
end Go.Proofs.Ythjcdcmhgghliaa.fnExactNatDiv
