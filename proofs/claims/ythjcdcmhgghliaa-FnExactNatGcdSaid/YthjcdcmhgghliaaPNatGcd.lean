/- The law FnExactNatGcd answers true at every input. No condition. (The walk is printed by gen_law.py off the law's text.) -/
import Derived.Test.YthjcdcmhgghliaaRows
import Derived.Test.YthjcdcmhgghliaaWDivS
import Derived.Test.YthjcdcmhgghliaaWDivI
import Derived.Test.YthjcdcmhgghliaaWEqInt
import Derived.Test.YthjcdcmhgghliaaWMark
import Derived.ProofKit
import Derived.OpenShut
import Derived.ShutString
import Derived.ChangeOld
import Derived.Lib.SmallJoins
import Derived.Deep.RegionWith
import Derived.Deep.DeepCutAuto
import Derived.Below
namespace Go.Proofs.Ythjcdcmhgghliaa.fnExactNatGcd
open Go.ChangeShapes Go.WideShapes Go.ChangeAt Go.RowKit
open Go.ChangeMaps (open_string shut_string)
set_option linter.unusedVariables false

set_option maxHeartbeats 4000000 in
theorem walk (a0 : Option Addr) (c0 : Nat) (xs0 : List Int) (a1 : Option Addr) (c1 : Nat) (xs1 : List Int) (w : World) (hp0 : Rd w a0 xs0 ∧ xs0.length ≤ maxLen) (hp1 : Rd w a1 xs1 ∧ xs1.length ≤ maxLen) :
    Calls Try.prog 10 #[.slice a0 xs0.length c0, .slice a1 xs1.length c1] w fun e w' => e = .returned (.bool true) ∧ Below w.heap.size w w' := by
  have hb0 := Below.refl w.heap.size w
  have hm0 := hp0.2
  unfold maxLen at hm0
  have hm1 := hp1.2
  unfold maxLen at hm1
  by_cases hl0 : 1048576 < xs0.length
  · go_enter Try.func10, Try.ntmps10
    go_wp2
    go_ret
    exact ⟨rfl, Below.refl _ _⟩
  by_cases hl1 : 1048576 < xs1.length
  · go_enter Try.func10, Try.ntmps10
    go_wp2
    go_ret
    exact ⟨rfl, Below.refl _ _⟩
  go_enter Try.func10, Try.ntmps10
  go_wp2_with fail
  refine (toIntS_any _ _ _ _ (hp0.1.below hb0 (Nat.le_refl _)) (by omega)).mono ?_
  rintro e w1 ⟨⟨ad1, cp2, rfl, ho3⟩, hb⟩
  have s4 := Slot.of ho3
  have lc5 := (ho3.inn (by omega)).2.1
  clear ho3
  have zw1 : w.heap.size ≤ w1.heap.size := hb.size
  replace hb0 := hb0.trans (hb.mono hb0.size)
  clear hb
  go_wp2_with fail
  refine (toIntS_any _ _ _ _ (hp1.1.below hb0 (Nat.le_refl _)) (by omega)).mono ?_
  rintro e w2 ⟨⟨ad6, cp7, rfl, ho8⟩, hb⟩
  have s9 := Slot.of ho8
  have lc10 := (ho8.inn (by omega)).2.1
  clear ho8
  have zw2 : w1.heap.size ≤ w2.heap.size := hb.size
  replace s4 := s4.below hb s4.1
  replace hb0 := hb0.trans (hb.mono hb0.size)
  clear hb
  go_wp2_with fail
  refine (spec_NatGcd _ _ _ _ _ _ _ ⟨s4.rd, lc5, (by omega)⟩ ⟨s9.rd, lc10, (by omega)⟩).mono ?_
  rintro e w3 ⟨⟨ad11, cp12, rfl, ho13, hn14⟩, hb⟩
  have s15 := Slot.of ho13
  have lc16 := (ho13.inn (by omega)).2.1
  clear ho13
  have zw3 : w2.heap.size ≤ w3.heap.size := hb.size
  replace hb0 := hb0.trans (hb.mono hb0.size)
  clear hb
  go_wp2_with fail
  refine (toIntS_any _ _ _ _ (hp0.1.below hb0 (Nat.le_refl _)) (by omega)).mono ?_
  rintro e w4 ⟨⟨ad17, cp18, rfl, ho19⟩, hb⟩
  have s20 := Slot.of ho19
  have lc21 := (ho19.inn (by omega)).2.1
  clear ho19
  have zw4 : w3.heap.size ≤ w4.heap.size := hb.size
  replace s15 := s15.below hb s15.1
  replace hb0 := hb0.trans (hb.mono hb0.size)
  clear hb
  go_wp2_with fail
  refine (toIntS_any _ _ _ _ (hp1.1.below hb0 (Nat.le_refl _)) (by omega)).mono ?_
  rintro e w5 ⟨⟨ad22, cp23, rfl, ho24⟩, hb⟩
  have s25 := Slot.of ho24
  have lc26 := (ho24.inn (by omega)).2.1
  clear ho24
  have zw5 : w4.heap.size ≤ w5.heap.size := hb.size
  replace s15 := s15.below hb s15.1
  replace s20 := s20.below hb s20.1
  replace hb0 := hb0.trans (hb.mono hb0.size)
  clear hb
  go_wp2_with fail
  refine (impl_NatGcd _ _ _ _ _ _ _ ⟨s20.rd, lc21, (by omega)⟩ ⟨s25.rd, lc26, (by omega)⟩).mono ?_
  rintro e w6 ⟨⟨ad27, cp28, rfl, ho29, hn30⟩, hb⟩
  have s31 := Slot.of ho29
  have lc32 := (ho29.inn (by omega)).2.1
  clear ho29
  have zw6 : w5.heap.size ≤ w6.heap.size := hb.size
  replace s15 := s15.below hb s15.1
  replace s20 := s20.below hb s20.1
  replace s25 := s25.below hb s25.1
  replace hb0 := hb0.trans (hb.mono hb0.size)
  clear hb
  go_wp2_with fail
  refine (eqIntS_same _ _ _ _ _ _ s31.rd s15.rd (by omega)).mono ?_
  rintro e w7 ⟨rfl, hb⟩
  have zw7 : w6.heap.size ≤ w7.heap.size := hb.size
  replace s15 := s15.below hb s15.1
  replace s20 := s20.below hb s20.1
  replace s25 := s25.below hb s25.1
  replace s31 := s31.below hb s31.1
  replace hb0 := hb0.trans (hb.mono hb0.size)
  clear hb
  go_wp2_with fail
  refine (toIntS_any _ _ _ _ (hp0.1.below hb0 (Nat.le_refl _)) (by omega)).mono ?_
  rintro e w8 ⟨⟨ad33, cp34, rfl, ho35⟩, hb⟩
  have s36 := Slot.of ho35
  have lc37 := (ho35.inn (by omega)).2.1
  clear ho35
  have zw8 : w7.heap.size ≤ w8.heap.size := hb.size
  replace s15 := s15.below hb s15.1
  replace s20 := s20.below hb s20.1
  replace s25 := s25.below hb s25.1
  replace s31 := s31.below hb s31.1
  replace hb0 := hb0.trans (hb.mono hb0.size)
  clear hb
  go_wp2_with fail
  refine (eqIntS_same _ _ _ _ _ _ s20.rd s36.rd (by omega)).mono ?_
  rintro e w9 ⟨rfl, hb⟩
  have zw9 : w8.heap.size ≤ w9.heap.size := hb.size
  replace s15 := s15.below hb s15.1
  replace s20 := s20.below hb s20.1
  replace s25 := s25.below hb s25.1
  replace s31 := s31.below hb s31.1
  replace hb0 := hb0.trans (hb.mono hb0.size)
  clear hb
  go_wp2_with fail
  refine (toIntS_any _ _ _ _ (hp1.1.below hb0 (Nat.le_refl _)) (by omega)).mono ?_
  rintro e w10 ⟨⟨ad38, cp39, rfl, ho40⟩, hb⟩
  have s41 := Slot.of ho40
  have lc42 := (ho40.inn (by omega)).2.1
  clear ho40
  have zw10 : w9.heap.size ≤ w10.heap.size := hb.size
  replace s15 := s15.below hb s15.1
  replace s20 := s20.below hb s20.1
  replace s25 := s25.below hb s25.1
  replace s31 := s31.below hb s31.1
  replace hb0 := hb0.trans (hb.mono hb0.size)
  clear hb
  go_wp2_with fail
  refine (eqIntS_same _ _ _ _ _ _ s25.rd s41.rd (by omega)).mono ?_
  rintro e w11 ⟨rfl, hb⟩
  have zw11 : w10.heap.size ≤ w11.heap.size := hb.size
  replace s15 := s15.below hb s15.1
  replace s20 := s20.below hb s20.1
  replace s25 := s25.below hb s25.1
  replace s31 := s31.below hb s31.1
  replace hb0 := hb0.trans (hb.mono hb0.size)
  clear hb
  go_wp2_with fail
  refine (markIntS_any _ _ _ _ _ _ _ s20 (by omega) (by omega)).mono ?_
  rintro e w12 ⟨rfl, s43, hw⟩
  replace s15 := s15.wr hw (by omega)
  replace s25 := s25.wr hw (by omega)
  replace s31 := s31.wr hw (by omega)
  clear s20
  replace hb0 := below_wr hb0 hw (by omega) hb0.size
  have zw12 : w11.heap.size ≤ w12.heap.size := hw.size
  clear hw
  go_wp2_with fail
  refine (markIntS_any _ _ _ _ _ _ _ s25 (by omega) (by omega)).mono ?_
  rintro e w13 ⟨rfl, s44, hw⟩
  replace s15 := s15.wr hw (by omega)
  replace s43 := s43.wr hw (by omega)
  replace s31 := s31.wr hw (by omega)
  clear s25
  replace hb0 := below_wr hb0 hw (by omega) hb0.size
  have zw13 : w12.heap.size ≤ w13.heap.size := hw.size
  clear hw
  go_wp2_with fail
  refine (eqIntS_same _ _ _ _ _ _ s31.rd s15.rd (by omega)).mono ?_
  rintro e w14 ⟨rfl, hb⟩
  have zw14 : w13.heap.size ≤ w14.heap.size := hb.size
  replace s15 := s15.below hb s15.1
  replace s43 := s43.below hb s43.1
  replace s44 := s44.below hb s44.1
  replace s31 := s31.below hb s31.1
  replace hb0 := hb0.trans (hb.mono hb0.size)
  clear hb
  go_wp2_with fail
  refine (markIntS_any _ _ _ _ _ _ _ s31 (by omega) (by omega)).mono ?_
  rintro e w15 ⟨rfl, s45, hw⟩
  replace s15 := s15.wr hw (by omega)
  replace s43 := s43.wr hw (by omega)
  replace s44 := s44.wr hw (by omega)
  clear s31
  replace hb0 := below_wr hb0 hw (by omega) hb0.size
  have zw15 : w14.heap.size ≤ w15.heap.size := hw.size
  clear hw
  go_wp2_with fail
  refine (heldIntS_any _ _ _ _ _ s45.rd (by omega) (by omega)).mono ?_
  rintro e w16 ⟨rfl, rfl⟩
  go_wp2_with fail
  refine (toIntS_any _ _ _ _ (hp0.1.below hb0 (Nat.le_refl _)) (by omega)).mono ?_
  rintro e w17 ⟨⟨ad46, cp47, rfl, ho48⟩, hb⟩
  have s49 := Slot.of ho48
  have lc50 := (ho48.inn (by omega)).2.1
  clear ho48
  have zw17 : w15.heap.size ≤ w17.heap.size := hb.size
  replace s15 := s15.below hb s15.1
  replace s43 := s43.below hb s43.1
  replace s44 := s44.below hb s44.1
  replace s45 := s45.below hb s45.1
  replace hb0 := hb0.trans (hb.mono hb0.size)
  clear hb
  go_wp2_with fail
  refine (toIntS_any _ _ _ _ (hp1.1.below hb0 (Nat.le_refl _)) (by omega)).mono ?_
  rintro e w18 ⟨⟨ad51, cp52, rfl, ho53⟩, hb⟩
  have s54 := Slot.of ho53
  have lc55 := (ho53.inn (by omega)).2.1
  clear ho53
  have zw18 : w17.heap.size ≤ w18.heap.size := hb.size
  replace s15 := s15.below hb s15.1
  replace s43 := s43.below hb s43.1
  replace s44 := s44.below hb s44.1
  replace s45 := s45.below hb s45.1
  replace s49 := s49.below hb s49.1
  replace hb0 := hb0.trans (hb.mono hb0.size)
  clear hb
  go_wp2_with fail
  refine (impl_NatGcd _ _ _ _ _ _ _ ⟨s49.rd, lc50, (by omega)⟩ ⟨s54.rd, lc55, (by omega)⟩).mono ?_
  rintro e w19 ⟨⟨ad56, cp57, rfl, ho58, hn59⟩, hb⟩
  have s60 := Slot.of ho58
  have lc61 := (ho58.inn (by omega)).2.1
  clear ho58
  have zw19 : w18.heap.size ≤ w19.heap.size := hb.size
  replace s15 := s15.below hb s15.1
  replace s43 := s43.below hb s43.1
  replace s44 := s44.below hb s44.1
  replace s45 := s45.below hb s45.1
  replace hb0 := hb0.trans (hb.mono hb0.size)
  clear hb
  go_wp2_with fail
  refine (eqIntS_same _ _ _ _ _ _ s60.rd s15.rd (by omega)).mono ?_
  rintro e w20 ⟨rfl, hb⟩
  have zw20 : w19.heap.size ≤ w20.heap.size := hb.size
  replace s15 := s15.below hb s15.1
  replace s43 := s43.below hb s43.1
  replace s44 := s44.below hb s44.1
  replace s45 := s45.below hb s45.1
  replace s60 := s60.below hb s60.1
  replace hb0 := hb0.trans (hb.mono hb0.size)
  clear hb
  go_wp2_with fail
  refine (heldIntS_any _ _ _ _ _ s45.rd (by omega) (by omega)).mono ?_
  rintro e w21 ⟨rfl, rfl⟩
  go_wp2
  go_ret
  exact ⟨rfl, hb0⟩

theorem own : ownKnob Try.prog.godebug = none := by kernel_rfl
theorem laidOut : laidOutB Try.prog = true := by kernel_rfl
set_option maxRecDepth 100000 in
theorem lifted (os : Os) (started : os.Started) (H : Type) (enc : TypeId × Value → H) :
    ReturnsInHanded {} Try.checked os 10 .any (Rows.fnExactNatGcdSpec.pre6 enc Try.prog Try.f10 Rows.fnExactNatGcdRow.domain false) (Rows.fnExactNatGcdSpec.post enc Try.prog Try.f10 false true false false) := by
  refine returnsInHanded_of_change (C := Try.checked) own started (by kernel_rfl) Try.func10
    (ChangeSpec.witness6 (enc := enc) (C := Try.checked) false ⟨#[], #[.slice none 0 0, .slice none 0 0], []⟩ 8 (by kernel_rfl) (by kernel_rfl) (by kernel_rfl) (by kernel_rfl)) ?_
  intro W base args ds gs before hval0 hW hcnd _
  have hval : ∀ (j : Nat) t v, Try.f10.params[j]? = some t → args[j]? = some v → Value.okWide Try.prog W .any base t v := hval0
  have hW' := hW
  obtain ⟨p, q, hA0, hV, rfl, hfz, hnd⟩ := hW
  have hA : DataW.TrodAll enc Try.prog W 0 (fun _ => true) true Try.f10.params.toList args.toList ds p := hA0
  rw [Try.params10] at hA hval
  obtain ⟨v0, vs0, d0, ds0, p0, q0, hargs, rfl, rfl, h0, r0⟩ := trodAll_cons hA
  obtain ⟨v1, vs1, d1, ds1, p1, q1, rfl, rfl, rfl, h1, r1⟩ := trodAll_cons r0
  obtain ⟨rfl, rfl, rfl⟩ := trodAll_nil r1
  obtain rfl : args = #[v0, v1] := by cases args; simp_all
  obtain ⟨rfl, rfl⟩ := trodVars_none hV
  have k0 := h0
  have lt0 : ∀ x ∈ p0, x.block < W.heap.size := by obtain ⟨m, hm⟩ := k0; exact DataW.trod_lt m _ _ _ hm
  have k1 := h1
  have lt1 : ∀ x ∈ p1, x.block < W.heap.size := by obtain ⟨m, hm⟩ := k1; exact DataW.trod_lt m _ _ _ hm
  obtain ⟨a0, len0, cap0, rfl⟩ := okWide_slice Try.underlying34 (hval 0 34 v0 rfl rfl)
  obtain ⟨xs0, rfl, w0⟩ : ∃ xs : List Int, xs.length = len0 ∧ Rd W a0 xs ∧ xs.length ≤ maxLen := by
    obtain ⟨fuel, hf⟩ := h0
    rcases open_ints Try.underlying34 Try.underlying3 (by kernel_rfl) hf with ⟨hcs, _⟩ | ⟨x, l, c, zs, hcs, _, hl, hm, hz, _, hcell, hwz⟩
    · simp [Value.cells] at hcs
      obtain ⟨rfl, rfl, rfl⟩ := hcs
      exact ⟨[], rfl, Rd.nil _ _, Nat.zero_le _⟩
    · simp [Value.cells] at hcs
      obtain ⟨rfl, rfl, rfl⟩ := hcs
      have hz' : zs.length = cap0 := by simpa using hz
      refine ⟨zs.take len0, by rw [List.length_take]; omega, rd_of_cells hcell _, by rw [List.length_take]; omega⟩
  obtain ⟨a1, len1, cap1, rfl⟩ := okWide_slice Try.underlying34 (hval 1 34 v1 rfl rfl)
  obtain ⟨xs1, rfl, w1⟩ : ∃ xs : List Int, xs.length = len1 ∧ Rd W a1 xs ∧ xs.length ≤ maxLen := by
    obtain ⟨fuel, hf⟩ := h1
    rcases open_ints Try.underlying34 Try.underlying3 (by kernel_rfl) hf with ⟨hcs, _⟩ | ⟨x, l, c, zs, hcs, _, hl, hm, hz, _, hcell, hwz⟩
    · simp [Value.cells] at hcs
      obtain ⟨rfl, rfl, rfl⟩ := hcs
      exact ⟨[], rfl, Rd.nil _ _, Nat.zero_le _⟩
    · simp [Value.cells] at hcs
      obtain ⟨rfl, rfl, rfl⟩ := hcs
      have hz' : zs.length = cap1 := by simpa using hz
      refine ⟨zs.take len1, by rw [List.length_take]; omega, rd_of_cells hcell _, by rw [List.length_take]; omega⟩
  clear hA0 hval0
  refine (walk a0 cap0 xs0 a1 cap1 xs1 W w0 w1).mono fun e W' ⟨he, bel⟩ => ?_
  subst he
  exact ⟨_, rfl, _, _, _, [], _, [], hW', trodAll_mk1 (shut_bool Try.underlying4 _), (trodAll_cons_mk (Below.trod laidOut (by kernel_rfl) (of_decide_eq_true (by kernel_rfl)) k0 bel lt0) (trodAll_cons_mk (Below.trod laidOut (by kernel_rfl) (of_decide_eq_true (by kernel_rfl)) k1 bel lt1) trodAll_mk0)), rfl, bel.frame _, fun h => by cases h⟩

theorem over : Rows.fnExactNatGcdRow.holds Try.pinned (OpenSpec.ofChange Rows.fnExactNatGcdSpec) :=
  OpenClaim.holds_of_wide 10 Try.f10 rfl rfl rfl rfl rfl rfl rfl ⟨rfl, rfl, rfl, rfl, rfl⟩ rfl rfl rfl rfl rfl (by kernel_rfl) Try.func10 (by kernel_rfl)
    (of_decide_eq_true (by kernel_rfl)) (by unfold Func.isWrapper; first | (rw [if_pos (by decide +kernel)]; kernel_rfl) | (rw [if_neg (by decide +kernel)]; exact ⟨rfl, rfl⟩))
    (fun os started H enc _ => lifted os started H enc)

theorem proved : Rows.FnExactNatGcdSaid := over
#print axioms proved
end Go.Proofs.Ythjcdcmhgghliaa.fnExactNatGcd
