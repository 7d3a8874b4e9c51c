/- The law FnExactNatCut answers true at every input. No condition. (The walk is printed by gen_law.py off the law's text.) -/
import Derived.Test.YthjcdcmhgghliaaRows
import Derived.Test.YthjcdcmhgghliaaWDivS
import Derived.Test.YthjcdcmhgghliaaWDivI
import Derived.Test.YthjcdcmhgghliaaWEqInt
import Derived.Test.YthjcdcmhgghliaaWMark
import Derived.ProofKit
import Derived.OpenShut
import Derived.ShutString
import Derived.ChangeOld
import Derived.Lib.SmallJoins
import Derived.Deep.RegionWith
import Derived.Deep.DeepCutAuto
import Derived.Below
namespace Go.Proofs.Ythjcdcmhgghliaa.fnExactNatCut
open Go.ChangeShapes Go.WideShapes Go.ChangeAt Go.RowKit
open Go.ChangeMaps (open_string shut_string)
set_option linter.unusedVariables false

set_option maxHeartbeats 4000000 in
theorem walk (a0 : Option Addr) (c0 : Nat) (xs0 : List Int) (a1 : Int) (w : World) (hp0 : Rd w a0 xs0 ∧ xs0.length ≤ maxLen) (hw1 : (Lit.int .i64 a1).wf = true) :
    Calls Try.prog 11 #[.slice a0 xs0.length c0, .int .i64 a1] w fun e w' => e = .returned (.bool true) ∧ Below w.heap.size w w' := by
  have hb0 := Below.refl w.heap.size w
  have hm0 := hp0.2
  unfold maxLen at hm0
  have hp1 := rng_of hw1
  by_cases hl0 : 1048576 < xs0.length
  · go_enter Try.func11, Try.ntmps11
    go_wp2
    go_ret
    exact ⟨rfl, Below.refl _ _⟩
  go_enter Try.func11, Try.ntmps11
  go_wp2_with fail
  refine (toIntS_any _ _ _ _ (hp0.1.below hb0 (Nat.le_refl _)) (by omega)).mono ?_
  rintro e w1 ⟨⟨ad1, cp2, rfl, ho3⟩, hb⟩
  have s4 := Slot.of ho3
  have lc5 := (ho3.inn (by omega)).2.1
  clear ho3
  have zw1 : w.heap.size ≤ w1.heap.size := hb.size
  replace hb0 := hb0.trans (hb.mono hb0.size)
  clear hb
  go_wp2_with fail
  refine (spec_NatCut _ _ _ _ _ ⟨s4.rd, lc5, (by omega)⟩ hp1).mono ?_
  rintro e w2 ⟨⟨ad6, cp7, ad8, cp9, rfl, ho10, hn11, ho12, hn13⟩, hb⟩
  have s14 := Slot.of ho10
  have lc15 := (ho10.inn (by omega)).2.1
  clear ho10
  have s16 := Slot.of ho12
  have lc17 := (ho12.inn (by omega)).2.1
  clear ho12
  have zw2 : w1.heap.size ≤ w2.heap.size := hb.size
  replace hb0 := hb0.trans (hb.mono hb0.size)
  clear hb
  go_wp2_with fail
  refine (toIntS_any _ _ _ _ (hp0.1.below hb0 (Nat.le_refl _)) (by omega)).mono ?_
  rintro e w3 ⟨⟨ad18, cp19, rfl, ho20⟩, hb⟩
  have s21 := Slot.of ho20
  have lc22 := (ho20.inn (by omega)).2.1
  clear ho20
  have zw3 : w2.heap.size ≤ w3.heap.size := hb.size
  replace s14 := s14.below hb s14.1
  replace s16 := s16.below hb s16.1
  replace hb0 := hb0.trans (hb.mono hb0.size)
  clear hb
  go_wp2_with fail
  refine (impl_NatCut _ _ _ _ _ ⟨s21.rd, lc22, (by omega)⟩ hp1).mono ?_
  rintro e w4 ⟨⟨ad23, cp24, ad25, cp26, lo27, up28, lo29, up30, rfl, s31, hn32, s33, hn34, g35, g36, d37⟩, hb⟩
  have s31u := s31.1
  have s33u := s33.1
  have zw4 : w3.heap.size ≤ w4.heap.size := hb.size
  replace s14 := s14.below hb s14.1
  replace s16 := s16.below hb s16.1
  replace s21 := s21.below hb s21.1
  replace hb0 := hb0.trans (hb.mono hb0.size)
  clear hb
  go_wp2_with fail
  refine (eqIntS_same _ _ _ _ _ _ s31.rd s14.rd (by omega)).mono ?_
  rintro e w5 ⟨rfl, hb⟩
  have zw5 : w4.heap.size ≤ w5.heap.size := hb.size
  replace s14 := s14.below hb s14.1
  replace s16 := s16.below hb s16.1
  replace s21 := s21.below hb s21.1
  replace s31 := s31.below hb s31.1
  replace s33 := s33.below hb s33.1
  replace hb0 := hb0.trans (hb.mono hb0.size)
  clear hb
  go_wp2_with fail
  refine (eqIntS_same _ _ _ _ _ _ s33.rd s16.rd (by omega)).mono ?_
  rintro e w6 ⟨rfl, hb⟩
  have zw6 : w5.heap.size ≤ w6.heap.size := hb.size
  replace s14 := s14.below hb s14.1
  replace s16 := s16.below hb s16.1
  replace s21 := s21.below hb s21.1
  replace s31 := s31.below hb s31.1
  replace s33 := s33.below hb s33.1
  replace hb0 := hb0.trans (hb.mono hb0.size)
  clear hb
  go_wp2_with fail
  refine (toIntS_any _ _ _ _ (hp0.1.below hb0 (Nat.le_refl _)) (by omega)).mono ?_
  rintro e w7 ⟨⟨ad38, cp39, rfl, ho40⟩, hb⟩
  have s41 := Slot.of ho40
  have lc42 := (ho40.inn (by omega)).2.1
  clear ho40
  have zw7 : w6.heap.size ≤ w7.heap.size := hb.size
  replace s14 := s14.below hb s14.1
  replace s16 := s16.below hb s16.1
  replace s21 := s21.below hb s21.1
  replace s31 := s31.below hb s31.1
  replace s33 := s33.below hb s33.1
  replace hb0 := hb0.trans (hb.mono hb0.size)
  clear hb
  go_wp2_with fail
  refine (eqIntS_same _ _ _ _ _ _ s21.rd s41.rd (by omega)).mono ?_
  rintro e w8 ⟨rfl, hb⟩
  have zw8 : w7.heap.size ≤ w8.heap.size := hb.size
  replace s14 := s14.below hb s14.1
  replace s16 := s16.below hb s16.1
  replace s21 := s21.below hb s21.1
  replace s31 := s31.below hb s31.1
  replace s33 := s33.below hb s33.1
  replace hb0 := hb0.trans (hb.mono hb0.size)
  clear hb
  go_wp2_with fail
  refine (markIntS_any _ _ _ _ _ _ _ s21 (by omega) (by omega)).mono ?_
  rintro e w9 ⟨rfl, s43, hw⟩
  replace s14 := s14.wr hw (by omega)
  replace s16 := s16.wr hw (by omega)
  replace s31 := s31.wr hw (by omega)
  replace s33 := s33.wr hw (by omega)
  clear s21
  replace hb0 := below_wr hb0 hw (by omega) hb0.size
  have zw9 : w8.heap.size ≤ w9.heap.size := hw.size
  clear hw
  go_wp2_with fail
  refine (eqIntS_same _ _ _ _ _ _ s31.rd s14.rd (by omega)).mono ?_
  rintro e w10 ⟨rfl, hb⟩
  have zw10 : w9.heap.size ≤ w10.heap.size := hb.size
  replace s14 := s14.below hb s14.1
  replace s16 := s16.below hb s16.1
  replace s43 := s43.below hb s43.1
  replace s31 := s31.below hb s31.1
  replace s33 := s33.below hb s33.1
  replace hb0 := hb0.trans (hb.mono hb0.size)
  clear hb
  go_wp2_with fail
  refine (eqIntS_same _ _ _ _ _ _ s33.rd s16.rd (by omega)).mono ?_
  rintro e w11 ⟨rfl, hb⟩
  have zw11 : w10.heap.size ≤ w11.heap.size := hb.size
  replace s14 := s14.below hb s14.1
  replace s16 := s16.below hb s16.1
  replace s43 := s43.below hb s43.1
  replace s31 := s31.below hb s31.1
  replace s33 := s33.below hb s33.1
  replace hb0 := hb0.trans (hb.mono hb0.size)
  clear hb
  go_wp2_with fail
  refine (markIntS_any _ _ _ _ _ _ _ s31 (by omega) (by omega)).mono ?_
  rintro e w12 ⟨rfl, s44, hw⟩
  replace s14 := s14.wr hw (by omega)
  replace s16 := s16.wr hw (by omega)
  replace s43 := s43.wr hw (by omega)
  replace s33 := s33.wr hw (by omega)
  clear s31
  replace hb0 := below_wr hb0 hw (by omega) hb0.size
  have zw12 : w11.heap.size ≤ w12.heap.size := hw.size
  clear hw
  go_wp2_with fail
  refine (markIntS_any _ _ _ _ _ _ _ s33 (by omega) (by omega)).mono ?_
  rintro e w13 ⟨rfl, s45, hw⟩
  replace s14 := s14.wr hw (by omega)
  replace s16 := s16.wr hw (by omega)
  replace s43 := s43.wr hw (by omega)
  replace s44 := s44.wr hw (by omega)
  clear s33
  replace hb0 := below_wr hb0 hw (by omega) hb0.size
  have zw13 : w12.heap.size ≤ w13.heap.size := hw.size
  clear hw
  go_wp2_with fail
  refine (heldIntS_any _ _ _ _ _ s44.rd (by omega) (by omega)).mono ?_
  rintro e w14 ⟨rfl, rfl⟩
  go_wp2_with fail
  refine (heldIntS_any _ _ _ _ _ s45.rd (by omega) (by omega)).mono ?_
  rintro e w15 ⟨rfl, rfl⟩
  go_wp2_with fail
  refine (toIntS_any _ _ _ _ (hp0.1.below hb0 (Nat.le_refl _)) (by omega)).mono ?_
  rintro e w16 ⟨⟨ad46, cp47, rfl, ho48⟩, hb⟩
  have s49 := Slot.of ho48
  have lc50 := (ho48.inn (by omega)).2.1
  clear ho48
  have zw16 : w13.heap.size ≤ w16.heap.size := hb.size
  replace s14 := s14.below hb s14.1
  replace s16 := s16.below hb s16.1
  replace s43 := s43.below hb s43.1
  replace s44 := s44.below hb s44.1
  replace s45 := s45.below hb s45.1
  replace hb0 := hb0.trans (hb.mono hb0.size)
  clear hb
  go_wp2_with fail
  refine (impl_NatCut _ _ _ _ _ ⟨s49.rd, lc50, (by omega)⟩ hp1).mono ?_
  rintro e w17 ⟨⟨ad51, cp52, ad53, cp54, lo55, up56, lo57, up58, rfl, s59, hn60, s61, hn62, g63, g64, d65⟩, hb⟩
  have s59u := s59.1
  have s61u := s61.1
  have zw17 : w16.heap.size ≤ w17.heap.size := hb.size
  replace s14 := s14.below hb s14.1
  replace s16 := s16.below hb s16.1
  replace s43 := s43.below hb s43.1
  replace s44 := s44.below hb s44.1
  replace s45 := s45.below hb s45.1
  replace hb0 := hb0.trans (hb.mono hb0.size)
  clear hb
  go_wp2_with fail
  refine (eqIntS_same _ _ _ _ _ _ s59.rd s14.rd (by omega)).mono ?_
  rintro e w18 ⟨rfl, hb⟩
  have zw18 : w17.heap.size ≤ w18.heap.size := hb.size
  replace s14 := s14.below hb s14.1
  replace s16 := s16.below hb s16.1
  replace s43 := s43.below hb s43.1
  replace s44 := s44.below hb s44.1
  replace s45 := s45.below hb s45.1
  replace s59 := s59.below hb s59.1
  replace s61 := s61.below hb s61.1
  replace hb0 := hb0.trans (hb.mono hb0.size)
  clear hb
  go_wp2_with fail
  refine (eqIntS_same _ _ _ _ _ _ s61.rd s16.rd (by omega)).mono ?_
  rintro e w19 ⟨rfl, hb⟩
  have zw19 : w18.heap.size ≤ w19.heap.size := hb.size
  replace s14 := s14.below hb s14.1
  replace s16 := s16.below hb s16.1
  replace s43 := s43.below hb s43.1
  replace s44 := s44.below hb s44.1
  replace s45 := s45.below hb s45.1
  replace s59 := s59.below hb s59.1
  replace s61 := s61.below hb s61.1
  replace hb0 := hb0.trans (hb.mono hb0.size)
  clear hb
  go_wp2_with fail
  refine (heldIntS_any _ _ _ _ _ s44.rd (by omega) (by omega)).mono ?_
  rintro e w20 ⟨rfl, rfl⟩
  go_wp2_with fail
  refine (heldIntS_any _ _ _ _ _ s45.rd (by omega) (by omega)).mono ?_
  rintro e w21 ⟨rfl, rfl⟩
  go_wp2
  go_ret
  exact ⟨rfl, hb0⟩

theorem own : ownKnob Try.prog.godebug = none := by kernel_rfl
theorem laidOut : laidOutB Try.prog = true := by kernel_rfl
set_option maxRecDepth 100000 in
theorem lifted (os : Os) (started : os.Started) (H : Type) (enc : TypeId × Value → H) :
    ReturnsInHanded {} Try.checked os 11 .any (Rows.fnExactNatCutSpec.pre6 enc Try.prog Try.f11 Rows.fnExactNatCutRow.domain false) (Rows.fnExactNatCutSpec.post enc Try.prog Try.f11 false true false false) := by
  refine returnsInHanded_of_change (C := Try.checked) own started (by kernel_rfl) Try.func11
    (ChangeSpec.witness6 (enc := enc) (C := Try.checked) false ⟨#[], #[.slice none 0 0, .int .i64 0], []⟩ 8 (by kernel_rfl) (by kernel_rfl) (by kernel_rfl) (by kernel_rfl)) ?_
  intro W base args ds gs before hval0 hW hcnd _
  have hval : ∀ (j : Nat) t v, Try.f11.params[j]? = some t → args[j]? = some v → Value.okWide Try.prog W .any base t v := hval0
  have hW' := hW
  obtain ⟨p, q, hA0, hV, rfl, hfz, hnd⟩ := hW
  have hA : DataW.TrodAll enc Try.prog W 0 (fun _ => true) true Try.f11.params.toList args.toList ds p := hA0
  rw [Try.params11] at hA hval
  obtain ⟨v0, vs0, d0, ds0, p0, q0, hargs, rfl, rfl, h0, r0⟩ := trodAll_cons hA
  obtain ⟨v1, vs1, d1, ds1, p1, q1, rfl, rfl, rfl, h1, r1⟩ := trodAll_cons r0
  obtain ⟨rfl, rfl, rfl⟩ := trodAll_nil r1
  obtain rfl : args = #[v0, v1] := by cases args; simp_all
  obtain ⟨rfl, rfl⟩ := trodVars_none hV
  have k0 := h0
  have lt0 : ∀ x ∈ p0, x.block < W.heap.size := by obtain ⟨m, hm⟩ := k0; exact DataW.trod_lt m _ _ _ hm
  have k1 := h1
  have lt1 : ∀ x ∈ p1, x.block < W.heap.size := by obtain ⟨m, hm⟩ := k1; exact DataW.trod_lt m _ _ _ hm
  obtain ⟨a0, len0, cap0, rfl⟩ := okWide_slice Try.underlying34 (hval 0 34 v0 rfl rfl)
  obtain ⟨xs0, rfl, w0⟩ : ∃ xs : List Int, xs.length = len0 ∧ Rd W a0 xs ∧ xs.length ≤ maxLen := by
    obtain ⟨fuel, hf⟩ := h0
    rcases open_ints Try.underlying34 Try.underlying3 (by kernel_rfl) hf with ⟨hcs, _⟩ | ⟨x, l, c, zs, hcs, _, hl, hm, hz, _, hcell, hwz⟩
    · simp [Value.cells] at hcs
      obtain ⟨rfl, rfl, rfl⟩ := hcs
      exact ⟨[], rfl, Rd.nil _ _, Nat.zero_le _⟩
    · simp [Value.cells] at hcs
      obtain ⟨rfl, rfl, rfl⟩ := hcs
      have hz' : zs.length = cap0 := by simpa using hz
      refine ⟨zs.take len0, by rw [List.length_take]; omega, rd_of_cells hcell _, by rw [List.length_take]; omega⟩
  obtain ⟨a1, rfl, rfl, rfl, w1⟩ := open_int Try.underlying3 (hval 1 3 v1 rfl rfl) h1
  clear hA0 hval0
  refine (walk a0 cap0 xs0 a1 W w0 w1).mono fun e W' ⟨he, bel⟩ => ?_
  subst he
  exact ⟨_, rfl, _, _, _, [], _, [], hW', trodAll_mk1 (shut_bool Try.underlying4 _), (trodAll_cons_mk (Below.trod laidOut (by kernel_rfl) (of_decide_eq_true (by kernel_rfl)) k0 bel lt0) (trodAll_cons_mk (Below.trod laidOut (by kernel_rfl) (of_decide_eq_true (by kernel_rfl)) k1 bel lt1) trodAll_mk0)), rfl, bel.frame _, fun h => by cases h⟩

theorem over : Rows.fnExactNatCutRow.holds Try.pinned (OpenSpec.ofChange Rows.fnExactNatCutSpec) :=
  OpenClaim.holds_of_wide 11 Try.f11 rfl rfl rfl rfl rfl rfl rfl ⟨rfl, rfl, rfl, rfl, rfl⟩ rfl rfl rfl rfl rfl (by kernel_rfl) Try.func11 (by kernel_rfl)
    (of_decide_eq_true (by kernel_rfl)) (by unfold Func.isWrapper; first | (rw [if_pos (by decide +kernel)]; kernel_rfl) | (rw [if_neg (by decide +kernel)]; exact ⟨rfl, rfl⟩))
    (fun os started H enc _ => lifted os started H enc)

theorem proved : Rows.FnExactNatCutSaid := over
#print axioms proved
end Go.Proofs.Ythjcdcmhgghliaa.fnExactNatCut
