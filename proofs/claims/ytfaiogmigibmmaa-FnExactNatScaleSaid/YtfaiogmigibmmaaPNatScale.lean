/- The law FnExactNatScale answers true at every input. No condition. (The walk is printed by gen_law.py off the law's text.) -/
import Derived.Test.YtfaiogmigibmmaaRows
import Derived.Test.YtfaiogmigibmmaaWScale
import Derived.Test.YtfaiogmigibmmaaWEqInt
import Derived.Test.YtfaiogmigibmmaaWMark
import Derived.ProofKit
import Derived.OpenShut
import Derived.ShutString
import Derived.ChangeOld
import Derived.Below
namespace Go.Proofs.Ytfaiogmigibmmaa.fnExactNatScale
open Go.ChangeShapes Go.WideShapes Go.ChangeAt Go.RowKit
open Go.ChangeMaps (open_string shut_string)
set_option linter.unusedVariables false

set_option maxHeartbeats 4000000 in
theorem walk (a0 : Option Addr) (c0 : Nat) (xs0 : List Int) (a1 : Int) (w : World) (hp0 : Rd w a0 xs0 ∧ xs0.length ≤ maxLen) (hw1 : (Lit.int .i64 a1).wf = true) :
    Calls Try.prog 12 #[.slice a0 xs0.length c0, .int .i64 a1] w fun e w' => e = .returned (.bool true) ∧ Below w.heap.size w w' := by
  have hb0 := Below.refl w.heap.size w
  have hm0 := hp0.2
  unfold maxLen at hm0
  have hp1 := rng_of hw1
  by_cases hl0 : 1048576 < xs0.length
  · go_enter Try.func12, Try.ntmps12
    go_wp2
    go_ret
    exact ⟨rfl, Below.refl _ _⟩
  go_enter Try.func12, Try.ntmps12
  go_wp2_with fail
  refine (toIntS_any _ _ _ _ (hp0.1.below hb0 (Nat.le_refl _)) (by omega)).mono ?_
  rintro e w1 ⟨⟨ad1, cp2, rfl, ho3⟩, hb⟩
  have s4 := Slot.of ho3
  have lc5 := (ho3.inn (by omega)).2.1
  clear ho3
  have zw1 : w.heap.size ≤ w1.heap.size := hb.size
  replace hb0 := hb0.trans (hb.mono hb0.size)
  clear hb
  go_wp2_with fail
  refine (spec_NatScale _ _ _ _ _ ⟨s4.rd, lc5, (by omega)⟩ hp1).mono ?_
  rintro e w2 ⟨⟨ad6, cp7, rfl, ho8, hn9⟩, hb⟩
  have s10 := Slot.of ho8
  have lc11 := (ho8.inn (by omega)).2.1
  clear ho8
  have zw2 : w1.heap.size ≤ w2.heap.size := hb.size
  replace hb0 := hb0.trans (hb.mono hb0.size)
  clear hb
  go_wp2_with fail
  refine (toIntS_any _ _ _ _ (hp0.1.below hb0 (Nat.le_refl _)) (by omega)).mono ?_
  rintro e w3 ⟨⟨ad12, cp13, rfl, ho14⟩, hb⟩
  have s15 := Slot.of ho14
  have lc16 := (ho14.inn (by omega)).2.1
  clear ho14
  have zw3 : w2.heap.size ≤ w3.heap.size := hb.size
  replace s10 := s10.below hb s10.1
  replace hb0 := hb0.trans (hb.mono hb0.size)
  clear hb
  go_wp2_with fail
  refine (impl_NatScale _ _ _ _ _ ⟨s15.rd, lc16, (by omega)⟩ hp1).mono ?_
  rintro e w4 ⟨⟨ad17, cp18, rfl, ho19, hn20⟩, hb⟩
  have s21 := Slot.of ho19
  have lc22 := (ho19.inn (by omega)).2.1
  clear ho19
  have zw4 : w3.heap.size ≤ w4.heap.size := hb.size
  replace s10 := s10.below hb s10.1
  replace s15 := s15.below hb s15.1
  replace hb0 := hb0.trans (hb.mono hb0.size)
  clear hb
  go_wp2_with fail
  refine (eqIntS_same _ _ _ _ _ _ s21.rd s10.rd (by omega)).mono ?_
  rintro e w5 ⟨rfl, hb⟩
  have zw5 : w4.heap.size ≤ w5.heap.size := hb.size
  replace s10 := s10.below hb s10.1
  replace s15 := s15.below hb s15.1
  replace s21 := s21.below hb s21.1
  replace hb0 := hb0.trans (hb.mono hb0.size)
  clear hb
  go_wp2_with fail
  refine (toIntS_any _ _ _ _ (hp0.1.below hb0 (Nat.le_refl _)) (by omega)).mono ?_
  rintro e w6 ⟨⟨ad23, cp24, rfl, ho25⟩, hb⟩
  have s26 := Slot.of ho25
  have lc27 := (ho25.inn (by omega)).2.1
  clear ho25
  have zw6 : w5.heap.size ≤ w6.heap.size := hb.size
  replace s10 := s10.below hb s10.1
  replace s15 := s15.below hb s15.1
  replace s21 := s21.below hb s21.1
  replace hb0 := hb0.trans (hb.mono hb0.size)
  clear hb
  go_wp2_with fail
  refine (eqIntS_same _ _ _ _ _ _ s15.rd s26.rd (by omega)).mono ?_
  rintro e w7 ⟨rfl, hb⟩
  have zw7 : w6.heap.size ≤ w7.heap.size := hb.size
  replace s10 := s10.below hb s10.1
  replace s15 := s15.below hb s15.1
  replace s21 := s21.below hb s21.1
  replace hb0 := hb0.trans (hb.mono hb0.size)
  clear hb
  go_wp2_with fail
  refine (markIntS_any _ _ _ _ _ _ _ s15 (by omega) (by omega)).mono ?_
  rintro e w8 ⟨rfl, s28, hw⟩
  replace s10 := s10.wr hw (by omega)
  replace s21 := s21.wr hw (by omega)
  clear s15
  replace hb0 := below_wr hb0 hw (by omega)
  have zw8 : w7.heap.size ≤ w8.heap.size := Nat.le_of_eq hw.size.symm
  have yw8 : w8.heap.size ≤ w7.heap.size := Nat.le_of_eq hw.size
  clear hw
  go_wp2_with fail
  refine (eqIntS_same _ _ _ _ _ _ s21.rd s10.rd (by omega)).mono ?_
  rintro e w9 ⟨rfl, hb⟩
  have zw9 : w8.heap.size ≤ w9.heap.size := hb.size
  replace s10 := s10.below hb s10.1
  replace s28 := s28.below hb s28.1
  replace s21 := s21.below hb s21.1
  replace hb0 := hb0.trans (hb.mono hb0.size)
  clear hb
  go_wp2_with fail
  refine (markIntS_any _ _ _ _ _ _ _ s21 (by omega) (by omega)).mono ?_
  rintro e w10 ⟨rfl, s29, hw⟩
  replace s10 := s10.wr hw (by omega)
  replace s28 := s28.wr hw (by omega)
  clear s21
  replace hb0 := below_wr hb0 hw (by omega)
  have zw10 : w9.heap.size ≤ w10.heap.size := Nat.le_of_eq hw.size.symm
  have yw10 : w10.heap.size ≤ w9.heap.size := Nat.le_of_eq hw.size
  clear hw
  go_wp2_with fail
  refine (heldIntS_any _ _ _ _ _ s29.rd (by omega) (by omega)).mono ?_
  rintro e w11 ⟨rfl, rfl⟩
  go_wp2_with fail
  refine (toIntS_any _ _ _ _ (hp0.1.below hb0 (Nat.le_refl _)) (by omega)).mono ?_
  rintro e w12 ⟨⟨ad30, cp31, rfl, ho32⟩, hb⟩
  have s33 := Slot.of ho32
  have lc34 := (ho32.inn (by omega)).2.1
  clear ho32
  have zw12 : w10.heap.size ≤ w12.heap.size := hb.size
  replace s10 := s10.below hb s10.1
  replace s28 := s28.below hb s28.1
  replace s29 := s29.below hb s29.1
  replace hb0 := hb0.trans (hb.mono hb0.size)
  clear hb
  go_wp2_with fail
  refine (impl_NatScale _ _ _ _ _ ⟨s33.rd, lc34, (by omega)⟩ hp1).mono ?_
  rintro e w13 ⟨⟨ad35, cp36, rfl, ho37, hn38⟩, hb⟩
  have s39 := Slot.of ho37
  have lc40 := (ho37.inn (by omega)).2.1
  clear ho37
  have zw13 : w12.heap.size ≤ w13.heap.size := hb.size
  replace s10 := s10.below hb s10.1
  replace s28 := s28.below hb s28.1
  replace s29 := s29.below hb s29.1
  replace hb0 := hb0.trans (hb.mono hb0.size)
  clear hb
  go_wp2_with fail
  refine (eqIntS_same _ _ _ _ _ _ s39.rd s10.rd (by omega)).mono ?_
  rintro e w14 ⟨rfl, hb⟩
  have zw14 : w13.heap.size ≤ w14.heap.size := hb.size
  replace s10 := s10.below hb s10.1
  replace s28 := s28.below hb s28.1
  replace s29 := s29.below hb s29.1
  replace s39 := s39.below hb s39.1
  replace hb0 := hb0.trans (hb.mono hb0.size)
  clear hb
  go_wp2_with fail
  refine (heldIntS_any _ _ _ _ _ s29.rd (by omega) (by omega)).mono ?_
  rintro e w15 ⟨rfl, rfl⟩
  go_wp2
  go_ret
  exact ⟨rfl, hb0⟩

theorem own : ownKnob Try.prog.godebug = none := by kernel_rfl
theorem laidOut : laidOutB Try.prog = true := by kernel_rfl
set_option maxRecDepth 100000 in
theorem lifted (os : Os) (started : os.Started) (H : Type) (enc : TypeId × Value → H) :
    ReturnsInHanded {} Try.checked os 12 .any (Rows.fnExactNatScaleSpec.pre6 enc Try.prog Try.f12 Rows.fnExactNatScaleRow.domain false) (Rows.fnExactNatScaleSpec.post enc Try.prog Try.f12 false true false false) := by
  refine returnsInHanded_of_change (C := Try.checked) own started (by kernel_rfl) Try.func12
    (ChangeSpec.witness6 (enc := enc) (C := Try.checked) false ⟨#[], #[.slice none 0 0, .int .i64 0], []⟩ 8 (by kernel_rfl) (by kernel_rfl) (by kernel_rfl) (by kernel_rfl)) ?_
  intro W base args ds gs before hval0 hW hcnd _
  have hval : ∀ (j : Nat) t v, Try.f12.params[j]? = some t → args[j]? = some v → Value.okWide Try.prog W .any base t v := hval0
  have hW' := hW
  obtain ⟨p, q, hA0, hV, rfl, hfz, hnd⟩ := hW
  have hA : DataW.TrodAll enc Try.prog W 0 (fun _ => true) true Try.f12.params.toList args.toList ds p := hA0
  rw [Try.params12] at hA hval
  obtain ⟨v0, vs0, d0, ds0, p0, q0, hargs, rfl, rfl, h0, r0⟩ := trodAll_cons hA
  obtain ⟨v1, vs1, d1, ds1, p1, q1, rfl, rfl, rfl, h1, r1⟩ := trodAll_cons r0
  obtain ⟨rfl, rfl, rfl⟩ := trodAll_nil r1
  obtain rfl : args = #[v0, v1] := by cases args; simp_all
  obtain ⟨rfl, rfl⟩ := trodVars_none hV
  have k0 := h0
  have lt0 : ∀ x ∈ p0, x.block < W.heap.size := by obtain ⟨m, hm⟩ := k0; exact DataW.trod_lt m _ _ _ hm
  have k1 := h1
  have lt1 : ∀ x ∈ p1, x.block < W.heap.size := by obtain ⟨m, hm⟩ := k1; exact DataW.trod_lt m _ _ _ hm
  obtain ⟨a0, len0, cap0, rfl⟩ := okWide_slice Try.underlying22 (hval 0 22 v0 rfl rfl)
  obtain ⟨xs0, rfl, w0⟩ : ∃ xs : List Int, xs.length = len0 ∧ Rd W a0 xs ∧ xs.length ≤ maxLen := by
    obtain ⟨fuel, hf⟩ := h0
    rcases open_ints Try.underlying22 Try.underlying3 (by kernel_rfl) hf with ⟨hcs, _⟩ | ⟨x, l, c, zs, hcs, _, hl, hm, hz, _, hcell, hwz⟩
    · simp [Value.cells] at hcs
      obtain ⟨rfl, rfl, rfl⟩ := hcs
      exact ⟨[], rfl, Rd.nil _ _, Nat.zero_le _⟩
    · simp [Value.cells] at hcs
      obtain ⟨rfl, rfl, rfl⟩ := hcs
      have hz' : zs.length = cap0 := by simpa using hz
      refine ⟨zs.take len0, by rw [List.length_take]; omega, rd_of_cells hcell _, by rw [List.length_take]; omega⟩
  obtain ⟨a1, rfl, rfl, rfl, w1⟩ := open_int Try.underlying3 (hval 1 3 v1 rfl rfl) h1
  clear hA0 hval0
  refine (walk a0 cap0 xs0 a1 W w0 w1).mono fun e W' ⟨he, bel⟩ => ?_
  subst he
  exact ⟨_, rfl, _, _, _, [], _, [], hW', trodAll_mk1 (shut_bool Try.underlying4 _), (trodAll_cons_mk (Below.trod laidOut (by kernel_rfl) (of_decide_eq_true (by kernel_rfl)) k0 bel lt0) (trodAll_cons_mk (Below.trod laidOut (by kernel_rfl) (of_decide_eq_true (by kernel_rfl)) k1 bel lt1) trodAll_mk0)), rfl, bel.frame _, fun h => by cases h⟩

theorem over : Rows.fnExactNatScaleRow.holds Try.pinned (OpenSpec.ofChange Rows.fnExactNatScaleSpec) :=
  OpenClaim.holds_of_wide 12 Try.f12 rfl rfl rfl rfl rfl rfl rfl ⟨rfl, rfl, rfl, rfl, rfl⟩ rfl rfl rfl rfl rfl (by kernel_rfl) Try.func12 (by kernel_rfl)
    (of_decide_eq_true (by kernel_rfl)) (by unfold Func.isWrapper; first | (rw [if_pos (by decide +kernel)]; kernel_rfl) | (rw [if_neg (by decide +kernel)]; exact ⟨rfl, rfl⟩))
    (fun os started H enc _ => lifted os started H enc)

theorem proved : Rows.FnExactNatScaleSaid := over
#print axioms proved
end Go.Proofs.Ytfaiogmigibmmaa.fnExactNatScale
