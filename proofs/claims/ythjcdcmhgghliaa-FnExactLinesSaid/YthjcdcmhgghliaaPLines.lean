/- The law FnExactLines answers true at every input. No condition. (The walk is printed by gen_law.py off the law's text.) -/
import Derived.Test.YthjcdcmhgghliaaRows
import Derived.Test.YthjcdcmhgghliaaWCut
import Derived.ProofKit
import Derived.OpenShut
import Derived.ShutString
import Derived.ChangeOld
import Derived.Lib.SmallJoins
import Derived.Deep.RegionWith
import Derived.Deep.RegionHeld3
import Derived.Deep.DeepCutAuto
import Derived.Below
namespace Go.Proofs.Ythjcdcmhgghliaa.fnExactLines
open Go.ChangeShapes Go.WideShapes Go.ChangeAt Go.RowKit
open Go.ChangeMaps (open_string shut_string)
set_option linter.unusedVariables false

set_option maxRecDepth 100000 in
set_option maxHeartbeats 4000000 in
theorem walk (a0 : ByteArray) (w : World) (hp0 : a0.size ≤ maxLen) :
    Calls Try.prog 5 #[.string a0] w fun e w' => e = .returned (.bool true) ∧ Below w.heap.size w w' := by
  have hb0 := Below.refl w.heap.size w
  unfold maxLen at hp0
  by_cases hl0 : 1048576 < a0.size
  · go_enter Try.func5, Try.ntmps5
    go_wp2
    go_ret
    exact ⟨rfl, Below.refl _ _⟩
  go_enter Try.func5, Try.ntmps5
  go_wp2_with fail
  refine (spec_Lines _ _ (by omega)).mono ?_
  rintro e w1 ⟨⟨ad1, cp2, rfl, ho3, hn4⟩, hb⟩
  have s5 := SlotS.of ho3
  clear ho3
  have zw1 : w.heap.size ≤ w1.heap.size := hb.size
  replace hb0 := hb0.trans (hb.mono hb0.size)
  clear hb
  go_wp2_with fail
  refine (impl_Lines _ _ (by omega)).mono ?_
  rintro e w2 ⟨⟨ad6, cp7, rfl, ho8, hn9⟩, hb⟩
  have s10 := SlotS.of ho8
  clear ho8
  have zw2 : w1.heap.size ≤ w2.heap.size := hb.size
  replace s5 := s5.below hb s5.1
  replace hb0 := hb0.trans (hb.mono hb0.size)
  clear hb
  go_wp2_with fail
  refine (eqStringS_same _ _ _ _ _ _ s10.rd s5.rd (by omega)).mono ?_
  rintro e w3 ⟨rfl, hb⟩
  have zw3 : w2.heap.size ≤ w3.heap.size := hb.size
  replace s5 := s5.below hb s5.1
  replace s10 := s10.below hb s10.1
  replace hb0 := hb0.trans (hb.mono hb0.size)
  clear hb
  go_wp2_with fail
  refine (markStringS_any _ _ _ _ _ _ _ s10 (by omega) (by omega)).mono ?_
  rintro e w4 ⟨rfl, s11, hw⟩
  replace s5 := s5.wr hw (by omega)
  clear s10
  replace hb0 := below_wr hb0 hw (by omega) hb0.size
  have zw4 : w3.heap.size ≤ w4.heap.size := hw.size
  clear hw
  go_wp2_with fail
  refine (heldStringS_any _ _ _ _ _ s11.rd (by omega) (by omega)).mono ?_
  rintro e w5 ⟨rfl, hb⟩
  have zw5 : w4.heap.size ≤ w5.heap.size := hb.size
  replace s5 := s5.below hb s5.1
  replace s11 := s11.below hb s11.1
  replace hb0 := hb0.trans (hb.mono hb0.size)
  clear hb
  go_wp2_with fail
  refine (impl_Lines _ _ (by omega)).mono ?_
  rintro e w6 ⟨⟨ad12, cp13, rfl, ho14, hn15⟩, hb⟩
  have s16 := SlotS.of ho14
  clear ho14
  have zw6 : w5.heap.size ≤ w6.heap.size := hb.size
  replace s5 := s5.below hb s5.1
  replace s11 := s11.below hb s11.1
  replace hb0 := hb0.trans (hb.mono hb0.size)
  clear hb
  go_wp2_with fail
  refine (eqStringS_same _ _ _ _ _ _ s16.rd s5.rd (by omega)).mono ?_
  rintro e w7 ⟨rfl, hb⟩
  have zw7 : w6.heap.size ≤ w7.heap.size := hb.size
  replace s5 := s5.below hb s5.1
  replace s11 := s11.below hb s11.1
  replace s16 := s16.below hb s16.1
  replace hb0 := hb0.trans (hb.mono hb0.size)
  clear hb
  go_wp2_with fail
  refine (heldStringS_any _ _ _ _ _ s11.rd (by omega) (by omega)).mono ?_
  rintro e w8 ⟨rfl, hb⟩
  have zw8 : w7.heap.size ≤ w8.heap.size := hb.size
  replace s5 := s5.below hb s5.1
  replace s11 := s11.below hb s11.1
  replace s16 := s16.below hb s16.1
  replace hb0 := hb0.trans (hb.mono hb0.size)
  clear hb
  go_wp2
  go_ret
  exact ⟨rfl, hb0⟩

theorem own : ownKnob Try.prog.godebug = none := by kernel_rfl
theorem laidOut : laidOutB Try.prog = true := by kernel_rfl
set_option maxRecDepth 100000 in
theorem lifted (os : Os) (started : os.Started) (H : Type) (enc : TypeId × Value → H) :
    ReturnsInHanded {} Try.checked os 5 .any (Rows.fnExactLinesSpec.pre6 enc Try.prog Try.f5 Rows.fnExactLinesRow.domain false) (Rows.fnExactLinesSpec.post enc Try.prog Try.f5 false true false false) := by
  refine returnsInHanded_of_change (C := Try.checked) own started (by kernel_rfl) Try.func5
    (ChangeSpec.witness6 (enc := enc) (C := Try.checked) false ⟨#[], #[.string ByteArray.empty], []⟩ 8 (by kernel_rfl) (by kernel_rfl) (by kernel_rfl) (by kernel_rfl)) ?_
  intro W base args ds gs before hval0 hW hcnd _
  have hval : ∀ (j : Nat) t v, Try.f5.params[j]? = some t → args[j]? = some v → Value.okWide Try.prog W .any base t v := hval0
  have hW' := hW
  obtain ⟨p, q, hA0, hV, rfl, hfz, hnd⟩ := hW
  have hA : DataW.TrodAll enc Try.prog W 0 (fun _ => true) true Try.f5.params.toList args.toList ds p := hA0
  rw [Try.params5] at hA hval
  obtain ⟨v0, vs0, d0, ds0, p0, q0, hargs, rfl, rfl, h0, r0⟩ := trodAll_cons hA
  obtain ⟨rfl, rfl, rfl⟩ := trodAll_nil r0
  obtain rfl : args = #[v0] := by cases args; simp_all
  obtain ⟨rfl, rfl⟩ := trodVars_none hV
  have k0 := h0
  have lt0 : ∀ x ∈ p0, x.block < W.heap.size := by obtain ⟨m, hm⟩ := k0; exact DataW.trod_lt m _ _ _ hm
  obtain ⟨a0, rfl, rfl, rfl, w0⟩ := open_string Try.underlying9 (hval 0 9 v0 rfl rfl) h0
  clear hA0 hval0
  refine (walk a0 W w0).mono fun e W' ⟨he, bel⟩ => ?_
  subst he
  exact ⟨_, rfl, _, _, _, [], _, [], hW', trodAll_mk1 (shut_bool Try.underlying4 _), (trodAll_cons_mk (Below.trod laidOut (by kernel_rfl) (of_decide_eq_true (by kernel_rfl)) k0 bel lt0) trodAll_mk0), rfl, bel.frame _, fun h => by cases h⟩

theorem over : Rows.fnExactLinesRow.holds Try.pinned (OpenSpec.ofChange Rows.fnExactLinesSpec) :=
  OpenClaim.holds_of_wide 5 Try.f5 rfl rfl rfl rfl rfl rfl rfl ⟨rfl, rfl, rfl, rfl, rfl⟩ rfl rfl rfl rfl rfl (by kernel_rfl) Try.func5 (by kernel_rfl)
    (of_decide_eq_true (by kernel_rfl)) (by unfold Func.isWrapper; first | (rw [if_pos (by decide +kernel)]; kernel_rfl) | (rw [if_neg (by decide +kernel)]; exact ⟨rfl, rfl⟩))
    (fun os started H enc _ => lifted os started H enc)

theorem proved : Rows.FnExactLinesSaid := over
#print axioms proved
end Go.Proofs.Ythjcdcmhgghliaa.fnExactLines
