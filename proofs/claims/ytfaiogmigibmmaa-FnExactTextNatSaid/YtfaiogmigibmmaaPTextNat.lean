/- The law FnExactTextNat answers true at every input. No condition. (The walk is printed by gen_law.py off the law's text.) -/
import Derived.Test.YtfaiogmigibmmaaRows
import Derived.Test.YtfaiogmigibmmaaWTextNatI
import Derived.Test.YtfaiogmigibmmaaWEqInt
import Derived.Test.YtfaiogmigibmmaaWMark
import Derived.ProofKit
import Derived.OpenShut
import Derived.ShutString
import Derived.ChangeOld
import Derived.Below
namespace Go.Proofs.Ytfaiogmigibmmaa.fnExactTextNat
open Go.ChangeShapes Go.WideShapes Go.ChangeAt Go.RowKit
open Go.ChangeMaps (open_string shut_string)
set_option linter.unusedVariables false

set_option maxHeartbeats 4000000 in
theorem walk (a0 : ByteArray) (w : World) (hp0 : a0.size ≤ maxLen) :
    Calls Try.prog 8 #[.string a0] w fun e w' => e = .returned (.bool true) ∧ Below w.heap.size w w' := by
  have hb0 := Below.refl w.heap.size w
  unfold maxLen at hp0
  by_cases hl0 : 1048576 < a0.size
  · go_enter Try.func8, Try.ntmps8
    go_wp2
    go_ret
    exact ⟨rfl, Below.refl _ _⟩
  go_enter Try.func8, Try.ntmps8
  go_wp2_with fail
  refine (spec_TextNat _ _ (by omega)).mono ?_
  rintro e w1 ⟨⟨ad1, cp2, rfl, ho3, hn4⟩, hb⟩
  have s5 := Slot.of ho3
  have lc6 := (ho3.inn (by omega)).2.1
  clear ho3
  have zw1 : w.heap.size ≤ w1.heap.size := hb.size
  replace hb0 := hb0.trans (hb.mono hb0.size)
  clear hb
  go_wp2_with fail
  refine (impl_TextNat _ _ (by omega)).mono ?_
  rintro e w2 ⟨⟨ad7, cp8, rfl, ho9, hn10⟩, hb⟩
  have s11 := Slot.of ho9
  have lc12 := (ho9.inn (by omega)).2.1
  clear ho9
  have zw2 : w1.heap.size ≤ w2.heap.size := hb.size
  replace s5 := s5.below hb s5.1
  replace hb0 := hb0.trans (hb.mono hb0.size)
  clear hb
  go_wp2_with fail
  refine (eqIntS_same _ _ _ _ _ _ s11.rd s5.rd (by omega)).mono ?_
  rintro e w3 ⟨rfl, hb⟩
  have zw3 : w2.heap.size ≤ w3.heap.size := hb.size
  replace s5 := s5.below hb s5.1
  replace s11 := s11.below hb s11.1
  replace hb0 := hb0.trans (hb.mono hb0.size)
  clear hb
  go_wp2_with fail
  refine (markIntS_any _ _ _ _ _ _ _ s11 (by omega) (by omega)).mono ?_
  rintro e w4 ⟨rfl, s13, hw⟩
  replace s5 := s5.wr hw (by omega)
  clear s11
  replace hb0 := below_wr hb0 hw (by omega)
  have zw4 : w3.heap.size ≤ w4.heap.size := Nat.le_of_eq hw.size.symm
  have yw4 : w4.heap.size ≤ w3.heap.size := Nat.le_of_eq hw.size
  clear hw
  go_wp2_with fail
  refine (heldIntS_any _ _ _ _ _ s13.rd (by omega) (by omega)).mono ?_
  rintro e w5 ⟨rfl, rfl⟩
  go_wp2_with fail
  refine (impl_TextNat _ _ (by omega)).mono ?_
  rintro e w6 ⟨⟨ad14, cp15, rfl, ho16, hn17⟩, hb⟩
  have s18 := Slot.of ho16
  have lc19 := (ho16.inn (by omega)).2.1
  clear ho16
  have zw6 : w4.heap.size ≤ w6.heap.size := hb.size
  replace s5 := s5.below hb s5.1
  replace s13 := s13.below hb s13.1
  replace hb0 := hb0.trans (hb.mono hb0.size)
  clear hb
  go_wp2_with fail
  refine (eqIntS_same _ _ _ _ _ _ s18.rd s5.rd (by omega)).mono ?_
  rintro e w7 ⟨rfl, hb⟩
  have zw7 : w6.heap.size ≤ w7.heap.size := hb.size
  replace s5 := s5.below hb s5.1
  replace s13 := s13.below hb s13.1
  replace s18 := s18.below hb s18.1
  replace hb0 := hb0.trans (hb.mono hb0.size)
  clear hb
  go_wp2_with fail
  refine (heldIntS_any _ _ _ _ _ s13.rd (by omega) (by omega)).mono ?_
  rintro e w8 ⟨rfl, rfl⟩
  go_wp2
  go_ret
  exact ⟨rfl, hb0⟩

theorem own : ownKnob Try.prog.godebug = none := by kernel_rfl
theorem laidOut : laidOutB Try.prog = true := by kernel_rfl
set_option maxRecDepth 100000 in
theorem lifted (os : Os) (started : os.Started) (H : Type) (enc : TypeId × Value → H) :
    ReturnsInHanded {} Try.checked os 8 .any (Rows.fnExactTextNatSpec.pre6 enc Try.prog Try.f8 Rows.fnExactTextNatRow.domain false) (Rows.fnExactTextNatSpec.post enc Try.prog Try.f8 false true false false) := by
  refine returnsInHanded_of_change (C := Try.checked) own started (by kernel_rfl) Try.func8
    (ChangeSpec.witness6 (enc := enc) (C := Try.checked) false ⟨#[], #[.string ByteArray.empty], []⟩ 8 (by kernel_rfl) (by kernel_rfl) (by kernel_rfl) (by kernel_rfl)) ?_
  intro W base args ds gs before hval0 hW hcnd _
  have hval : ∀ (j : Nat) t v, Try.f8.params[j]? = some t → args[j]? = some v → Value.okWide Try.prog W .any base t v := hval0
  have hW' := hW
  obtain ⟨p, q, hA0, hV, rfl, hfz, hnd⟩ := hW
  have hA : DataW.TrodAll enc Try.prog W 0 (fun _ => true) true Try.f8.params.toList args.toList ds p := hA0
  rw [Try.params8] at hA hval
  obtain ⟨v0, vs0, d0, ds0, p0, q0, hargs, rfl, rfl, h0, r0⟩ := trodAll_cons hA
  obtain ⟨rfl, rfl, rfl⟩ := trodAll_nil r0
  obtain rfl : args = #[v0] := by cases args; simp_all
  obtain ⟨rfl, rfl⟩ := trodVars_none hV
  have k0 := h0
  have lt0 : ∀ x ∈ p0, x.block < W.heap.size := by obtain ⟨m, hm⟩ := k0; exact DataW.trod_lt m _ _ _ hm
  obtain ⟨a0, rfl, rfl, rfl, w0⟩ := open_string Try.underlying9 (hval 0 9 v0 rfl rfl) h0
  clear hA0 hval0
  refine (walk a0 W w0).mono fun e W' ⟨he, bel⟩ => ?_
  subst he
  exact ⟨_, rfl, _, _, _, [], _, [], hW', trodAll_mk1 (shut_bool Try.underlying4 _), (trodAll_cons_mk (Below.trod laidOut (by kernel_rfl) (of_decide_eq_true (by kernel_rfl)) k0 bel lt0) trodAll_mk0), rfl, bel.frame _, fun h => by cases h⟩

theorem over : Rows.fnExactTextNatRow.holds Try.pinned (OpenSpec.ofChange Rows.fnExactTextNatSpec) :=
  OpenClaim.holds_of_wide 8 Try.f8 rfl rfl rfl rfl rfl rfl rfl ⟨rfl, rfl, rfl, rfl, rfl⟩ rfl rfl rfl rfl rfl (by kernel_rfl) Try.func8 (by kernel_rfl)
    (of_decide_eq_true (by kernel_rfl)) (by unfold Func.isWrapper; first | (rw [if_pos (by decide +kernel)]; kernel_rfl) | (rw [if_neg (by decide +kernel)]; exact ⟨rfl, rfl⟩))
    (fun os started H enc _ => lifted os started H enc)

theorem proved : Rows.FnExactTextNatSaid := over
#print axioms proved
end Go.Proofs.Ytfaiogmigibmmaa.fnExactTextNat
