/- The law FnExactNatOk answers true at every slice of ints. No condition. -/
import Derived.Test.YtaanplgolkodbabWNatOk
import Derived.Test.YtaanplgolkodbabWEqInt
import Derived.ProofKit
import Derived.OpenShut
import Derived.ShutString
import Derived.ChangeOld
import Derived.Below
namespace Go.Proofs.Ytaanplgolkodbab.fnExactNatOk
open Go.ChangeShapes Go.WideShapes Go.ChangeAt Go.RowKit
open Go.ChangeMaps (open_string shut_string)
set_option linter.unusedVariables false

set_option maxHeartbeats 1000000 in
theorem walk (a : Option Addr) (ca : Nat) (xs : List Int) (w : World) (hh : Rd w a xs ∧ xs.length ≤ maxLen) :
    Calls Try.prog 3 #[.slice a xs.length ca] w fun e w' => e = .returned (.bool true) ∧ Below w.heap.size w w' := by
  obtain ⟨hr, hs⟩ := hh
  have hs' := hs
  unfold maxLen at hs'
  by_cases hl : 1048576 < xs.length
  · go_enter Try.func3, Try.ntmps3
    go_wp2
    go_ret
    exact ⟨rfl, Below.refl _ _⟩
  · go_enter Try.func3, Try.ntmps3
    go_wp2_with fail
    refine (toIntS_any _ _ _ _ hr (by omega)).mono ?_
    rintro e w1 ⟨⟨a1, c1, rfl, ho1⟩, hb1⟩
    have hr1 := ho1.rd
    go_wp2_with fail
    refine (spec_NatOk _ _ _ _ hr1 hs).mono ?_
    rintro e w1' ⟨rfl, rfl⟩
    go_wp2_with fail
    refine (toIntS_any _ _ _ _ (hr.below hb1 (Nat.le_refl _)) (by omega)).mono ?_
    rintro e w2 ⟨⟨a2, c2, rfl, ho2⟩, hb2⟩
    have hr2 := ho2.rd
    go_wp2_with fail
    refine (impl_NatOk _ _ _ _ hr2 hs).mono ?_
    rintro e w2' ⟨rfl, rfl⟩
    have hb3 := hb1.trans (hb2.mono hb1.size)
    go_wp2_with fail
    refine (toIntS_any _ _ _ _ (hr.below hb3 (Nat.le_refl _)) (by omega)).mono ?_
    rintro e w3 ⟨⟨a3, c3, rfl, ho3⟩, hb3'⟩
    have hr3 := ho3.rd
    go_wp2_with fail
    refine (eqIntS_any _ _ _ _ _ _ _ (hr2.below hb3' (Nat.le_refl _)) hr3 hs hs).mono ?_
    rintro e w4 ⟨rfl, n, rfl⟩
    have hb5 := bel_drewN (hb3.trans (hb3'.mono hb3.size)) n
    go_wp2
    go_ret
    exact ⟨rfl, hb5⟩

theorem own : ownKnob Try.prog.godebug = none := by kernel_rfl
theorem laidOut : laidOutB Try.prog = true := by kernel_rfl
set_option maxRecDepth 100000 in
theorem lifted (os : Os) (started : os.Started) (H : Type) (enc : TypeId × Value → H) :
    ReturnsInHanded {} Try.checked os 3 .any (Rows.fnExactNatOkSpec.pre6 enc Try.prog Try.f3 Rows.fnExactNatOkRow.domain false) (Rows.fnExactNatOkSpec.post enc Try.prog Try.f3 false true false false) := by
  refine returnsInHanded_of_change (C := Try.checked) own started (by kernel_rfl) Try.func3
    (ChangeSpec.witness6 (enc := enc) (C := Try.checked) false ⟨#[], #[.slice none 0 0], []⟩ 8 (by kernel_rfl) (by kernel_rfl) (by kernel_rfl) (by kernel_rfl)) ?_
  intro W base args ds gs before hval0 hW hcnd _
  have hval : ∀ (j : Nat) t v, Try.f3.params[j]? = some t → args[j]? = some v → Value.okWide Try.prog W .any base t v := hval0
  have hW' := hW
  obtain ⟨p, q, hA0, hV, rfl, hfz, hnd⟩ := hW
  have hA : DataW.TrodAll enc Try.prog W 0 (fun _ => true) true Try.f3.params.toList args.toList ds p := hA0
  rw [Try.params3] at hA hval
  obtain ⟨v0, vs0, d0, ds0, p0, q0, hargs, rfl, rfl, h0, r0⟩ := trodAll_cons hA
  obtain ⟨rfl, rfl, rfl⟩ := trodAll_nil r0
  obtain rfl : args = #[v0] := by cases args; simp_all
  obtain ⟨rfl, rfl⟩ := trodVars_none hV
  have k0 := h0
  have lt0 : ∀ x ∈ p0, x.block < W.heap.size := by obtain ⟨m, hm⟩ := k0; exact DataW.trod_lt m _ _ _ hm
  obtain ⟨a0, len0, cap0, rfl⟩ := okWide_slice Try.underlying22 (hval 0 22 v0 rfl rfl)
  obtain ⟨xs0, rfl, w0⟩ : ∃ xs : List Int, xs.length = len0 ∧ Rd W a0 xs ∧ xs.length ≤ maxLen := by
    obtain ⟨fuel, hf⟩ := h0
    rcases open_ints Try.underlying22 Try.underlying3 (by kernel_rfl) hf with ⟨hcs, _⟩ | ⟨x, l, c, zs, hcs, _, hl, hm, hz, _, hcell, hwz⟩
    · simp [Value.cells] at hcs
      obtain ⟨rfl, rfl, rfl⟩ := hcs
      exact ⟨[], rfl, Rd.nil _ _, Nat.zero_le _⟩
    · simp [Value.cells] at hcs
      obtain ⟨rfl, rfl, rfl⟩ := hcs
      have hz' : zs.length = cap0 := by simpa using hz
      refine ⟨zs.take len0, by rw [List.length_take]; omega, rd_of_cells hcell _, by rw [List.length_take]; omega⟩
  clear hA0 hval0
  refine (walk a0 cap0 xs0 W w0).mono fun e W' ⟨he, bel⟩ => ?_
  subst he
  exact ⟨_, rfl, _, _, _, [], _, [], hW', trodAll_mk1 (shut_bool Try.underlying4 _), (trodAll_cons_mk (Below.trod laidOut (by kernel_rfl) (of_decide_eq_true (by kernel_rfl)) k0 bel lt0) trodAll_mk0), rfl, bel.frame _, fun h => by cases h⟩

theorem over : Rows.fnExactNatOkRow.holds Try.pinned (OpenSpec.ofChange Rows.fnExactNatOkSpec) :=
  OpenClaim.holds_of_wide 3 Try.f3 rfl rfl rfl rfl rfl rfl rfl ⟨rfl, rfl, rfl, rfl, rfl⟩ rfl rfl rfl rfl rfl (by kernel_rfl) Try.func3 (by kernel_rfl)
    (of_decide_eq_true (by kernel_rfl)) (by unfold Func.isWrapper; first | (rw [if_pos (by decide +kernel)]; kernel_rfl) | (rw [if_neg (by decide +kernel)]; exact ⟨rfl, rfl⟩))
    (fun os started H enc _ => lifted os started H enc)

theorem proved : Rows.FnExactNatOkSaid := over
#print axioms proved
end Go.Proofs.Ytaanplgolkodbab.fnExactNatOk
