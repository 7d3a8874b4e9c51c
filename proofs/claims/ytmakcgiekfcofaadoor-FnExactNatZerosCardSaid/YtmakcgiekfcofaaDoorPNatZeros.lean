/- The law FnExactNatZeros answers true at every input. No condition. (The walk is printed by gen_law.py off the law's text.) -/
import Derived.Test.YtmakcgiekfcofaaDoorRows
import Derived.Test.YtmakcgiekfcofaaDoorWNatZer
import Derived.ProofKit
import Derived.OpenShut
import Derived.ShutString
import Derived.ChangeOld
import Derived.Lib.SmallJoins
import Derived.Deep.RegionWith
import Derived.Deep.RegionHeld3
import Derived.Deep.DeepCutAuto
import Derived.Test.YtmakcgiekfcofaaDoorTie
import Derived.Test.YtmakcgiekfcofaaDoorCards
import Derived.LaidMore
import Derived.MakeChecks
import Derived.Stop.LaidErr
import Derived.Stop.Joined
import Derived.SevenTiedAt
import Derived.Below
namespace Go.Proofs.YtmakcgiekfcofaaDoor.fnExactNatZeros
open Go.ChangeShapes Go.WideShapes Go.ChangeAt Go.RowKit
open Go.ChangeMaps (open_string shut_string)
set_option linter.unusedVariables false

set_option maxRecDepth 100000 in
set_option maxHeartbeats 40000000 in
theorem walk (a0 : Option Addr) (c0 : Nat) (xs0 : List Int) (w : World) (ht : Tab w) (hp0 : Rd w a0 xs0 ∧ xs0.length ≤ maxLen) :
    Calls Tryd.prog 7 #[.slice a0 xs0.length c0] w fun e w' => e = .returned (.bool true) ∧ Below w.heap.size w w' := by
  have hb0 := Below.refl w.heap.size w
  have hm0 := hp0.2
  unfold maxLen at hm0
  by_cases hl0 : 1048576 < xs0.length
  · go_enter Tryd.func7, Tryd.ntmps7
    go_wp2
    go_ret
    exact ⟨rfl, Below.refl _ _⟩
  go_enter Tryd.func7, Tryd.ntmps7
  go_wp2_with fail
  refine (toIntS_any _ _ _ _ (hp0.1.below hb0 (Nat.le_refl _)) (by omega)).mono ?_
  rintro e w1 ⟨⟨ad1, cp2, rfl, ho3⟩, hb⟩
  have s4 := Slot.of ho3
  have lc5 := (ho3.inn (by omega)).2.1
  clear ho3
  have zw1 : w.heap.size ≤ w1.heap.size := hb.size
  replace hb0 := hb0.trans (hb.mono hb0.size)
  clear hb
  go_wp2_with fail
  refine (spec_NatZeros _ _ _ _ ⟨s4.rd, lc5, (by omega)⟩).mono ?_
  rintro e w2 ⟨rfl, hb⟩
  have zw2 : w1.heap.size ≤ w2.heap.size := hb.size
  replace hb0 := hb0.trans (hb.mono hb0.size)
  clear hb
  go_wp2_with fail
  refine (toIntS_any _ _ _ _ (hp0.1.below hb0 (Nat.le_refl _)) (by omega)).mono ?_
  rintro e w3 ⟨⟨ad6, cp7, rfl, ho8⟩, hb⟩
  have s9 := Slot.of ho8
  have lc10 := (ho8.inn (by omega)).2.1
  clear ho8
  have zw3 : w2.heap.size ≤ w3.heap.size := hb.size
  replace hb0 := hb0.trans (hb.mono hb0.size)
  clear hb
  go_wp2_with fail
  refine (impl_NatZeros _ _ _ _ ⟨s9.rd, lc10, (by omega)⟩ (ht.below hb0)).mono ?_
  rintro e w4 ⟨rfl, hb⟩
  have zw4 : w3.heap.size ≤ w4.heap.size := hb.size
  replace s9 := s9.below hb s9.1
  replace hb0 := hb0.trans (hb.mono hb0.size)
  clear hb
  go_wp2_with fail
  refine (toIntS_any _ _ _ _ (hp0.1.below hb0 (Nat.le_refl _)) (by omega)).mono ?_
  rintro e w5 ⟨⟨ad11, cp12, rfl, ho13⟩, hb⟩
  have s14 := Slot.of ho13
  have lc15 := (ho13.inn (by omega)).2.1
  clear ho13
  have zw5 : w4.heap.size ≤ w5.heap.size := hb.size
  replace s9 := s9.below hb s9.1
  replace hb0 := hb0.trans (hb.mono hb0.size)
  clear hb
  go_wp2_with fail
  refine (eqIntS_same _ _ _ _ _ _ s9.rd s14.rd (by omega)).mono ?_
  rintro e w6 ⟨rfl, hb⟩
  have zw6 : w5.heap.size ≤ w6.heap.size := hb.size
  replace s9 := s9.below hb s9.1
  replace hb0 := hb0.trans (hb.mono hb0.size)
  clear hb
  go_wp2
  go_ret
  exact ⟨rfl, hb0⟩

theorem own : ownKnob Tryd.prog.godebug = none := by kernel_rfl
theorem laidOut : laidOutB Tryd.prog = true := by kernel_rfl
theorem door_met (os : Os) (args : Array Value) : laidMetH Tryd.prog Rows.fnExactNatZerosRow.laid ((World.doorLaid Tryd.prog 62 os).forCall (fun _ _ => 0) ⟨#[], args, []⟩).memory :=
  laidMetH_of_parts3 (fuel := 8) (laidMet_of_run' 8 (by kernel_rfl) (by kernel_rfl)) (by kernel_rfl) (by kernel_rfl)
theorem tab_laid {W : World} (h : laidMetH Tryd.prog Rows.fnExactNatZerosRow.laid W) : Tab W := by
  rw [MakeChecks.laidMetH_plain _ _ _ (by kernel_rfl)] at h
  have h2 : laidMet Tryd.prog (("internal/strconv.uint64pow10", Lib.tabData .u64 Lib.pow10Tab) :: []) W := h.tail.tail
  exact Lib.tabIs_of_head tabG (by kernel_rfl) Tryd.underlying100 Tryd.underlying74 (by kernel_rfl) (by kernel_rfl) h2
set_option maxRecDepth 100000 in
theorem lifted (os : Os) (started : os.Started) (H : Type) (enc : TypeId × Value → H) :
    ReturnsInHanded {} Tryd.checked os 7 .any (fun w args => (Rows.fnExactNatZerosSpec.pre enc Tryd.prog Tryd.f7 [] false w args ∧ laidMetH Tryd.prog Rows.fnExactNatZerosRow.laid w) ∧ sizedMet enc Tryd.prog Tryd.f7 (OpenSpec.ofChange Rows.fnExactNatZerosSpec) false w args)
      (Rows.fnExactNatZerosSpec.post enc Tryd.prog Tryd.f7 false true false false) := by
  refine returnsInHanded_of_change_and (C := Tryd.checked) (X := fun w _ => laidMetH Tryd.prog Rows.fnExactNatZerosRow.laid w) (fun _ _ _ hh h => h.of_heap hh) own started (by kernel_rfl) Tryd.func7
    (ChangeSpec.witness_shaped (enc := enc) (C := Tryd.checked) (os := os) (X := fun w _ => laidMetH Tryd.prog Rows.fnExactNatZerosRow.laid w) false (World.doorLaid Tryd.prog 62 os) #[.slice none 0 0] 8 rfl (World.shaped_of_RefB (by kernel_rfl) (by kernel_rfl)) (by kernel_rfl) (by kernel_rfl) (by kernel_rfl) (door_met os _)) ?_
  intro W base args ds gs before hval0 hW _ _ hL _
  have hval : ∀ (j : Nat) t v, Tryd.f7.params[j]? = some t → args[j]? = some v → Value.okWide Tryd.prog W .any base t v := hval0
  have hW' := hW
  obtain ⟨p, q, hA0, hV, rfl, hfz, hnd⟩ := hW
  have hA : DataW.TrodAll enc Tryd.prog W 0 (fun _ => true) true Tryd.f7.params.toList args.toList ds p := hA0
  rw [Tryd.params7] at hA hval
  obtain ⟨v0, vs0, d0, ds0, p0, q0, hargs, rfl, rfl, h0, r0⟩ := trodAll_cons hA
  obtain ⟨rfl, rfl, rfl⟩ := trodAll_nil r0
  obtain rfl : args = #[v0] := by cases args; simp_all
  obtain ⟨rfl, rfl⟩ := trodVars_none hV
  have k0 := h0
  have lt0 : ∀ x ∈ p0, x.block < W.heap.size := by obtain ⟨m, hm⟩ := k0; exact DataW.trod_lt m _ _ _ hm
  obtain ⟨a0, len0, cap0, rfl⟩ := okWide_slice Tryd.underlying27 (hval 0 27 v0 rfl rfl)
  obtain ⟨xs0, rfl, w0⟩ : ∃ xs : List Int, xs.length = len0 ∧ Rd W a0 xs ∧ xs.length ≤ maxLen := by
    obtain ⟨fuel, hf⟩ := h0
    rcases open_ints Tryd.underlying27 Tryd.underlying3 (by kernel_rfl) hf with ⟨hcs, _⟩ | ⟨x, l, c, zs, hcs, _, hl, hm, hz, _, hcell, hwz⟩
    · simp [Value.cells] at hcs
      obtain ⟨rfl, rfl, rfl⟩ := hcs
      exact ⟨[], rfl, Rd.nil _ _, Nat.zero_le _⟩
    · simp [Value.cells] at hcs
      obtain ⟨rfl, rfl, rfl⟩ := hcs
      have hz' : zs.length = cap0 := by simpa using hz
      refine ⟨zs.take len0, by rw [List.length_take]; omega, rd_of_cells hcell _, by rw [List.length_take]; omega⟩
  clear hA0 hval0
  refine (walk a0 cap0 xs0 W (tab_laid hL) w0).mono fun e W' ⟨he, bel⟩ => ?_
  subst he
  exact ⟨_, rfl, _, _, _, [], _, [], hW', trodAll_mk1 (shut_bool Tryd.underlying4 _), (trodAll_cons_mk (Below.trod laidOut (by kernel_rfl) (of_decide_eq_true (by kernel_rfl)) k0 bel lt0) trodAll_mk0), rfl, bel.frame _, fun h => by cases h⟩

theorem over : Rows.fnExactNatZerosRow.holds Tryd.pinned (OpenSpec.ofChange Rows.fnExactNatZerosSpec) :=
  OpenClaim.holds_of_wide 7 Tryd.f7 rfl rfl rfl rfl rfl rfl rfl ⟨rfl, rfl, rfl, rfl, rfl⟩ rfl rfl rfl rfl rfl (by kernel_rfl) Tryd.func7 (by kernel_rfl)
    (of_decide_eq_true (by kernel_rfl)) (by unfold Func.isWrapper; first | (rw [if_pos (by decide +kernel)]; kernel_rfl) | (rw [if_neg (by decide +kernel)]; exact ⟨rfl, rfl⟩))
    (fun os started H enc _ => lifted os started H enc)

theorem proved : Rows.FnExactNatZerosCardSaid :=
  Claim7.holds_tied_plain_at .later [] [.data, .data, .data] true (true, "b3284cd137c3dfebdeffcab80f103949ae2191ea951abc9e19d2f74fc684b4c4") true
    over (fun _ h => by cases h) (by kernel_rfl) (fun _ h => by cases h) fnExactNatZeros_row_tie rfl ⟨rfl, rfl⟩ (by kernel_rfl) rfl
    (fun f fn hf hfn => by
      obtain rfl : f = 7 := Option.some.inj ((show Tryd.prog.funcNamed Rows.fnExactNatZerosRow.func = some 7 by kernel_rfl).symm.trans hf) |>.symm
      obtain rfl : fn = Tryd.f7 := (Option.some.inj (Tryd.func7.symm.trans hfn)).symm
      exact ⟨by kernel_rfl, fun j t ht => by
        rw [Tryd.params7] at ht
        have hm : t ∈ [27] := by simpa using Array.mem_of_getElem? ht
        have hall : ([27].all fun u => !Tryd.prog.wantsStandIn u) = true := by kernel_rfl
        exact (show Tryd.prog.wantsStandIn t = false by simpa using List.all_eq_true.1 hall t hm)⟩)
    (by kernel_rfl)
#print axioms proved
end Go.Proofs.YtmakcgiekfcofaaDoor.fnExactNatZeros
