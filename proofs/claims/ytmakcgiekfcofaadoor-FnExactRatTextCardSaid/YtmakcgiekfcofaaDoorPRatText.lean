/- The law FnExactRatText answers true at every input. No condition. (The walk is printed by gen_law.py off the law's text.) -/
import Derived.Test.YtmakcgiekfcofaaDoorRows
import Derived.Test.YtmakcgiekfcofaaDoorWRatTextI
import Derived.ProofKit
import Derived.OpenShut
import Derived.ShutString
import Derived.ChangeOld
import Derived.Lib.SmallJoins
import Derived.Deep.RegionWith
import Derived.Deep.RegionHeld3
import Derived.Deep.DeepCutAuto
import Derived.Test.YtmakcgiekfcofaaDoorTie
import Derived.Test.YtmakcgiekfcofaaDoorCards
import Derived.LaidMore
import Derived.MakeChecks
import Derived.Stop.LaidErr
import Derived.Stop.Joined
import Derived.SevenTiedAt
import Derived.Below
namespace Go.Proofs.YtmakcgiekfcofaaDoor.fnExactRatText
open Go.ChangeShapes Go.WideShapes Go.ChangeAt Go.RowKit
open Go.ChangeMaps (open_string shut_string)
set_option linter.unusedVariables false

set_option maxRecDepth 100000 in
set_option maxHeartbeats 40000000 in
theorem walk (n0 : Bool) (a0 : Option Addr) (c0 : Nat) (xs0 : List Int) (b0 : Option Addr) (d0 : Nat) (ys0 : List Int) (w : World) (ht : Tab w) (hp0 : (Rd w a0 xs0 ∧ xs0.length ≤ maxLen) ∧ (Rd w b0 ys0 ∧ ys0.length ≤ maxLen)) :
    Calls Tryd.prog 9 #[.agg #[.bool n0, .slice a0 xs0.length c0, .slice b0 ys0.length d0]] w fun e w' => e = .returned (.bool true) ∧ Below w.heap.size w w' := by
  have hb0 := Below.refl w.heap.size w
  have hm0 := hp0.1.2
  unfold maxLen at hm0
  have hk0 := hp0.2.2
  unfold maxLen at hk0
  by_cases hs0 : (xs0.length : Int) + ys0.length ≤ 1048576
  rotate_left
  · replace hb0 := hb0.trans ((bel_alloc w (.cells #[.bool n0, .slice a0 xs0.length c0, .slice b0 ys0.length d0] 42)).mono (by simp))
    have zbox : w.heap.size + 1 ≤ ((World.alloc w (.cells #[.bool n0, .slice a0 xs0.length c0, .slice b0 ys0.length d0] 42))).heap.size := by simp
    go_enter Tryd.func9, Tryd.ntmps9
    go_wp2_with fail
    refine (szRat_no _ _ _ _ _ _ _ _ _ (by omega) (by omega) (by omega) hp0.1.2 hp0.2.2).mono ?_
    rintro e wz ⟨rfl, hbz⟩
    replace hb0 := hb0.trans (hbz.mono hb0.size)
    go_wp2
    go_ret
    exact ⟨rfl, hb0⟩
  replace hb0 := hb0.trans ((bel_alloc w (.cells #[.bool n0, .slice a0 xs0.length c0, .slice b0 ys0.length d0] 42)).mono (by simp))
  have zbox : w.heap.size + 1 ≤ ((World.alloc w (.cells #[.bool n0, .slice a0 xs0.length c0, .slice b0 ys0.length d0] 42))).heap.size := by simp
  go_enter Tryd.func9, Tryd.ntmps9
  go_wp2_with fail
  refine (szRat_yes _ _ _ _ _ _ _ _ _ (by omega) (by omega)).mono ?_
  rintro e wz0 ⟨rfl, hb⟩
  have zwz0 : (World.alloc w (.cells #[.bool n0, .slice a0 xs0.length c0, .slice b0 ys0.length d0] 42)).heap.size ≤ wz0.heap.size := hb.size
  have hx0_0 : wz0.cell? ⟨w.heap.size, 0, none⟩ = some (.bool n0) := cell_keep hb (cell_box w _ _ _ 0 _ (by simp) rfl) (Nat.le_refl _)
  have hx0_1 : wz0.cell? ⟨w.heap.size, 1, none⟩ = some (.slice a0 xs0.length c0) := cell_keep hb (cell_box w _ _ _ 1 _ (by simp) rfl) (Nat.le_refl _)
  have hx0_2 : wz0.cell? ⟨w.heap.size, 2, none⟩ = some (.slice b0 ys0.length d0) := cell_keep hb (cell_box w _ _ _ 2 _ (by simp) rfl) (Nat.le_refl _)
  replace hb0 := hb0.trans (hb.mono hb0.size)
  clear hb
  go_wp2_with fail
  refine (toRat_any _ _ _ _ _ _ _ _ (hp0.1.1.below hb0 (Nat.le_refl _)) (hp0.2.1.below hb0 (Nat.le_refl _)) (by omega) (by omega)).mono ?_
  rintro e w1 ⟨⟨ad1, cp2, bd4, dp5, lo6, up7, lo8, up9, rfl, s10, s11, g12, g13, d14⟩, hb⟩
  have lc15 := s10.le
  have lc16 := s11.le
  have s10u := s10.1
  have s11u := s11.1
  have zw1 : wz0.heap.size ≤ w1.heap.size := hb.size
  replace hx0_0 := cell_keep hb hx0_0 (Nat.le_refl _)
  replace hx0_1 := cell_keep hb hx0_1 (Nat.le_refl _)
  replace hx0_2 := cell_keep hb hx0_2 (Nat.le_refl _)
  replace hb0 := hb0.trans (hb.mono hb0.size)
  clear hb
  go_wp2_with fail
  refine (spec_RatText _ _ _ _ _ _ _ _ ⟨s10.rd, lc15, (by omega)⟩ ⟨s11.rd, lc16, (by omega)⟩).mono ?_
  rintro e w2 ⟨rfl, hb⟩
  have zw2 : w1.heap.size ≤ w2.heap.size := hb.size
  replace hx0_0 := cell_keep hb hx0_0 (Nat.le_refl _)
  replace hx0_1 := cell_keep hb hx0_1 (Nat.le_refl _)
  replace hx0_2 := cell_keep hb hx0_2 (Nat.le_refl _)
  replace hb0 := hb0.trans (hb.mono hb0.size)
  clear hb
  go_wp2_with fail
  refine (toRat_any _ _ _ _ _ _ _ _ (hp0.1.1.below hb0 (Nat.le_refl _)) (hp0.2.1.below hb0 (Nat.le_refl _)) (by omega) (by omega)).mono ?_
  rintro e w3 ⟨⟨ad17, cp18, bd20, dp21, lo22, up23, lo24, up25, rfl, s26, s27, g28, g29, d30⟩, hb⟩
  have lc31 := s26.le
  have lc32 := s27.le
  have s26u := s26.1
  have s27u := s27.1
  have zw3 : w2.heap.size ≤ w3.heap.size := hb.size
  replace hx0_0 := cell_keep hb hx0_0 (Nat.le_refl _)
  replace hx0_1 := cell_keep hb hx0_1 (Nat.le_refl _)
  replace hx0_2 := cell_keep hb hx0_2 (Nat.le_refl _)
  replace hb0 := hb0.trans (hb.mono hb0.size)
  clear hb
  have hb := bel_alloc w3 (.cells #[.bool n0, .slice ad17 xs0.length cp18, .slice bd20 ys0.length dp21] 46)
  have zb33 : w3.heap.size + 1 ≤ (World.alloc w3 (.cells #[.bool n0, .slice ad17 xs0.length cp18, .slice bd20 ys0.length dp21] 46)).heap.size := by simp
  replace s26 := s26.below hb s26.1
  replace s27 := s27.below hb s27.1
  replace hx0_0 := cell_keep hb hx0_0 (Nat.le_refl _)
  replace hx0_1 := cell_keep hb hx0_1 (Nat.le_refl _)
  replace hx0_2 := cell_keep hb hx0_2 (Nat.le_refl _)
  have hv34 : (World.alloc w3 (.cells #[.bool n0, .slice ad17 xs0.length cp18, .slice bd20 ys0.length dp21] 46)).cell? ⟨w3.heap.size, 0, none⟩ = some (.bool n0) := cell_box w3 _ _ _ 0 _ (by simp) rfl
  have hv35 : (World.alloc w3 (.cells #[.bool n0, .slice ad17 xs0.length cp18, .slice bd20 ys0.length dp21] 46)).cell? ⟨w3.heap.size, 1, none⟩ = some (.slice ad17 xs0.length cp18) := cell_box w3 _ _ _ 1 _ (by simp) rfl
  have hv36 : (World.alloc w3 (.cells #[.bool n0, .slice ad17 xs0.length cp18, .slice bd20 ys0.length dp21] 46)).cell? ⟨w3.heap.size, 2, none⟩ = some (.slice bd20 ys0.length dp21) := cell_box w3 _ _ _ 2 _ (by simp) rfl
  replace hb0 := hb0.trans (hb.mono hb0.size)
  clear hb
  go_wp2_with fail
  refine (impl_RatText _ _ _ _ _ _ _ _ ⟨s26.rd, lc31, (by omega)⟩ ⟨s27.rd, lc32, (by omega)⟩ (ht.below hb0)).mono ?_
  rintro e w4 ⟨rfl, hb⟩
  have zw4 : (World.alloc w3 (.cells #[.bool n0, .slice ad17 xs0.length cp18, .slice bd20 ys0.length dp21] 46)).heap.size ≤ w4.heap.size := hb.size
  replace s26 := s26.below hb s26.1
  replace s27 := s27.below hb s27.1
  replace hx0_0 := cell_keep hb hx0_0 (Nat.le_refl _)
  replace hx0_1 := cell_keep hb hx0_1 (Nat.le_refl _)
  replace hx0_2 := cell_keep hb hx0_2 (Nat.le_refl _)
  replace hv34 := cell_keep hb hv34 (Nat.le_refl _)
  replace hv35 := cell_keep hb hv35 (Nat.le_refl _)
  replace hv36 := cell_keep hb hv36 (Nat.le_refl _)
  replace hb0 := hb0.trans (hb.mono hb0.size)
  clear hb
  go_upto_region 10 with fail
  go_cut [26] (fun t wx => t = .bool false ∧ Below w4.heap.size w4 wx)
  case first =>
    go_region_with (first | (go_at_call 29; refine (toRat_any _ _ _ _ _ _ _ (World.drew w4) (hp0.1.1.below hb0.drew (Nat.le_refl _)) (hp0.2.1.below hb0.drew (Nat.le_refl _)) ?_ ?_).mono ?_; omega; omega; rintro e wA ⟨⟨adA, cpA, bdA, dpA, loA, upA, loA2, upA2, rfl, sA, sA2, gA, gA2, dA⟩, hbA⟩; replace hbA := (Below.refl (w4).heap.size w4).drew.trans hbA; have qhx0_0 := cell_keep hbA hx0_0 (Nat.le_refl _); have qhx0_1 := cell_keep hbA hx0_1 (Nat.le_refl _); have qhx0_2 := cell_keep hbA hx0_2 (Nat.le_refl _); have qhv34 := cell_keep hbA hv34 (Nat.le_refl _); have qhv35 := cell_keep hbA hv35 (Nat.le_refl _); have qhv36 := cell_keep hbA hv36 (Nat.le_refl _)) | (go_at_call 31; refine (eqRat_same _ _ _ _ _ _ _ _ _ _ _ _ (s26.below hbA s26.1).rd sA.rd (s27.below hbA s27.1).rd sA2.rd ?_ ?_).mono ?_; omega; omega; rintro e wB ⟨rfl, hbB⟩))
    all_goals (go_wp2_with fail; go_meet; exact ⟨rfl, hbA.trans (hbB.mono hbA.size)⟩)
  case rest =>
  obtain ⟨rfl, hb⟩ := hcut
  obtain ⟨w5, hW⟩ : ∃ x : World, x = wc := ⟨_, rfl⟩
  rw [← hW] at hb ⊢
  clear hW
  have zw5 : w4.heap.size ≤ w5.heap.size := hb.size
  replace s26 := s26.below hb s26.1
  replace s27 := s27.below hb s27.1
  replace hx0_0 := cell_keep hb hx0_0 (Nat.le_refl _)
  replace hx0_1 := cell_keep hb hx0_1 (Nat.le_refl _)
  replace hx0_2 := cell_keep hb hx0_2 (Nat.le_refl _)
  replace hv34 := cell_keep hb hv34 (Nat.le_refl _)
  replace hv35 := cell_keep hb hv35 (Nat.le_refl _)
  replace hv36 := cell_keep hb hv36 (Nat.le_refl _)
  replace hb0 := hb0.trans (hb.mono hb0.size)
  clear hb
  go_wp2
  go_ret
  exact ⟨rfl, hb0⟩

theorem own : ownKnob Tryd.prog.godebug = none := by kernel_rfl
theorem laidOut : laidOutB Tryd.prog = true := by kernel_rfl
theorem door_met (os : Os) (args : Array Value) : laidMetH Tryd.prog Rows.fnExactRatTextRow.laid ((World.doorLaid Tryd.prog 62 os).forCall (fun _ _ => 0) ⟨#[], args, []⟩).memory :=
  laidMetH_of_parts3 (fuel := 8) (laidMet_of_run' 8 (by kernel_rfl) (by kernel_rfl)) (by kernel_rfl) (by kernel_rfl)
theorem tab_laid {W : World} (h : laidMetH Tryd.prog Rows.fnExactRatTextRow.laid W) : Tab W := by
  rw [MakeChecks.laidMetH_plain _ _ _ (by kernel_rfl)] at h
  have h2 : laidMet Tryd.prog (("internal/strconv.uint64pow10", Lib.tabData .u64 Lib.pow10Tab) :: []) W := h.tail.tail
  exact Lib.tabIs_of_head tabG (by kernel_rfl) Tryd.underlying100 Tryd.underlying74 (by kernel_rfl) (by kernel_rfl) h2
set_option maxRecDepth 100000 in
theorem lifted (os : Os) (started : os.Started) (H : Type) (enc : TypeId × Value → H) :
    ReturnsInHanded {} Tryd.checked os 9 .any (fun w args => (Rows.fnExactRatTextSpec.pre enc Tryd.prog Tryd.f9 [] false w args ∧ laidMetH Tryd.prog Rows.fnExactRatTextRow.laid w) ∧ sizedMet enc Tryd.prog Tryd.f9 (OpenSpec.ofChange Rows.fnExactRatTextSpec) false w args)
      (Rows.fnExactRatTextSpec.post enc Tryd.prog Tryd.f9 false true false false) := by
  refine returnsInHanded_of_change_and (C := Tryd.checked) (X := fun w _ => laidMetH Tryd.prog Rows.fnExactRatTextRow.laid w) (fun _ _ _ hh h => h.of_heap hh) own started (by kernel_rfl) Tryd.func9
    (ChangeSpec.witness_shaped (enc := enc) (C := Tryd.checked) (os := os) (X := fun w _ => laidMetH Tryd.prog Rows.fnExactRatTextRow.laid w) false (World.doorLaid Tryd.prog 62 os) #[.agg #[.bool false, .slice none 0 0, .slice none 0 0]] 8 rfl (World.shaped_of_RefB (by kernel_rfl) (by kernel_rfl)) (by kernel_rfl) (by kernel_rfl) (by kernel_rfl) (door_met os _)) ?_
  intro W base args ds gs before hval0 hW _ _ hL _
  have hval : ∀ (j : Nat) t v, Tryd.f9.params[j]? = some t → args[j]? = some v → Value.okWide Tryd.prog W .any base t v := hval0
  have hW' := hW
  obtain ⟨p, q, hA0, hV, rfl, hfz, hnd⟩ := hW
  have hA : DataW.TrodAll enc Tryd.prog W 0 (fun _ => true) true Tryd.f9.params.toList args.toList ds p := hA0
  rw [Tryd.params9] at hA hval
  obtain ⟨v0, vs0, d0, ds0, p0, q0, hargs, rfl, rfl, h0, r0⟩ := trodAll_cons hA
  obtain ⟨rfl, rfl, rfl⟩ := trodAll_nil r0
  obtain rfl : args = #[v0] := by cases args; simp_all
  obtain ⟨rfl, rfl⟩ := trodVars_none hV
  have k0 := h0
  have lt0 : ∀ x ∈ p0, x.block < W.heap.size := by obtain ⟨m, hm⟩ := k0; exact DataW.trod_lt m _ _ _ hm
  obtain ⟨n0, a0, cap0, xs0, b0, dap0, ys0, rfl, w0⟩ := open_rat (hval 0 42 v0 rfl rfl) h0 rfl
  clear hA0 hval0
  refine (walk n0 a0 cap0 xs0 b0 dap0 ys0 W (tab_laid hL) w0).mono fun e W' ⟨he, bel⟩ => ?_
  subst he
  exact ⟨_, rfl, _, _, _, [], _, [], hW', trodAll_mk1 (shut_bool Tryd.underlying4 _), (trodAll_cons_mk (Below.trod laidOut (by kernel_rfl) (of_decide_eq_true (by kernel_rfl)) k0 bel lt0) trodAll_mk0), rfl, bel.frame _, fun h => by cases h⟩

theorem over : Rows.fnExactRatTextRow.holds Tryd.pinned (OpenSpec.ofChange Rows.fnExactRatTextSpec) :=
  OpenClaim.holds_of_wide 9 Tryd.f9 rfl rfl rfl rfl rfl rfl rfl ⟨rfl, rfl, rfl, rfl, rfl⟩ rfl rfl rfl rfl rfl (by kernel_rfl) Tryd.func9 (by kernel_rfl)
    (of_decide_eq_true (by kernel_rfl)) (by unfold Func.isWrapper; first | (rw [if_pos (by decide +kernel)]; kernel_rfl) | (rw [if_neg (by decide +kernel)]; exact ⟨rfl, rfl⟩))
    (fun os started H enc _ => lifted os started H enc)

theorem proved : Rows.FnExactRatTextCardSaid :=
  Claim7.holds_tied_plain_at .later [] [.data, .data, .data] true (true, "b3284cd137c3dfebdeffcab80f103949ae2191ea951abc9e19d2f74fc684b4c4") true
    over (fun _ h => by cases h) (by kernel_rfl) (fun _ h => by cases h) fnExactRatText_row_tie rfl ⟨rfl, rfl⟩ (by kernel_rfl) rfl
    (fun f fn hf hfn => by
      obtain rfl : f = 9 := Option.some.inj ((show Tryd.prog.funcNamed Rows.fnExactRatTextRow.func = some 9 by kernel_rfl).symm.trans hf) |>.symm
      obtain rfl : fn = Tryd.f9 := (Option.some.inj (Tryd.func9.symm.trans hfn)).symm
      exact ⟨by kernel_rfl, fun j t ht => by
        rw [Tryd.params9] at ht
        have hm : t ∈ [42] := by simpa using Array.mem_of_getElem? ht
        have hall : ([42].all fun u => !Tryd.prog.wantsStandIn u) = true := by kernel_rfl
        exact (show Tryd.prog.wantsStandIn t = false by simpa using List.all_eq_true.1 hall t hm)⟩)
    (by kernel_rfl)
#print axioms proved
end Go.Proofs.YtmakcgiekfcofaaDoor.fnExactRatText
