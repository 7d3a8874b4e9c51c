/- The law FnExactTextRat answers true at every input. No condition. (The walk is printed by gen_law.py off the law's text.) -/
import Derived.Test.YtmakcgiekfcofaaRows
import Derived.Test.YtmakcgiekfcofaaWTextRatM
import Derived.ProofKit
import Derived.OpenShut
import Derived.ShutString
import Derived.ChangeOld
import Derived.Lib.SmallJoins
import Derived.Deep.RegionWith
import Derived.Deep.RegionHeld3
import Derived.Deep.DeepCutAuto
import Derived.Below
namespace Go.Proofs.Ytmakcgiekfcofaa.fnExactTextRat
open Go.ChangeShapes Go.WideShapes Go.ChangeAt Go.RowKit
open Go.ChangeMaps (open_string shut_string)
set_option linter.unusedVariables false

set_option maxRecDepth 100000 in
set_option maxHeartbeats 40000000 in
theorem walk (a0 : ByteArray) (w : World) (hp0 : a0.size ≤ maxLen) :
    Calls Try.prog 3 #[.string a0] w fun e w' => e = .returned (.bool true) ∧ Below w.heap.size w w' := by
  have hb0 := Below.refl w.heap.size w
  unfold maxLen at hp0
  by_cases hl0 : 1048576 < a0.size
  · go_enter Try.func3, Try.ntmps3
    go_wp2
    go_ret
    exact ⟨rfl, Below.refl _ _⟩
  go_enter Try.func3, Try.ntmps3
  go_wp2_with fail
  refine (spec_TextRat _ _ (by omega)).mono ?_
  rintro e w1 ⟨⟨ad1, cp2, bd3, dp4, rfl, ho5, hn6, ho7, hn8⟩, hb⟩
  have s9 := Slot.of ho5
  have lc10 := (ho5.inn (by omega)).2.1
  clear ho5
  have s11 := Slot.of ho7
  have lc12 := (ho7.inn (by omega)).2.1
  clear ho7
  have zw1 : w.heap.size ≤ w1.heap.size := hb.size
  replace hb0 := hb0.trans (hb.mono hb0.size)
  clear hb
  have hb := bel_alloc w1 (.cells #[.bool (fTextRat a0).1.1, .slice ad1 (fTextRat a0).1.2.1.length cp2, .slice bd3 (fTextRat a0).1.2.2.length dp4] 26)
  have zb13 : w1.heap.size + 1 ≤ (World.alloc w1 (.cells #[.bool (fTextRat a0).1.1, .slice ad1 (fTextRat a0).1.2.1.length cp2, .slice bd3 (fTextRat a0).1.2.2.length dp4] 26)).heap.size := by simp
  replace s9 := s9.below hb s9.1
  replace s11 := s11.below hb s11.1
  have hv14 : (World.alloc w1 (.cells #[.bool (fTextRat a0).1.1, .slice ad1 (fTextRat a0).1.2.1.length cp2, .slice bd3 (fTextRat a0).1.2.2.length dp4] 26)).cell? ⟨w1.heap.size, 0, none⟩ = some (.bool (fTextRat a0).1.1) := cell_box w1 _ _ _ 0 _ (by simp) rfl
  have hv15 : (World.alloc w1 (.cells #[.bool (fTextRat a0).1.1, .slice ad1 (fTextRat a0).1.2.1.length cp2, .slice bd3 (fTextRat a0).1.2.2.length dp4] 26)).cell? ⟨w1.heap.size, 1, none⟩ = some (.slice ad1 (fTextRat a0).1.2.1.length cp2) := cell_box w1 _ _ _ 1 _ (by simp) rfl
  have hv16 : (World.alloc w1 (.cells #[.bool (fTextRat a0).1.1, .slice ad1 (fTextRat a0).1.2.1.length cp2, .slice bd3 (fTextRat a0).1.2.2.length dp4] 26)).cell? ⟨w1.heap.size, 2, none⟩ = some (.slice bd3 (fTextRat a0).1.2.2.length dp4) := cell_box w1 _ _ _ 2 _ (by simp) rfl
  replace hb0 := hb0.trans (hb.mono hb0.size)
  clear hb
  go_wp2_with fail
  refine (impl_TextRat _ _ (by omega)).mono ?_
  rintro e w2 ⟨⟨ad17, cp18, bd19, dp20, lo21, up22, lo23, up24, rfl, s25, hn26, s27, hn28, g29, g30, d31⟩, hb⟩
  have s25u := s25.1
  have s27u := s27.1
  have zw2 : (World.alloc w1 (.cells #[.bool (fTextRat a0).1.1, .slice ad1 (fTextRat a0).1.2.1.length cp2, .slice bd3 (fTextRat a0).1.2.2.length dp4] 26)).heap.size ≤ w2.heap.size := hb.size
  replace s9 := s9.below hb s9.1
  replace s11 := s11.below hb s11.1
  replace hv14 := cell_keep hb hv14 (Nat.le_refl _)
  replace hv15 := cell_keep hb hv15 (Nat.le_refl _)
  replace hv16 := cell_keep hb hv16 (Nat.le_refl _)
  replace hb0 := hb0.trans (hb.mono hb0.size)
  clear hb
  have hb := bel_alloc w2 (.cells #[.bool (fTextRat a0).1.1, .slice ad17 (fTextRat a0).1.2.1.length cp18, .slice bd19 (fTextRat a0).1.2.2.length dp20] 26)
  have zb32 : w2.heap.size + 1 ≤ (World.alloc w2 (.cells #[.bool (fTextRat a0).1.1, .slice ad17 (fTextRat a0).1.2.1.length cp18, .slice bd19 (fTextRat a0).1.2.2.length dp20] 26)).heap.size := by simp
  replace s9 := s9.below hb s9.1
  replace s11 := s11.below hb s11.1
  replace s25 := s25.below hb s25.1
  replace s27 := s27.below hb s27.1
  replace hv14 := cell_keep hb hv14 (Nat.le_refl _)
  replace hv15 := cell_keep hb hv15 (Nat.le_refl _)
  replace hv16 := cell_keep hb hv16 (Nat.le_refl _)
  have hv33 : (World.alloc w2 (.cells #[.bool (fTextRat a0).1.1, .slice ad17 (fTextRat a0).1.2.1.length cp18, .slice bd19 (fTextRat a0).1.2.2.length dp20] 26)).cell? ⟨w2.heap.size, 0, none⟩ = some (.bool (fTextRat a0).1.1) := cell_box w2 _ _ _ 0 _ (by simp) rfl
  have hv34 : (World.alloc w2 (.cells #[.bool (fTextRat a0).1.1, .slice ad17 (fTextRat a0).1.2.1.length cp18, .slice bd19 (fTextRat a0).1.2.2.length dp20] 26)).cell? ⟨w2.heap.size, 1, none⟩ = some (.slice ad17 (fTextRat a0).1.2.1.length cp18) := cell_box w2 _ _ _ 1 _ (by simp) rfl
  have hv35 : (World.alloc w2 (.cells #[.bool (fTextRat a0).1.1, .slice ad17 (fTextRat a0).1.2.1.length cp18, .slice bd19 (fTextRat a0).1.2.2.length dp20] 26)).cell? ⟨w2.heap.size, 2, none⟩ = some (.slice bd19 (fTextRat a0).1.2.2.length dp20) := cell_box w2 _ _ _ 2 _ (by simp) rfl
  replace hb0 := hb0.trans (hb.mono hb0.size)
  clear hb
  go_wp2_with fail
  refine (eqRat_same _ _ _ _ _ _ _ _ _ _ _ _ s25.rd s9.rd s27.rd s11.rd (by omega) (by omega)).mono ?_
  rintro e w3 ⟨rfl, hb⟩
  have zw3 : (World.alloc w2 (.cells #[.bool (fTextRat a0).1.1, .slice ad17 (fTextRat a0).1.2.1.length cp18, .slice bd19 (fTextRat a0).1.2.2.length dp20] 26)).heap.size ≤ w3.heap.size := hb.size
  replace s9 := s9.below hb s9.1
  replace s11 := s11.below hb s11.1
  replace s25 := s25.below hb s25.1
  replace s27 := s27.below hb s27.1
  replace hv14 := cell_keep hb hv14 (Nat.le_refl _)
  replace hv15 := cell_keep hb hv15 (Nat.le_refl _)
  replace hv16 := cell_keep hb hv16 (Nat.le_refl _)
  replace hv33 := cell_keep hb hv33 (Nat.le_refl _)
  replace hv34 := cell_keep hb hv34 (Nat.le_refl _)
  replace hv35 := cell_keep hb hv35 (Nat.le_refl _)
  replace hb0 := hb0.trans (hb.mono hb0.size)
  clear hb
  go_wp2_with fail
  refine (markRat_any _ _ _ _ _ _ _ _ _ _ _ _ _ s25 s27 d31 (by omega) (by omega) (by omega)).mono ?_
  rintro e w4 ⟨rfl, w5, s36, s37, hw, hw2⟩
  replace s9 := (s9.wr hw (by omega)).wr hw2 (by omega)
  replace s11 := (s11.wr hw (by omega)).wr hw2 (by omega)
  clear s25 s27
  replace hb0 := below_wr hb0 hw (by omega) hb0.size
  replace hb0 := below_wr hb0 hw2 (by omega) hb0.size
  have zw5 : w3.heap.size ≤ w5.heap.size := hw.size
  have zw4 : w5.heap.size ≤ w4.heap.size := hw2.size
  replace hv14 := cell_keep_wr hw2 (cell_keep_wr hw hv14 (by omega)) (by omega)
  replace hv15 := cell_keep_wr hw2 (cell_keep_wr hw hv15 (by omega)) (by omega)
  replace hv16 := cell_keep_wr hw2 (cell_keep_wr hw hv16 (by omega)) (by omega)
  replace hv33 := cell_keep_wr hw2 (cell_keep_wr hw hv33 (by omega)) (by omega)
  replace hv34 := cell_keep_wr hw2 (cell_keep_wr hw hv34 (by omega)) (by omega)
  replace hv35 := cell_keep_wr hw2 (cell_keep_wr hw hv35 (by omega)) (by omega)
  clear hw hw2
  go_wp2_with fail
  refine (heldRat_any _ _ _ _ _ _ _ _ _ s36.rd s37.rd (by omega) (by omega) (by omega)).mono ?_
  rintro e w6 ⟨rfl, hb⟩
  have zw6 : w4.heap.size ≤ w6.heap.size := hb.size
  replace s9 := s9.below hb s9.1
  replace s11 := s11.below hb s11.1
  replace s36 := s36.below hb s36.1
  replace s37 := s37.below hb s37.1
  replace hv14 := cell_keep hb hv14 (Nat.le_refl _)
  replace hv15 := cell_keep hb hv15 (Nat.le_refl _)
  replace hv16 := cell_keep hb hv16 (Nat.le_refl _)
  replace hv33 := cell_keep hb hv33 (Nat.le_refl _)
  replace hv34 := cell_keep hb hv34 (Nat.le_refl _)
  replace hv35 := cell_keep hb hv35 (Nat.le_refl _)
  replace hb0 := hb0.trans (hb.mono hb0.size)
  clear hb
  go_wp2_with fail
  refine (impl_TextRat _ _ (by omega)).mono ?_
  rintro e w7 ⟨⟨ad38, cp39, bd40, dp41, lo42, up43, lo44, up45, rfl, s46, hn47, s48, hn49, g50, g51, d52⟩, hb⟩
  have s46u := s46.1
  have s48u := s48.1
  have zw7 : w6.heap.size ≤ w7.heap.size := hb.size
  replace s9 := s9.below hb s9.1
  replace s11 := s11.below hb s11.1
  replace s36 := s36.below hb s36.1
  replace s37 := s37.below hb s37.1
  replace hv14 := cell_keep hb hv14 (Nat.le_refl _)
  replace hv15 := cell_keep hb hv15 (Nat.le_refl _)
  replace hv16 := cell_keep hb hv16 (Nat.le_refl _)
  replace hv33 := cell_keep hb hv33 (Nat.le_refl _)
  replace hv34 := cell_keep hb hv34 (Nat.le_refl _)
  replace hv35 := cell_keep hb hv35 (Nat.le_refl _)
  replace hb0 := hb0.trans (hb.mono hb0.size)
  clear hb
  have hb := bel_alloc w7 (.cells #[.bool (fTextRat a0).1.1, .slice ad38 (fTextRat a0).1.2.1.length cp39, .slice bd40 (fTextRat a0).1.2.2.length dp41] 26)
  have zb53 : w7.heap.size + 1 ≤ (World.alloc w7 (.cells #[.bool (fTextRat a0).1.1, .slice ad38 (fTextRat a0).1.2.1.length cp39, .slice bd40 (fTextRat a0).1.2.2.length dp41] 26)).heap.size := by simp
  replace s9 := s9.below hb s9.1
  replace s11 := s11.below hb s11.1
  replace s36 := s36.below hb s36.1
  replace s37 := s37.below hb s37.1
  replace s46 := s46.below hb s46.1
  replace s48 := s48.below hb s48.1
  replace hv14 := cell_keep hb hv14 (Nat.le_refl _)
  replace hv15 := cell_keep hb hv15 (Nat.le_refl _)
  replace hv16 := cell_keep hb hv16 (Nat.le_refl _)
  replace hv33 := cell_keep hb hv33 (Nat.le_refl _)
  replace hv34 := cell_keep hb hv34 (Nat.le_refl _)
  replace hv35 := cell_keep hb hv35 (Nat.le_refl _)
  have hv54 : (World.alloc w7 (.cells #[.bool (fTextRat a0).1.1, .slice ad38 (fTextRat a0).1.2.1.length cp39, .slice bd40 (fTextRat a0).1.2.2.length dp41] 26)).cell? ⟨w7.heap.size, 0, none⟩ = some (.bool (fTextRat a0).1.1) := cell_box w7 _ _ _ 0 _ (by simp) rfl
  have hv55 : (World.alloc w7 (.cells #[.bool (fTextRat a0).1.1, .slice ad38 (fTextRat a0).1.2.1.length cp39, .slice bd40 (fTextRat a0).1.2.2.length dp41] 26)).cell? ⟨w7.heap.size, 1, none⟩ = some (.slice ad38 (fTextRat a0).1.2.1.length cp39) := cell_box w7 _ _ _ 1 _ (by simp) rfl
  have hv56 : (World.alloc w7 (.cells #[.bool (fTextRat a0).1.1, .slice ad38 (fTextRat a0).1.2.1.length cp39, .slice bd40 (fTextRat a0).1.2.2.length dp41] 26)).cell? ⟨w7.heap.size, 2, none⟩ = some (.slice bd40 (fTextRat a0).1.2.2.length dp41) := cell_box w7 _ _ _ 2 _ (by simp) rfl
  replace hb0 := hb0.trans (hb.mono hb0.size)
  clear hb
  go_wp2_with fail
  refine (eqRat_same _ _ _ _ _ _ _ _ _ _ _ _ s46.rd s9.rd s48.rd s11.rd (by omega) (by omega)).mono ?_
  rintro e w8 ⟨rfl, hb⟩
  have zw8 : (World.alloc w7 (.cells #[.bool (fTextRat a0).1.1, .slice ad38 (fTextRat a0).1.2.1.length cp39, .slice bd40 (fTextRat a0).1.2.2.length dp41] 26)).heap.size ≤ w8.heap.size := hb.size
  replace s9 := s9.below hb s9.1
  replace s11 := s11.below hb s11.1
  replace s36 := s36.below hb s36.1
  replace s37 := s37.below hb s37.1
  replace s46 := s46.below hb s46.1
  replace s48 := s48.below hb s48.1
  replace hv14 := cell_keep hb hv14 (Nat.le_refl _)
  replace hv15 := cell_keep hb hv15 (Nat.le_refl _)
  replace hv16 := cell_keep hb hv16 (Nat.le_refl _)
  replace hv33 := cell_keep hb hv33 (Nat.le_refl _)
  replace hv34 := cell_keep hb hv34 (Nat.le_refl _)
  replace hv35 := cell_keep hb hv35 (Nat.le_refl _)
  replace hv54 := cell_keep hb hv54 (Nat.le_refl _)
  replace hv55 := cell_keep hb hv55 (Nat.le_refl _)
  replace hv56 := cell_keep hb hv56 (Nat.le_refl _)
  replace hb0 := hb0.trans (hb.mono hb0.size)
  clear hb
  go_wp2_with fail
  refine (heldRat_any _ _ _ _ _ _ _ _ _ s36.rd s37.rd (by omega) (by omega) (by omega)).mono ?_
  rintro e w9 ⟨rfl, hb⟩
  have zw9 : w8.heap.size ≤ w9.heap.size := hb.size
  replace s9 := s9.below hb s9.1
  replace s11 := s11.below hb s11.1
  replace s36 := s36.below hb s36.1
  replace s37 := s37.below hb s37.1
  replace s46 := s46.below hb s46.1
  replace s48 := s48.below hb s48.1
  replace hv14 := cell_keep hb hv14 (Nat.le_refl _)
  replace hv15 := cell_keep hb hv15 (Nat.le_refl _)
  replace hv16 := cell_keep hb hv16 (Nat.le_refl _)
  replace hv33 := cell_keep hb hv33 (Nat.le_refl _)
  replace hv34 := cell_keep hb hv34 (Nat.le_refl _)
  replace hv35 := cell_keep hb hv35 (Nat.le_refl _)
  replace hv54 := cell_keep hb hv54 (Nat.le_refl _)
  replace hv55 := cell_keep hb hv55 (Nat.le_refl _)
  replace hv56 := cell_keep hb hv56 (Nat.le_refl _)
  replace hb0 := hb0.trans (hb.mono hb0.size)
  clear hb
  go_wp2
  go_ret
  exact ⟨rfl, hb0⟩

theorem own : ownKnob Try.prog.godebug = none := by kernel_rfl
theorem laidOut : laidOutB Try.prog = true := by kernel_rfl
set_option maxRecDepth 100000 in
theorem lifted (os : Os) (started : os.Started) (H : Type) (enc : TypeId × Value → H) :
    ReturnsInHanded {} Try.checked os 3 .any (Rows.fnExactTextRatSpec.pre6 enc Try.prog Try.f3 Rows.fnExactTextRatRow.domain false) (Rows.fnExactTextRatSpec.post enc Try.prog Try.f3 false true false false) := by
  refine returnsInHanded_of_change (C := Try.checked) own started (by kernel_rfl) Try.func3
    (ChangeSpec.witness6 (enc := enc) (C := Try.checked) false ⟨#[], #[.string ByteArray.empty], []⟩ 8 (by kernel_rfl) (by kernel_rfl) (by kernel_rfl) (by kernel_rfl)) ?_
  intro W base args ds gs before hval0 hW hcnd _
  have hval : ∀ (j : Nat) t v, Try.f3.params[j]? = some t → args[j]? = some v → Value.okWide Try.prog W .any base t v := hval0
  have hW' := hW
  obtain ⟨p, q, hA0, hV, rfl, hfz, hnd⟩ := hW
  have hA : DataW.TrodAll enc Try.prog W 0 (fun _ => true) true Try.f3.params.toList args.toList ds p := hA0
  rw [Try.params3] at hA hval
  obtain ⟨v0, vs0, d0, ds0, p0, q0, hargs, rfl, rfl, h0, r0⟩ := trodAll_cons hA
  obtain ⟨rfl, rfl, rfl⟩ := trodAll_nil r0
  obtain rfl : args = #[v0] := by cases args; simp_all
  obtain ⟨rfl, rfl⟩ := trodVars_none hV
  have k0 := h0
  have lt0 : ∀ x ∈ p0, x.block < W.heap.size := by obtain ⟨m, hm⟩ := k0; exact DataW.trod_lt m _ _ _ hm
  obtain ⟨a0, rfl, rfl, rfl, w0⟩ := open_string Try.underlying9 (hval 0 9 v0 rfl rfl) h0
  clear hA0 hval0
  refine (walk a0 W w0).mono fun e W' ⟨he, bel⟩ => ?_
  subst he
  exact ⟨_, rfl, _, _, _, [], _, [], hW', trodAll_mk1 (shut_bool Try.underlying4 _), (trodAll_cons_mk (Below.trod laidOut (by kernel_rfl) (of_decide_eq_true (by kernel_rfl)) k0 bel lt0) trodAll_mk0), rfl, bel.frame _, fun h => by cases h⟩

theorem over : Rows.fnExactTextRatRow.holds Try.pinned (OpenSpec.ofChange Rows.fnExactTextRatSpec) :=
  OpenClaim.holds_of_wide 3 Try.f3 rfl rfl rfl rfl rfl rfl rfl ⟨rfl, rfl, rfl, rfl, rfl⟩ rfl rfl rfl rfl rfl (by kernel_rfl) Try.func3 (by kernel_rfl)
    (of_decide_eq_true (by kernel_rfl)) (by unfold Func.isWrapper; first | (rw [if_pos (by decide +kernel)]; kernel_rfl) | (rw [if_neg (by decide +kernel)]; exact ⟨rfl, rfl⟩))
    (fun os started H enc _ => lifted os started H enc)

theorem proved : Rows.FnExactTextRatSaid := over
#print axioms proved
end Go.Proofs.Ytmakcgiekfcofaa.fnExactTextRat
