/- The law FnExactStrInt answers true at every input. No condition. (The walk is printed by gen_law.py off the law's text.) -/
import Derived.Test.YtmkhpeddmifdkaaRows
import Derived.Test.YtmkhpeddmifdkaaWStrInt
import Derived.Test.YtmkhpeddmifdkaaWIntFm
import Derived.Test.YtmkhpeddmifdkaaWEqInt
import Derived.Test.YtmkhpeddmifdkaaWMark
import Derived.ProofKit
import Derived.OpenShut
import Derived.ShutString
import Derived.ChangeOld
import Derived.Lib.SmallJoins
import Derived.Deep.RegionWith
import Derived.Deep.RegionHeld3
import Derived.Deep.DeepCutAuto
import Derived.Below
namespace Go.Proofs.Ytmkhpeddmifdkaa.fnExactStrInt
open Go.ChangeShapes Go.WideShapes Go.ChangeAt Go.RowKit
open Go.ChangeMaps (open_string shut_string)
set_option linter.unusedVariables false

set_option maxRecDepth 100000 in
set_option maxHeartbeats 4000000 in
theorem walk (a0 : ByteArray) (w : World) (hp0 : a0.size ≤ maxLen) :
    Calls Try.prog 8 #[.string a0] w fun e w' => e = .returned (.bool true) ∧ Below w.heap.size w w' := by
  have hb0 := Below.refl w.heap.size w
  unfold maxLen at hp0
  by_cases hl0 : 1048576 < a0.size
  · go_enter Try.func8, Try.ntmps8
    go_wp2
    go_ret
    exact ⟨rfl, Below.refl _ _⟩
  go_enter Try.func8, Try.ntmps8
  go_wp2_with fail
  refine (spec_StrInt _ _ (by omega)).mono ?_
  rintro e w1 ⟨⟨ad1, cp2, rfl, ho3, hn4⟩, hb⟩
  have s5 := Slot.of ho3
  have lc6 := (ho3.inn (by omega)).2.1
  clear ho3
  have zw1 : w.heap.size ≤ w1.heap.size := hb.size
  replace hb0 := hb0.trans (hb.mono hb0.size)
  clear hb
  have hb := bel_alloc w1 (.cells #[.bool (fStrInt a0.data.toList).1.1, .slice ad1 (fStrInt a0.data.toList).1.2.length cp2] 27)
  have zb7 : w1.heap.size + 1 ≤ (World.alloc w1 (.cells #[.bool (fStrInt a0.data.toList).1.1, .slice ad1 (fStrInt a0.data.toList).1.2.length cp2] 27)).heap.size := by simp
  replace s5 := s5.below hb s5.1
  have hv8 : (World.alloc w1 (.cells #[.bool (fStrInt a0.data.toList).1.1, .slice ad1 (fStrInt a0.data.toList).1.2.length cp2] 27)).cell? ⟨w1.heap.size, 0, none⟩ = some (.bool (fStrInt a0.data.toList).1.1) := cell_box w1 _ _ _ 0 _ (by simp) rfl
  have hv9 : (World.alloc w1 (.cells #[.bool (fStrInt a0.data.toList).1.1, .slice ad1 (fStrInt a0.data.toList).1.2.length cp2] 27)).cell? ⟨w1.heap.size, 1, none⟩ = some (.slice ad1 (fStrInt a0.data.toList).1.2.length cp2) := cell_box w1 _ _ _ 1 _ (by simp) rfl
  replace hb0 := hb0.trans (hb.mono hb0.size)
  clear hb
  go_wp2_with fail
  refine (impl_StrInt _ _ (by omega)).mono ?_
  rintro e w2 ⟨⟨ad10, cp11, rfl, ho12, hn13⟩, hb⟩
  have s14 := Slot.of ho12
  have lc15 := (ho12.inn (by omega)).2.1
  clear ho12
  have zw2 : (World.alloc w1 (.cells #[.bool (fStrInt a0.data.toList).1.1, .slice ad1 (fStrInt a0.data.toList).1.2.length cp2] 27)).heap.size ≤ w2.heap.size := hb.size
  replace s5 := s5.below hb s5.1
  replace hv8 := cell_keep hb hv8 (Nat.le_refl _)
  replace hv9 := cell_keep hb hv9 (Nat.le_refl _)
  replace hb0 := hb0.trans (hb.mono hb0.size)
  clear hb
  have hb := bel_alloc w2 (.cells #[.bool (fStrInt a0.data.toList).1.1, .slice ad10 (fStrInt a0.data.toList).1.2.length cp11] 27)
  have zb16 : w2.heap.size + 1 ≤ (World.alloc w2 (.cells #[.bool (fStrInt a0.data.toList).1.1, .slice ad10 (fStrInt a0.data.toList).1.2.length cp11] 27)).heap.size := by simp
  replace s5 := s5.below hb s5.1
  replace s14 := s14.below hb s14.1
  replace hv8 := cell_keep hb hv8 (Nat.le_refl _)
  replace hv9 := cell_keep hb hv9 (Nat.le_refl _)
  have hv17 : (World.alloc w2 (.cells #[.bool (fStrInt a0.data.toList).1.1, .slice ad10 (fStrInt a0.data.toList).1.2.length cp11] 27)).cell? ⟨w2.heap.size, 0, none⟩ = some (.bool (fStrInt a0.data.toList).1.1) := cell_box w2 _ _ _ 0 _ (by simp) rfl
  have hv18 : (World.alloc w2 (.cells #[.bool (fStrInt a0.data.toList).1.1, .slice ad10 (fStrInt a0.data.toList).1.2.length cp11] 27)).cell? ⟨w2.heap.size, 1, none⟩ = some (.slice ad10 (fStrInt a0.data.toList).1.2.length cp11) := cell_box w2 _ _ _ 1 _ (by simp) rfl
  replace hb0 := hb0.trans (hb.mono hb0.size)
  clear hb
  go_wp2_with fail
  refine (eqSigned_same _ _ _ _ _ _ _ s14.rd s5.rd (by omega)).mono ?_
  rintro e w3 ⟨rfl, hb⟩
  have zw3 : (World.alloc w2 (.cells #[.bool (fStrInt a0.data.toList).1.1, .slice ad10 (fStrInt a0.data.toList).1.2.length cp11] 27)).heap.size ≤ w3.heap.size := hb.size
  replace s5 := s5.below hb s5.1
  replace s14 := s14.below hb s14.1
  replace hv8 := cell_keep hb hv8 (Nat.le_refl _)
  replace hv9 := cell_keep hb hv9 (Nat.le_refl _)
  replace hv17 := cell_keep hb hv17 (Nat.le_refl _)
  replace hv18 := cell_keep hb hv18 (Nat.le_refl _)
  replace hb0 := hb0.trans (hb.mono hb0.size)
  clear hb
  go_wp2_with fail
  refine (markSigned_any _ _ _ _ _ _ _ _ s14 (by omega) (by omega)).mono ?_
  rintro e w4 ⟨rfl, s19, hw⟩
  replace s5 := s5.wr hw (by omega)
  clear s14
  replace hb0 := below_wr hb0 hw (by omega) hb0.size
  have zw4 : w3.heap.size ≤ w4.heap.size := hw.size
  replace hv8 := cell_keep_wr hw hv8 (by omega)
  replace hv9 := cell_keep_wr hw hv9 (by omega)
  replace hv17 := cell_keep_wr hw hv17 (by omega)
  replace hv18 := cell_keep_wr hw hv18 (by omega)
  clear hw
  go_wp2_with fail
  refine (heldSigned_any _ _ _ _ _ _ s19.rd (by omega) (by omega)).mono ?_
  rintro e w5 ⟨rfl, hb⟩
  have zw5 : w4.heap.size ≤ w5.heap.size := hb.size
  replace s5 := s5.below hb s5.1
  replace s19 := s19.below hb s19.1
  replace hv8 := cell_keep hb hv8 (Nat.le_refl _)
  replace hv9 := cell_keep hb hv9 (Nat.le_refl _)
  replace hv17 := cell_keep hb hv17 (Nat.le_refl _)
  replace hv18 := cell_keep hb hv18 (Nat.le_refl _)
  replace hb0 := hb0.trans (hb.mono hb0.size)
  clear hb
  go_wp2_with fail
  refine (impl_StrInt _ _ (by omega)).mono ?_
  rintro e w6 ⟨⟨ad20, cp21, rfl, ho22, hn23⟩, hb⟩
  have s24 := Slot.of ho22
  have lc25 := (ho22.inn (by omega)).2.1
  clear ho22
  have zw6 : w5.heap.size ≤ w6.heap.size := hb.size
  replace s5 := s5.below hb s5.1
  replace s19 := s19.below hb s19.1
  replace hv8 := cell_keep hb hv8 (Nat.le_refl _)
  replace hv9 := cell_keep hb hv9 (Nat.le_refl _)
  replace hv17 := cell_keep hb hv17 (Nat.le_refl _)
  replace hv18 := cell_keep hb hv18 (Nat.le_refl _)
  replace hb0 := hb0.trans (hb.mono hb0.size)
  clear hb
  have hb := bel_alloc w6 (.cells #[.bool (fStrInt a0.data.toList).1.1, .slice ad20 (fStrInt a0.data.toList).1.2.length cp21] 27)
  have zb26 : w6.heap.size + 1 ≤ (World.alloc w6 (.cells #[.bool (fStrInt a0.data.toList).1.1, .slice ad20 (fStrInt a0.data.toList).1.2.length cp21] 27)).heap.size := by simp
  replace s5 := s5.below hb s5.1
  replace s19 := s19.below hb s19.1
  replace s24 := s24.below hb s24.1
  replace hv8 := cell_keep hb hv8 (Nat.le_refl _)
  replace hv9 := cell_keep hb hv9 (Nat.le_refl _)
  replace hv17 := cell_keep hb hv17 (Nat.le_refl _)
  replace hv18 := cell_keep hb hv18 (Nat.le_refl _)
  have hv27 : (World.alloc w6 (.cells #[.bool (fStrInt a0.data.toList).1.1, .slice ad20 (fStrInt a0.data.toList).1.2.length cp21] 27)).cell? ⟨w6.heap.size, 0, none⟩ = some (.bool (fStrInt a0.data.toList).1.1) := cell_box w6 _ _ _ 0 _ (by simp) rfl
  have hv28 : (World.alloc w6 (.cells #[.bool (fStrInt a0.data.toList).1.1, .slice ad20 (fStrInt a0.data.toList).1.2.length cp21] 27)).cell? ⟨w6.heap.size, 1, none⟩ = some (.slice ad20 (fStrInt a0.data.toList).1.2.length cp21) := cell_box w6 _ _ _ 1 _ (by simp) rfl
  replace hb0 := hb0.trans (hb.mono hb0.size)
  clear hb
  go_wp2_with fail
  refine (eqSigned_same _ _ _ _ _ _ _ s24.rd s5.rd (by omega)).mono ?_
  rintro e w7 ⟨rfl, hb⟩
  have zw7 : (World.alloc w6 (.cells #[.bool (fStrInt a0.data.toList).1.1, .slice ad20 (fStrInt a0.data.toList).1.2.length cp21] 27)).heap.size ≤ w7.heap.size := hb.size
  replace s5 := s5.below hb s5.1
  replace s19 := s19.below hb s19.1
  replace s24 := s24.below hb s24.1
  replace hv8 := cell_keep hb hv8 (Nat.le_refl _)
  replace hv9 := cell_keep hb hv9 (Nat.le_refl _)
  replace hv17 := cell_keep hb hv17 (Nat.le_refl _)
  replace hv18 := cell_keep hb hv18 (Nat.le_refl _)
  replace hv27 := cell_keep hb hv27 (Nat.le_refl _)
  replace hv28 := cell_keep hb hv28 (Nat.le_refl _)
  replace hb0 := hb0.trans (hb.mono hb0.size)
  clear hb
  go_wp2_with fail
  refine (heldSigned_any _ _ _ _ _ _ s19.rd (by omega) (by omega)).mono ?_
  rintro e w8 ⟨rfl, hb⟩
  have zw8 : w7.heap.size ≤ w8.heap.size := hb.size
  replace s5 := s5.below hb s5.1
  replace s19 := s19.below hb s19.1
  replace s24 := s24.below hb s24.1
  replace hv8 := cell_keep hb hv8 (Nat.le_refl _)
  replace hv9 := cell_keep hb hv9 (Nat.le_refl _)
  replace hv17 := cell_keep hb hv17 (Nat.le_refl _)
  replace hv18 := cell_keep hb hv18 (Nat.le_refl _)
  replace hv27 := cell_keep hb hv27 (Nat.le_refl _)
  replace hv28 := cell_keep hb hv28 (Nat.le_refl _)
  replace hb0 := hb0.trans (hb.mono hb0.size)
  clear hb
  go_wp2
  go_ret
  exact ⟨rfl, hb0⟩

theorem own : ownKnob Try.prog.godebug = none := by kernel_rfl
theorem laidOut : laidOutB Try.prog = true := by kernel_rfl
set_option maxRecDepth 100000 in
theorem lifted (os : Os) (started : os.Started) (H : Type) (enc : TypeId × Value → H) :
    ReturnsInHanded {} Try.checked os 8 .any (Rows.fnExactStrIntSpec.pre6 enc Try.prog Try.f8 Rows.fnExactStrIntRow.domain false) (Rows.fnExactStrIntSpec.post enc Try.prog Try.f8 false true false false) := by
  refine returnsInHanded_of_change (C := Try.checked) own started (by kernel_rfl) Try.func8
    (ChangeSpec.witness6 (enc := enc) (C := Try.checked) false ⟨#[], #[.string ByteArray.empty], []⟩ 8 (by kernel_rfl) (by kernel_rfl) (by kernel_rfl) (by kernel_rfl)) ?_
  intro W base args ds gs before hval0 hW hcnd _
  have hval : ∀ (j : Nat) t v, Try.f8.params[j]? = some t → args[j]? = some v → Value.okWide Try.prog W .any base t v := hval0
  have hW' := hW
  obtain ⟨p, q, hA0, hV, rfl, hfz, hnd⟩ := hW
  have hA : DataW.TrodAll enc Try.prog W 0 (fun _ => true) true Try.f8.params.toList args.toList ds p := hA0
  rw [Try.params8] at hA hval
  obtain ⟨v0, vs0, d0, ds0, p0, q0, hargs, rfl, rfl, h0, r0⟩ := trodAll_cons hA
  obtain ⟨rfl, rfl, rfl⟩ := trodAll_nil r0
  obtain rfl : args = #[v0] := by cases args; simp_all
  obtain ⟨rfl, rfl⟩ := trodVars_none hV
  have k0 := h0
  have lt0 : ∀ x ∈ p0, x.block < W.heap.size := by obtain ⟨m, hm⟩ := k0; exact DataW.trod_lt m _ _ _ hm
  obtain ⟨a0, rfl, rfl, rfl, w0⟩ := open_string Try.underlying9 (hval 0 9 v0 rfl rfl) h0
  clear hA0 hval0
  refine (walk a0 W w0).mono fun e W' ⟨he, bel⟩ => ?_
  subst he
  exact ⟨_, rfl, _, _, _, [], _, [], hW', trodAll_mk1 (shut_bool Try.underlying4 _), (trodAll_cons_mk (Below.trod laidOut (by kernel_rfl) (of_decide_eq_true (by kernel_rfl)) k0 bel lt0) trodAll_mk0), rfl, bel.frame _, fun h => by cases h⟩

theorem over : Rows.fnExactStrIntRow.holds Try.pinned (OpenSpec.ofChange Rows.fnExactStrIntSpec) :=
  OpenClaim.holds_of_wide 8 Try.f8 rfl rfl rfl rfl rfl rfl rfl ⟨rfl, rfl, rfl, rfl, rfl⟩ rfl rfl rfl rfl rfl (by kernel_rfl) Try.func8 (by kernel_rfl)
    (of_decide_eq_true (by kernel_rfl)) (by unfold Func.isWrapper; first | (rw [if_pos (by decide +kernel)]; kernel_rfl) | (rw [if_neg (by decide +kernel)]; exact ⟨rfl, rfl⟩))
    (fun os started H enc _ => lifted os started H enc)

theorem proved : Rows.FnExactStrIntSaid := over
#print axioms proved
end Go.Proofs.Ytmkhpeddmifdkaa.fnExactStrInt
