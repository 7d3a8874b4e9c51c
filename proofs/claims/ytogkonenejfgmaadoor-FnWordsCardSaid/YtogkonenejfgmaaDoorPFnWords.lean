/- The law FnWords answers true at every input. -/
import Derived.Test.YtogkonenejfgmaaDoorRows
import Derived.Test.YtogkonenejfgmaaDoorDraw
import Derived.Test.YtogkonenejfgmaaDoorWords
import Derived.Test.YtogkonenejfgmaaDoorWTextIntI
import Derived.Test.YtogkonenejfgmaaDoorWPadI
import Derived.ProofKit
import Derived.OpenShut
import Derived.ShutString
import Derived.ChangeOld
import Derived.Lib.SmallJoins
import Derived.Deep.RegionWith
import Derived.Deep.RegionHeld3
import Derived.Deep.DeepCutAuto
import Derived.Test.YtogkonenejfgmaaDoorTie
import Derived.Test.YtogkonenejfgmaaDoorCards
import Derived.LaidMore
import Derived.MakeChecks
import Derived.Stop.LaidErr
import Derived.Stop.Joined
import Derived.SevenTiedAt
import Derived.Below
namespace Go.Proofs.YtogkonenejfgmaaDoor.fnWords
open Go.ChangeShapes Go.WideShapes Go.ChangeAt Go.RowKit
open Go.ChangeMaps (open_string shut_string)
open Go.Lib (itoa)
set_option linter.unusedVariables false

set_option maxRecDepth 100000 in
set_option maxHeartbeats 40000000 in
theorem walk (a0 : Option Addr) (c0 : Nat) (xs0 : List Int) (w : World) (ht : Sent w) (hp0 : RdB w w.heap.size a0 xs0 ∧ Byt xs0 ∧ xs0.length ≤ c0 ∧ xs0.length ≤ maxLen) :
    Calls Tryd.prog 3 #[.slice a0 xs0.length c0] w fun e w' => e = .returned (.bool true) ∧ Below w.heap.size w w' := by
  obtain ⟨hr, hby, hc, hm⟩ := hp0
  unfold maxLen at hm
  by_cases hl : 1048576 < xs0.length
  · go_enter Tryd.func3, Tryd.ntmps3
    go_wp2
    go_ret
    exact ⟨rfl, Below.refl _ _⟩
  have hnr := below_rng xs0 2000000 (hashF xs0 + 777, 0) (by omega)
  rw [show (belowF xs0 2000000 (hashF xs0 + 777, 0)).1 = numF xs0 2000000 from rfl] at hnr
  obtain ⟨N, hN⟩ : ∃ N, numF xs0 2000000 = N := ⟨_, rfl⟩
  rw [hN] at hnr
  have HN := Lib.hid hN
  obtain ⟨n, hn⟩ : ∃ n, N = n + 1000000 := ⟨N - 1000000, by omega⟩
  subst hn
  obtain ⟨hn0, hn1⟩ : -1000000 ≤ n ∧ n ≤ 1000000 := by omega
  have HB := Lib.hid hby
  clear hby hN hnr
  obtain ⟨s, hs⟩ : ∃ s, wT n = s := ⟨_, rfl⟩
  have hsz := wT_size (n := n) ⟨hn0, hn1⟩
  rw [hs] at hsz
  obtain ⟨hsz0, hsz1⟩ := hsz
  have hwl := wL_size (n := n) ⟨hn0, hn1⟩
  obtain ⟨hwl0, hwl1⟩ := hwl
  have h8 := itoa_len8 (z := n) ⟨hn0, hn1⟩
  have h8' := itoa_len8 (z := -n) (by omega)
  have hT := tx_size (itoa n)
  have hU := tx_size (itoa (-n))
  have HS := Lib.hid hs
  clear hs
  go_enter Tryd.func3, Tryd.ntmps3
  go_wp2_with fail
  refine (draw_num a0 c0 xs0 2000000 _ hr HB.out (by omega) hc (by omega)).mono ?_
  rintro e w1 ⟨rfl, hb0⟩
  rw [HN.out]
  go_wp2_with fail
  refine (impl_IntText n _ ⟨by omega, by omega⟩ (ht.below hb0).1).mono ?_
  rintro e w2 ⟨rfl, hb⟩
  replace hb0 := hb0.trans (hb.mono hb0.size)
  clear hb
  go_wp2_with fail
  refine (impl_IntText (-n) _ ⟨by omega, by omega⟩ (ht.below hb0).1).mono ?_
  rintro e w3 ⟨rfl, hb⟩
  replace hb0 := hb0.trans (hb.mono hb0.size)
  clear hb
  go_wp2_with fail
  rw [show tx (itoa n) ++ ({ data := #[32] } : ByteArray) ++ tx (itoa (-n)) ++ { data := #[32, 32, 120] } = s from HS.out]
  refine (impl_IntText n _ ⟨by omega, by omega⟩ (ht.below hb0).1).mono ?_
  rintro e w4 ⟨rfl, hb⟩
  replace hb0 := hb0.trans (hb.mono hb0.size)
  clear hb
  go_wp2_with fail
  have hti := impl_TextInt (tx (itoa n)) w4 (by omega) (ht.below hb0)
  rw [tx_list, fTextInt_yes (show i64B n = true by unfold i64B; simp; omega)] at hti
  refine hti.mono ?_
  rintro e w5 ⟨rfl, hb⟩
  replace hb0 := hb0.trans (hb.mono hb0.size)
  clear hb hti
  go_wp2_with fail
  refine (impl_Cut s _ (by omega)).mono ?_
  rintro e w6 ⟨⟨a1, c1, rfl, hos, hlen⟩, hb⟩
  replace hb0 := hb0.trans (hb.mono hb0.size)
  clear hb
  have hw4 : (fCut s).length = 4 := by rw [← HS.out]; exact wT_words n
  have hfj : fJoin (fCut s) ⟨#[32]⟩ = s := fJoin_cut s 32
  have hsm := sumS_cut s 32
  replace hsm : sumS (fCut s) ≤ s.size := hsm
  obtain ⟨W, hW⟩ : ∃ W, fCut s = W := ⟨_, rfl⟩
  rw [hW] at hw4 hfj hsm hos hlen ⊢
  clear hW
  go_wp2_with fail
  refine (impl_IntText n _ ⟨by omega, by omega⟩ (ht.below hb0).1).mono ?_
  rintro e w7 ⟨rfl, hb⟩
  replace hb0 := hb0.trans (hb.mono hb0.size)
  have hor := hos.rd.below hb (Nat.le_refl _)
  have hle := hos.le
  clear hb hos
  go_wp2_with fail
  refine (impl_Pad (tx (itoa n)) 12 _ (by omega) ⟨by omega, by omega⟩).mono ?_
  rintro e w8 ⟨rfl, hb⟩
  replace hb0 := hb0.trans (hb.mono hb0.size)
  replace hor := hor.below hb (Nat.le_refl _)
  clear hb
  have hpd := pad12 (n := n) ⟨hn0, hn1⟩
  go_wp2_with fail
  have hj := impl_Join a1 c1 W ⟨#[32]⟩ w8 hor (by omega) hle (by omega) (by decide)
  rw [hw4, hfj] at hj
  refine hj.mono ?_
  rintro e w9 ⟨rfl, hb⟩
  replace hb0 := hb0.trans (hb.mono hb0.size)
  clear hb hj
  go_wp2_with fail
  refine (impl_CutAt s ⟨#[120]⟩ _ (by omega) (by decide)).mono ?_
  rintro e w10 ⟨⟨a2, c2, rfl, hos2, hlen2⟩, hb⟩
  replace hb0 := hb0.trans (hb.mono hb0.size)
  clear hb hfj hsm hor
  have hfj : fJoin (fCutAt s ⟨#[120]⟩) ⟨#[120]⟩ = s := fJoin_cut s 120
  have hsm := sumS_cut s 120
  have hcnt := fCutAt_count s ⟨#[120]⟩
  have hflt := List.length_filter_le (isSep ⟨#[120]⟩) s.data.toList
  rw [show s.data.toList.length = s.size by simp] at hflt
  replace hcnt : (fCutAt s ⟨#[120]⟩).length ≤ 21 := by omega
  clear hflt
  obtain ⟨W2, hW⟩ : ∃ W, fCutAt s ⟨#[120]⟩ = W := ⟨_, rfl⟩
  rw [hW] at hfj hsm hos2 hlen2 hcnt ⊢
  clear hW
  go_wp2_with fail
  refine (impl_Join a2 c2 W2 ⟨#[120]⟩ w10 hos2.rd (by omega) hos2.le (by omega) (by decide)).mono ?_
  rintro e w11 ⟨rfl, hb⟩
  replace hb0 := hb0.trans (hb.mono hb0.size)
  clear hb hos2
  rw [hfj]
  go_wp2_with fail
  refine (impl_IntText n _ ⟨by omega, by omega⟩ (ht.below hb0).1).mono ?_
  rintro e w12 ⟨rfl, hb⟩
  replace hb0 := hb0.trans (hb.mono hb0.size)
  clear hb
  go_wp2_with fail
  refine (impl_IsDigits (tx (itoa n)) _ (by unfold maxLen; omega)).mono ?_
  rintro e w13 ⟨rfl, rfl⟩
  rw [tx_list, itoa_digits]
  go_wp2_with fail
  refine (impl_Pad ⟨#[]⟩ 3 _ (by decide) ⟨by omega, by omega⟩).mono ?_
  rintro e w14 ⟨rfl, hb⟩
  replace hb0 := hb0.trans (hb.mono hb0.size)
  clear hb
  have hwd := word3
  obtain ⟨p3, hp3⟩ : ∃ p, fPad ⟨#[]⟩ 3 = p := ⟨_, rfl⟩
  have hps : p3.size = 3 := by rw [← hp3]; decide +kernel
  rw [hp3] at hwd ⊢
  clear hp3
  go_wp2_with fail
  refine (impl_IsWord _ _ (by rw [ByteArray.size_append, hps]; decide)).mono ?_
  rintro e w15 ⟨rfl, rfl⟩
  rw [hwd]
  have hfl := fLines_wL (n := n) ⟨hn0, hn1⟩
  have hwl2 : wL n = s ++ ⟨#[10]⟩ ++ s := by unfold wL; rw [HS.out]
  have hss : (s ++ ⟨#[10]⟩ ++ s).size ≤ 41 := by rw [← hwl2]; exact hwl1
  rw [hwl2] at hfl
  clear hwl2
  have hs1 : (s ++ ⟨#[10]⟩).size = s.size + 1 := by rw [ByteArray.size_append]; rfl
  go_wp2_with fail
  have hli := impl_Lines (s ++ ⟨#[10]⟩ ++ s) w14 (Nat.le_trans hss (by decide))
  rw [hfl] at hli
  clear hfl
  generalize s ++ ⟨#[10]⟩ ++ s = s3 at hli ⊢
  refine hli.mono ?_
  rintro e w16 ⟨⟨a3, c3, rfl, -, -⟩, hb⟩
  replace hb0 := hb0.trans (hb.mono hb0.size)
  clear hb hli
  go_wp2
  go_ret
  exact ⟨rfl, hb0⟩

theorem own : ownKnob Tryd.prog.godebug = none := by kernel_rfl
theorem laidOut : laidOutB Tryd.prog = true := by kernel_rfl
theorem door_met (os : Os) (args : Array Value) : laidMetH Tryd.prog Rows.fnWordsRow.laid ((World.doorLaid Tryd.prog 62 os).forCall (fun _ _ => 0) ⟨#[], args, []⟩).memory :=
  laidMetH_of_parts3 (fuel := 8) (laidMet_of_run' 8 (by kernel_rfl) (by kernel_rfl)) (by kernel_rfl) (by kernel_rfl)
theorem tab_laid {W : World} (h : laidMetH Tryd.prog Rows.fnWordsRow.laid W) : Tab W := by
  rw [MakeChecks.laidMetH_plain _ _ _ (by kernel_rfl)] at h
  have h2 : laidMet Tryd.prog (("internal/strconv.uint64pow10", Lib.tabData .u64 Lib.pow10Tab) :: [("strconv.ErrRange", Rows.laid_strconv_ErrRange), ("strconv.ErrSyntax", Rows.laid_strconv_ErrSyntax)]) W := h.tail.tail
  exact Lib.tabIs_of_head tabG (by kernel_rfl) Tryd.underlying131 Tryd.underlying80 (by kernel_rfl) (by kernel_rfl) h2
theorem star : "*" ++ "errors.errorString" = "*errors.errorString" := by decide
theorem rowE (u : TypeId) (h : Tryd.prog.typeName? 3 u = some "*errors.errorString") : u = 136 :=
  typeName_ptr_named (nm := "errors.errorString") (by rw [star]; kernel_rfl) (by kernel_rfl) (by decide) u (by rw [star]; exact h)
theorem sent_laid {W : World} (h0 : laidMetH Tryd.prog Rows.fnWordsRow.laid W) : Sent W := by
  have h := h0
  rw [MakeChecks.laidMetH_plain _ _ _ (by kernel_rfl)] at h
  have h3 : laidMet Tryd.prog [("strconv.ErrRange", Rows.laid_strconv_ErrRange), ("strconv.ErrSyntax", Rows.laid_strconv_ErrSyntax)] W := h.tail.tail.tail
  obtain ⟨a, _, hv, _⟩ := laid_sentinel h3 rngG (ti := 69) (by kernel_rfl) Tryd.underlying69 rowE Tryd.underlying136 Tryd.underlying138 rfl rfl Tryd.underlying9 (by kernel_rfl) (by kernel_rfl)
  obtain ⟨a2, _, hv2, _⟩ := laid_sentinel h3.tail synG (ti := 69) (by kernel_rfl) Tryd.underlying69 rowE Tryd.underlying136 Tryd.underlying138 rfl rfl Tryd.underlying9 (by kernel_rfl) (by kernel_rfl)
  exact ⟨tab_laid h0, ⟨_, _, hv2⟩, ⟨_, _, hv⟩⟩
set_option maxRecDepth 100000 in
theorem lifted (os : Os) (started : os.Started) (H : Type) (enc : TypeId × Value → H) :
    ReturnsInHanded {} Tryd.checked os 3 .any (fun w args => (Rows.fnWordsSpec.pre enc Tryd.prog Tryd.f3 [] false w args ∧ laidMetH Tryd.prog Rows.fnWordsRow.laid w) ∧ sizedMet enc Tryd.prog Tryd.f3 (OpenSpec.ofChange Rows.fnWordsSpec) false w args)
      (Rows.fnWordsSpec.post enc Tryd.prog Tryd.f3 false true false false) := by
  refine returnsInHanded_of_change_and (C := Tryd.checked) (X := fun w _ => laidMetH Tryd.prog Rows.fnWordsRow.laid w) (fun _ _ _ hh h => h.of_heap hh) own started (by kernel_rfl) Tryd.func3
    (ChangeSpec.witness_shaped (enc := enc) (C := Tryd.checked) (os := os) (X := fun w _ => laidMetH Tryd.prog Rows.fnWordsRow.laid w) false (World.doorLaid Tryd.prog 62 os) #[.slice none 0 0] 8 rfl (World.shaped_of_RefB (by kernel_rfl) (by kernel_rfl)) (by kernel_rfl) (by kernel_rfl) (by kernel_rfl) (door_met os _)) ?_
  intro W base args ds gs before hval0 hW _ _ hL _
  have hval : ∀ (j : Nat) t v, Tryd.f3.params[j]? = some t → args[j]? = some v → Value.okWide Tryd.prog W .any base t v := hval0
  have hW' := hW
  obtain ⟨p, q, hA0, hV, rfl, hfz, hnd⟩ := hW
  have hA : DataW.TrodAll enc Tryd.prog W 0 (fun _ => true) true Tryd.f3.params.toList args.toList ds p := hA0
  rw [Tryd.params3] at hA hval
  obtain ⟨v0, vs0, d0, ds0, p0, q0, hargs, rfl, rfl, h0, r0⟩ := trodAll_cons hA
  obtain ⟨rfl, rfl, rfl⟩ := trodAll_nil r0
  obtain rfl : args = #[v0] := by cases args; simp_all
  obtain ⟨rfl, rfl⟩ := trodVars_none hV
  have k0 := h0
  have lt0 : ∀ x ∈ p0, x.block < W.heap.size := by obtain ⟨m, hm⟩ := k0; exact DataW.trod_lt m _ _ _ hm
  obtain ⟨a0, len0, cap0, rfl⟩ := okWide_slice Tryd.underlying22 (hval 0 22 v0 rfl rfl)
  obtain ⟨xs0, rfl, w0⟩ : ∃ xs : List Int, xs.length = len0 ∧ (RdB W W.heap.size a0 xs ∧ Byt xs ∧ xs.length ≤ cap0 ∧ xs.length ≤ maxLen) := by
    obtain ⟨fuel, hf⟩ := h0
    rcases open_ints Tryd.underlying22 Tryd.underlying5 (by kernel_rfl) hf with ⟨hcs, _⟩ | ⟨x, l, c, zs, hcs, _, hl, hm, hz, _, hcell, hwz⟩
    · simp [Value.cells] at hcs
      obtain ⟨rfl, rfl, rfl⟩ := hcs
      exact ⟨[], rfl, .inl rfl, fun i => by simp, Nat.zero_le _, Nat.zero_le _⟩
    · simp [Value.cells] at hcs
      obtain ⟨rfl, rfl, rfl⟩ := hcs
      have hz' : zs.length = cap0 := by simpa using hz
      have hlt : (zs.take len0).length = len0 := by rw [List.length_take]; omega
      exact ⟨zs.take len0, hlt, rdB_of_cells hcell _, byt_of_wf (fun n hn => hwz n (List.mem_of_mem_take hn)), by omega, by omega⟩
  clear hA0 hval0
  refine (walk a0 cap0 xs0 W (sent_laid hL) w0).mono fun e W' ⟨he, bel⟩ => ?_
  subst he
  exact ⟨_, rfl, _, _, _, [], _, [], hW', trodAll_mk1 (shut_bool Tryd.underlying4 _), (trodAll_cons_mk (Below.trod laidOut (by kernel_rfl) (of_decide_eq_true (by kernel_rfl)) k0 bel lt0) trodAll_mk0), rfl, bel.frame _, fun h => by cases h⟩

theorem over : Rows.fnWordsRow.holds Tryd.pinned (OpenSpec.ofChange Rows.fnWordsSpec) :=
  OpenClaim.holds_of_wide 3 Tryd.f3 rfl rfl rfl rfl rfl rfl rfl ⟨rfl, rfl, rfl, rfl, rfl⟩ rfl rfl rfl rfl rfl (by kernel_rfl) Tryd.func3 (by kernel_rfl)
    (of_decide_eq_true (by kernel_rfl)) (by unfold Func.isWrapper; first | (rw [if_pos (by decide +kernel)]; kernel_rfl) | (rw [if_neg (by decide +kernel)]; exact ⟨rfl, rfl⟩))
    (fun os started H enc _ => lifted os started H enc)

theorem proved : Rows.FnWordsCardSaid :=
  Claim7.holds_tied_plain_at .later [] [.data, .data, .data, .sentinel, .sentinel] true (true, "248435840f7bfd56d840d0f8b83d66d5d3fa209622cbd1dde3e17931932a586f") true
    over (fun _ h => by cases h) (by kernel_rfl) (fun _ h => by cases h) fnWords_row_tie rfl ⟨rfl, rfl⟩ (by kernel_rfl) rfl
    (fun f fn hf hfn => by
      obtain rfl : f = 3 := Option.some.inj ((show Tryd.prog.funcNamed Rows.fnWordsRow.func = some 3 by kernel_rfl).symm.trans hf) |>.symm
      obtain rfl : fn = Tryd.f3 := (Option.some.inj (Tryd.func3.symm.trans hfn)).symm
      exact ⟨by kernel_rfl, fun j t ht => by
        rw [Tryd.params3] at ht
        have hm : t ∈ [22] := by simpa using Array.mem_of_getElem? ht
        have hall : ([22].all fun u => !Tryd.prog.wantsStandIn u) = true := by kernel_rfl
        exact (show Tryd.prog.wantsStandIn t = false by simpa using List.all_eq_true.1 hall t hm)⟩)
    (by kernel_rfl)
#print axioms proved
end Go.Proofs.YtogkonenejfgmaaDoor.fnWords
