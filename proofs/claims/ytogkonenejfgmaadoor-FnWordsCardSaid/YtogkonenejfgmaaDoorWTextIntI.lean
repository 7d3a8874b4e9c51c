/- The walk of TextInt (program): strconv.Atoi and strconv.Itoa by their contracts. For every text within the reach, where the library's table and its two errors read as they are laid. -/
import Derived.Test.YtogkonenejfgmaaDoorTi
import Derived.Test.YtogkonenejfgmaaDoorWIntTextI
import Derived.Shelf.Strconv.AtoiAll
import Derived.Shelf.Strconv.ErrVarAll
import Derived.Lib.SmallJoins
namespace Go.Proofs.YtogkonenejfgmaaDoor
open Go.RowKit Go.Shelf
open Go.Lib (decDigits itoa atoiAll)
shelf_lay LaysC.n172 Nm 172 at Tryd as Tryd.laysAtoi
theorem fAtoi : Tryd.laysAtoi_ren.f 172 = 47 := by kernel_rfl
theorem var_below {n : String} {g : Nat} {w w' : World} {x : Array Value} (hg : Tryd.prog.globalNamed n = some g) (h : w.var? Tryd.prog n = some x) (hb : Below w.heap.size w w') : w'.var? Tryd.prog n = some x := by
  unfold World.var? at h ⊢
  rw [hg] at h ⊢
  simp only [Option.bind_some] at h ⊢
  have hlt : g < w.heap.size := by
    rcases Nat.lt_or_ge g w.heap.size with h' | h'
    · exact h'
    · rw [Array.getElem?_eq_none h'] at h; cases h
  rw [hb.block g hlt]
  exact h
/-- the library's table and its two errors read as they are laid -/
def Sent (w : World) : Prop := Tab w ∧ (∃ tp p, w.var? Tryd.prog "strconv.ErrSyntax" = some #[.iface tp p]) ∧ (∃ tp p, w.var? Tryd.prog "strconv.ErrRange" = some #[.iface tp p])
theorem synG : Tryd.prog.globalNamed "strconv.ErrSyntax" = some 0 := by kernel_rfl
theorem rngG : Tryd.prog.globalNamed "strconv.ErrRange" = some 1 := by kernel_rfl
theorem Sent.below {w w' : World} (h : Sent w) (hb : Below w.heap.size w w') : Sent w' := by
  obtain ⟨h1, ⟨t, p, h2⟩, ⟨t', p', h3⟩⟩ := h
  exact ⟨h1.below hb, ⟨t, p, var_below synG h2 hb⟩, ⟨t', p', var_below rngG h3 hb⟩⟩
theorem atoi_ok (s : ByteArray) (v : Int) (w : World) (hs : s.size ≤ 1048576) (h : atoiAll s.data.toList = .ok v) :
    Calls Tryd.prog 47 #[.string s] w fun e w' => e = .returned (.tuple #[.int .i64 v, .nilIface]) ∧ Below w.heap.size w w' := by
  have h := Any.strconv_Atoi_ok Tryd.laysAtoi s (by omega) v h w
  rw [fAtoi] at h
  refine h.mono fun e w' ⟨he, hw⟩ => ⟨he, ?_⟩
  rcases hw with rfl | ⟨t, rfl⟩
  · exact Below.refl _ _
  · exact Joins.below_bytesWorld _ _ _ _ (Nat.le_refl _)
theorem atoi_bad (s : ByteArray) (w : World) (hs : s.size ≤ 1048576) (h : ∀ v, atoiAll s.data.toList ≠ .ok v) (ht : Sent w) :
    Calls Tryd.prog 47 #[.string s] w fun e w' => (∃ n ty N, e = .returned (.tuple #[.int .i64 n, .iface ty (.pointer (some ⟨N, 0, none⟩))])) ∧ Below w.heap.size w w' := by
  obtain ⟨-, ⟨t, p, h2⟩, ⟨t', p', h3⟩⟩ := ht
  rcases hc : atoiAll s.data.toList with v | _ | _
  · exact absurd hc (h v)
  · have h := Any.strconv_Atoi_syntax_var Tryd.laysAtoi s (by omega) hc t p w h2
    rw [fAtoi] at h
    refine h.mono fun e w' hh => ?_
    obtain ⟨N, he, _, _, hb⟩ := hh
    exact ⟨⟨_, _, N, he⟩, hb⟩
  · have h := Any.strconv_Atoi_range_var Tryd.laysAtoi s (by omega) hc t' p' w h3
    rw [fAtoi] at h
    refine h.mono fun e w' hh => ?_
    obtain ⟨N, he, _, _, hb⟩ := hh
    exact ⟨⟨_, _, N, he⟩, hb⟩
theorem tx_beq {s : ByteArray} {l : List UInt8} (h : l ≠ s.data.toList) : ((tx l).toList == s.toList) = false := by
  rw [beq_eq_false_iff_ne, ByteArray.toList_eq, ByteArray.toList_eq, tx_list]; exact h
set_option maxHeartbeats 800000 in
theorem impl_TextInt (s : ByteArray) (w : World) (hs : s.size ≤ 1048576) (ht : Sent w) :
    Calls Tryd.prog 8 #[.string s] w fun e w' => e = .returned (.tuple #[.int .i64 (fTextInt s.data.toList).1, .bool (fTextInt s.data.toList).2]) ∧ Below w.heap.size w w' := by
  rcases fTextInt_cases s.data.toList with ⟨z, hz, he, hF⟩ | ⟨hno, hF⟩
  · have HF := Lib.hid hF
    have hat := atoi_ok s z w hs (by rw [← he]; exact atoi_itoa hz)
    have hst : tx (itoa z) = s := by rw [he, tx_of]
    have HS := Lib.hid hst
    have HA := Lib.hid hat
    have hr : Rng z := by unfold i64B at hz; rw [decide_eq_true_eq] at hz; exact hz
    have HR := Lib.hid hr
    clear hF hat hst hz he hr
    go_enter Tryd.func8, Tryd.ntmps8
    go_wp2_with fail
    refine HA.out.mono ?_
    rintro e w1 ⟨rfl, hb1⟩
    go_wp2_with fail
    refine (itoa_any z _ HR.out (ht.below hb1).1).mono ?_
    rintro e w2 ⟨rfl, hb2⟩
    rw [HS.out]
    have hb := hb1.trans (hb2.mono hb1.size)
    go_wp2
    go_ret2
    exact ⟨by rw [HF.out]; rfl, hb⟩
  · have HF := Lib.hid hF
    by_cases h : ∃ v, atoiAll s.data.toList = .ok v
    · obtain ⟨v, hv⟩ := h
      have hat := atoi_ok s v w hs hv
      have hr : Rng v := Lib.atoiAll_bounds hv
      have hne := tx_beq (hno v (by unfold i64B; exact decide_eq_true hr))
      obtain ⟨T, hT⟩ : ∃ T, tx (itoa v) = T := ⟨_, rfl⟩
      rw [hT] at hne
      have HT := Lib.hid hT
      have HA := Lib.hid hat
      have HR := Lib.hid hr
      clear hF hat hv hno hr hT
      go_enter Tryd.func8, Tryd.ntmps8
      go_wp2_with fail
      refine HA.out.mono ?_
      rintro e w1 ⟨rfl, hb1⟩
      go_wp2_with fail
      refine (itoa_any v _ HR.out (ht.below hb1).1).mono ?_
      rintro e w2 ⟨rfl, hb2⟩
      rw [HT.out]
      have hb := hb1.trans (hb2.mono hb1.size)
      go_wp2
      go_ret2
      exact ⟨by rw [HF.out]; rfl, hb⟩
    · have hat := atoi_bad s w hs (fun v hv => h ⟨v, hv⟩) ht
      have HA := Lib.hid hat
      clear hF hat hno h
      go_enter Tryd.func8, Tryd.ntmps8
      go_wp2_with fail
      refine HA.out.mono ?_
      rintro e w1 ⟨⟨n, ty, N, rfl⟩, hb1⟩
      go_wp2
      go_ret2
      exact ⟨by rw [HF.out]; rfl, hb1⟩
end Go.Proofs.YtogkonenejfgmaaDoor
