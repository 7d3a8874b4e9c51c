/- The walk of Pad (program). For every text within the reach. -/
import Derived.Test.YtogkonenejfgmaaDoorWPadS
import Derived.Shelf.Strings.Repeat
import Derived.Shelf.Lay
import Derived.Ground.NamesProg
namespace Go.Proofs.YtogkonenejfgmaaDoor
open Go.RowKit Go.Shelf
shelf_lay Lays.n105 Nm 105 at Tryd as Tryd.laysRepeat
theorem extraRepeat : Builder.Extra Tryd.prog Tryd.laysRepeat_ren where
  sizeBuilder := by kernel_rfl
  liesBuilder := by kernel_rfl
  t5 := Tryd.laysRepeat.t5
  a5 := Tryd.laysRepeat.a5
  z5 := Tryd.laysRepeat.z5
  v5 := Tryd.laysRepeat.v5
  infoByte := by kernel_rfl
  cellsByte := by kernel_rfl
  sizeByte := by kernel_rfl
  neB5 := by decide
theorem fRepeat : Tryd.laysRepeat_ren.f 105 = 48 := by kernel_rfl
theorem repeatL_one (c : Nat) : Lib.repeatL [48] c = List.replicate c 48 := by
  induction c with
  | zero => rfl
  | succ c ih => show [48] ++ Lib.repeatL [48] c = _; rw [ih]; rfl
theorem repeat_any (c : Nat) (w : World) (hc : c ≤ 2000) :
    Calls Tryd.prog 48 #[.string ⟨#[48]⟩, .int .i64 c] w fun e w' => e = .returned (.string ⟨(List.replicate c 48).toArray⟩) ∧ Below w.heap.size w w' := by
  have h := Any.strings_Repeat Tryd.laysRepeat extraRepeat ⟨#[48]⟩ c w (by omega) (by show 1 * c ≤ _; omega)
  rw [fRepeat] at h
  refine h.mono fun e w' ⟨he, hw⟩ => ⟨?_, hw⟩
  rw [he]
  show Ending.returned (.string ⟨(Lib.repeatL [48] c).toArray⟩) = _
  rw [repeatL_one]
theorem padB_cat (k : Nat) (s : ByteArray) : ByteArray.mk (List.replicate k 48).toArray ++ s = padB k s := by
  apply ByteArray.ext
  rw [ByteArray.data_append]
  rfl
theorem impl_Pad (s : ByteArray) (z : Int) (w : World) (hs : s.size ≤ 1099511627776) (hz : Rng z) :
    Calls Tryd.prog 10 #[.string s, .int .i64 z] w fun e w' => e = .returned (.string (fPad s z)) ∧ Below w.heap.size w w' := by
  obtain ⟨hz1, hz2⟩ := hz
  by_cases h1 : z ≤ (s.size : Int)
  · have hF : fPad s z = s := by
      unfold fPad
      split
      · rw [show z.toNat - s.size = 0 by omega, padB_zero]
      · rfl
    rw [hF]
    clear hF
    go_enter Tryd.func10, Tryd.ntmps10
    go_wp2
    go_ret
    exact ⟨rfl, Below.refl _ _⟩
  · by_cases h2 : z ≤ 2000
    · obtain ⟨c, hc⟩ : ∃ c : Nat, c = z.toNat - s.size := ⟨_, rfl⟩
      have hF := Lib.hid (show fPad s z = padB c s by rw [hc]; exact if_pos h2)
      have hcz := Lib.hid (show z - (s.size : Int) = (c : Int) by omega)
      have hc2 : c ≤ 2000 := by omega
      have hcat := Lib.hid (padB_cat c s)
      rw [hF.out]
      clear hc
      go_enter Tryd.func10, Tryd.ntmps10
      go_wp2_with fail
      rw [hcz.out]
      refine (repeat_any c _ hc2).mono ?_
      rintro e w1 ⟨rfl, hb⟩
      go_wp2
      go_ret
      exact ⟨by rw [← hcat.out]; rfl, hb⟩
    · have hF : fPad s z = s := if_neg h2
      rw [hF]
      clear hF
      go_enter Tryd.func10, Tryd.ntmps10
      go_wp2
      go_ret
      exact ⟨rfl, Below.refl _ _⟩
end Go.Proofs.YtogkonenejfgmaaDoor
