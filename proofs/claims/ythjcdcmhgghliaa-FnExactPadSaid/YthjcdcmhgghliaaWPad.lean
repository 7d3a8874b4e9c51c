/- The walks of Pad (program and reference): noughts ahead of a text. For every text within the reach and every number. -/
import Derived.Test.YthjcdcmhgghliaaMem
import Derived.Test.YthjcdcmhgghliaaStr
import Derived.Shelf.Strings.Repeat
import Derived.Shelf.Lay
import Derived.Ground.NamesProg
import Derived.Lib.Agree
namespace Go.Proofs.Ythjcdcmhgghliaa
open Go.RowKit Go.Shelf
def padB (k : Nat) (s : ByteArray) : ByteArray := ⟨(List.replicate k (48 : UInt8)).toArray ++ s.data⟩
theorem padB_zero (s : ByteArray) : padB 0 s = s := by apply ByteArray.ext; simp [padB]
theorem padB_succ (k : Nat) (s : ByteArray) : ByteArray.mk #[48] ++ padB k s = padB (k + 1) s := by
  apply ByteArray.ext
  rw [ByteArray.data_append]
  simp only [padB]
  rw [← Array.append_assoc]
  congr 1
  simp [List.replicate_succ]
theorem padB_size (k : Nat) (s : ByteArray) : (padB k s).size = k + s.size := by
  show (padB k s).data.size = _
  simp only [padB, Array.size_append]
  simp
def fPad (s : ByteArray) (z : Int) : ByteArray := if z ≤ 2000 then padB (z.toNat - s.size) s else s
theorem spec_Pad (s : ByteArray) (z : Int) (w : World) (hs : s.size ≤ 1099511627776) (hz : Rng z) :
    Calls Try.prog 25 #[.string s, .int .i64 z] w fun e w' => e = .returned (.string (fPad s z)) ∧ Below w.heap.size w w' := by
  obtain ⟨hz1, hz2⟩ := hz
  by_cases h : z ≤ 2000
  · have hF := Lib.hid (show fPad s z = padB (z.toNat - s.size) s from if_pos h)
    rw [hF.out]
    go_enter Try.func25, Try.ntmps25
    go_wp2
    go_loop [0] (fun t => ∃ j : Nat, t = .string (padB j s) ∧ (j = 0 ∨ j + s.size ≤ z.toNat)) (fun t => z.toNat - (match t with | .string x => x.size | _ => 0))
    case atStart => exact ⟨0, by rw [padB_zero], .inl rfl⟩
    case round =>
      obtain ⟨j, rfl, hj⟩ := hrel
      have hsz := padB_size j s
      by_cases hlt : ((padB j s).size : Int) < z
      · have hnx := Lib.hid (padB_succ j s)
        have hsz2 := padB_size (j + 1) s
        go_wp2
        go_round
        case rel => exact ⟨j + 1, by rw [hnx.out], .inr (by omega)⟩
        case measure => simp only [hnx.out]; omega
      · have e : j = z.toNat - s.size := by omega
        have E := Lib.hid e
        clear e
        go_wp2
        go_ret
        exact ⟨by rw [E.out]; rfl, Below.refl _ _⟩
  · have hF := Lib.hid (show fPad s z = s from if_neg h)
    rw [hF.out]
    go_enter Try.func25, Try.ntmps25
    go_wp2
    go_ret
    exact ⟨rfl, Below.refl _ _⟩
shelf_lay Lays.n105 Nm 105 at Try as Try.laysRepeat
theorem extraRepeat : Builder.Extra Try.prog Try.laysRepeat_ren where
  sizeBuilder := by kernel_rfl
  liesBuilder := by kernel_rfl
  t5 := Try.laysRepeat.t5
  a5 := Try.laysRepeat.a5
  z5 := Try.laysRepeat.z5
  v5 := Try.laysRepeat.v5
  infoByte := by kernel_rfl
  cellsByte := by kernel_rfl
  sizeByte := by kernel_rfl
  neB5 := by decide
theorem fRepeat : Try.laysRepeat_ren.f 105 = 45 := by kernel_rfl
theorem repeatL_one (c : Nat) : Lib.repeatL [48] c = List.replicate c 48 := by
  induction c with
  | zero => rfl
  | succ c ih => show [48] ++ Lib.repeatL [48] c = _; rw [ih]; rfl
theorem repeat_any (c : Nat) (w : World) (hc : c ≤ 2000) :
    Calls Try.prog 45 #[.string ⟨#[48]⟩, .int .i64 c] w fun e w' => e = .returned (.string ⟨(List.replicate c 48).toArray⟩) ∧ Below w.heap.size w w' := by
  have h := Any.strings_Repeat Try.laysRepeat extraRepeat ⟨#[48]⟩ c w (by omega) (by show 1 * c ≤ _; omega)
  rw [fRepeat] at h
  refine h.mono fun e w' ⟨he, hw⟩ => ⟨?_, hw⟩
  rw [he]
  show Ending.returned (.string ⟨(Lib.repeatL [48] c).toArray⟩) = _
  rw [repeatL_one]
theorem padB_cat (k : Nat) (s : ByteArray) : ByteArray.mk (List.replicate k 48).toArray ++ s = padB k s := by
  apply ByteArray.ext
  rw [ByteArray.data_append]
  rfl
theorem impl_Pad (s : ByteArray) (z : Int) (w : World) (hs : s.size ≤ 1099511627776) (hz : Rng z) :
    Calls Try.prog 26 #[.string s, .int .i64 z] w fun e w' => e = .returned (.string (fPad s z)) ∧ Below w.heap.size w w' := by
  obtain ⟨hz1, hz2⟩ := hz
  by_cases h1 : z ≤ (s.size : Int)
  · have hF : fPad s z = s := by
      unfold fPad
      split
      · rw [show z.toNat - s.size = 0 by omega, padB_zero]
      · rfl
    rw [hF]
    clear hF
    go_enter Try.func26, Try.ntmps26
    go_wp2
    go_ret
    exact ⟨rfl, Below.refl _ _⟩
  · by_cases h2 : z ≤ 2000
    · obtain ⟨c, hc⟩ : ∃ c : Nat, c = z.toNat - s.size := ⟨_, rfl⟩
      have hF := Lib.hid (show fPad s z = padB c s by rw [hc]; exact if_pos h2)
      have hcz := Lib.hid (show z - (s.size : Int) = (c : Int) by omega)
      have hc2 : c ≤ 2000 := by omega
      have hcat := Lib.hid (padB_cat c s)
      rw [hF.out]
      clear hc
      go_enter Try.func26, Try.ntmps26
      go_wp2_with fail
      rw [hcz.out]
      refine (repeat_any c _ hc2).mono ?_
      rintro e w1 ⟨rfl, hb⟩
      go_wp2
      go_ret
      exact ⟨by rw [← hcat.out]; rfl, hb⟩
    · have hF : fPad s z = s := if_neg h2
      rw [hF]
      clear hF
      go_enter Try.func26, Try.ntmps26
      go_wp2
      go_ret
      exact ⟨rfl, Below.refl _ _⟩
end Go.Proofs.Ythjcdcmhgghliaa
