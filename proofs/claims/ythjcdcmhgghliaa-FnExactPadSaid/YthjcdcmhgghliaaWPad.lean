/- The walks of Pad (program and reference): noughts ahead of a text. For every text within the reach and every number. -/
import Derived.Test.YthjcdcmhgghliaaMem
import Derived.Test.YthjcdcmhgghliaaStr
import Derived.Shelf.Strings.Repeat
import Derived.Lib.Agree
namespace Go.Proofs.Ythjcdcmhgghliaa
open Go.RowKit Go.Shelf
def padB (k : Nat) (s : ByteArray) : ByteArray := ⟨(List.replicate k (48 : UInt8)).toArray ++ s.data⟩
theorem padB_zero (s : ByteArray) : padB 0 s = s := by apply ByteArray.ext; simp [padB]
theorem padB_succ (k : Nat) (s : ByteArray) : ByteArray.mk #[48] ++ padB k s = padB (k + 1) s := by
  apply ByteArray.ext
  rw [ByteArray.data_append]
  simp only [padB]
  rw [← Array.append_assoc]
  congr 1
  simp [List.replicate_succ]
theorem padB_size (k : Nat) (s : ByteArray) : (padB k s).size = k + s.size := by
  show (padB k s).data.size = _
  simp only [padB, Array.size_append]
  simp
def fPad (s : ByteArray) (z : Int) : ByteArray := if z ≤ 2000 then padB (z.toNat - s.size) s else s
theorem spec_Pad (s : ByteArray) (z : Int) (w : World) (hs : s.size ≤ 1099511627776) (hz : Rng z) :
    Calls Try.prog 25 #[.string s, .int .i64 z] w fun e w' => e = .returned (.string (fPad s z)) ∧ Below w.heap.size w w' := by
  obtain ⟨hz1, hz2⟩ := hz
  by_cases h : z ≤ 2000
  · have hF := Lib.hid (show fPad s z = padB (z.toNat - s.size) s from if_pos h)
    rw [hF.out]
    go_enter Try.func25, Try.ntmps25
    go_wp2
    go_loop [0] (fun t => ∃ j : Nat, t = .string (padB j s) ∧ (j = 0 ∨ j + s.size ≤ z.toNat)) (fun t => z.toNat - (match t with | .string x => x.size | _ => 0))
    case atStart => exact ⟨0, by rw [padB_zero], .inl rfl⟩
    case round =>
      obtain ⟨j, rfl, hj⟩ := hrel
      have hsz := padB_size j s
      by_cases hlt : ((padB j s).size : Int) < z
      · have hnx := Lib.hid (padB_succ j s)
        have hsz2 := padB_size (j + 1) s
        go_wp2
        go_round
        case rel => exact ⟨j + 1, by rw [hnx.out], .inr (by omega)⟩
        case measure => simp only [hnx.out]; omega
      · have e : j = z.toNat - s.size := by omega
        have E := Lib.hid e
        clear e
        go_wp2
        go_ret
        exact ⟨by rw [E.out]; rfl, Below.refl _ _⟩
  · have hF := Lib.hid (show fPad s z = s from if_neg h)
    rw [hF.out]
    go_enter Try.func25, Try.ntmps25
    go_wp2
    go_ret
    exact ⟨rfl, Below.refl _ _⟩
def Try.laysRepeat_ren : Go.Shelf.Ren := ⟨fun | 105 => 45 | 212 => 61 | 99 => 62 | 165 => 58 | 166 => 59 | 170 => 63 | 169 => 60 | 263 => 82 | 264 => 83 | 206 => 84 | 240 => 80 | 241 => 81 | 276 => 88 | 277 => 89 | n => n, fun | 9 => 9 | 3 => 3 | 4 => 4 | 20 => 20 | 0 => 0 | 46 => 68 | 109 => 69 | 5 => 5 | 72 => 61 | 76 => 65 | 51 => 76 | 146 => 77 | 53 => 79 | 148 => 80 | 70 => 59 | 37 => 58 | 75 => 64 | 127 => 75 | 164 => 85 | 80 => 67 | n => n, fun | n => n⟩
theorem Try.laysRepeat : Go.Proofs.Lays.n105 Try.prog Try.laysRepeat_ren := {
  mixed := by kernel_rfl
  f99 := Try.func62.trans (congrArg some (by kernel_rfl))
  f105 := Try.func45.trans (congrArg some (by kernel_rfl))
  f165 := Try.func58.trans (congrArg some (by kernel_rfl))
  f166 := Try.func59.trans (congrArg some (by kernel_rfl))
  f169 := Try.func60.trans (congrArg some (by kernel_rfl))
  f170 := Try.func63.trans (congrArg some (by kernel_rfl))
  f206 := Try.func84.trans (congrArg some (by kernel_rfl))
  f212 := Try.func61.trans (congrArg some (by kernel_rfl))
  f240 := Try.func80.trans (congrArg some (by kernel_rfl))
  f241 := Try.func81.trans (congrArg some (by kernel_rfl))
  f263 := Try.func82.trans (congrArg some (by kernel_rfl))
  f264 := Try.func83.trans (congrArg some (by kernel_rfl))
  f276 := Try.func88.trans (congrArg some (by kernel_rfl))
  f277 := Try.func89.trans (congrArg some (by kernel_rfl))
  t0 := Try.underlying0
  a0 := Try.isAgg0
  z0 := Try.sizeOf0
  v0 := Try.zeroValue0
  t3 := Try.underlying3
  a3 := Try.isAgg3
  z3 := Try.sizeOf3
  v3 := Try.zeroValue3
  t4 := Try.underlying4
  a4 := Try.isAgg4
  z4 := Try.sizeOf4
  v4 := Try.zeroValue4
  t5 := Try.underlying5
  a5 := Try.isAgg5
  z5 := Try.sizeOf5
  v5 := Try.zeroValue5
  t9 := Try.underlying9
  a9 := Try.isAgg9
  z9 := Try.sizeOf9
  v9 := Try.zeroValue9
  t20 := Try.underlying20
  a20 := Try.isAgg20
  z20 := Try.sizeOf20
  v20 := Try.zeroValue20
  t37 := Try.underlying58
  a37 := Try.isAgg58
  z37 := Try.sizeOf58
  v37 := Try.zeroValue58
  t46 := Try.underlying68
  a46 := Try.isAgg68
  z46 := Try.sizeOf68
  v46 := Try.zeroValue68
  t51 := Try.underlying76
  a51 := Try.isAgg76
  z51 := Try.sizeOf76
  v51 := Try.zeroValue76
  t53 := Try.underlying79
  a53 := Try.isAgg79
  z53 := Try.sizeOf79
  v53 := Try.zeroValue79
  t70 := Try.underlying59
  a70 := Try.isAgg59
  z70 := Try.sizeOf59
  v70 := Try.zeroValue59
  t72 := Try.underlying61
  a72 := Try.isAgg61
  z72 := Try.sizeOf61
  v72 := Try.zeroValue61
  t75 := Try.underlying64
  a75 := Try.isAgg64
  z75 := Try.sizeOf64
  v75 := Try.zeroValue64
  t76 := Try.underlying65
  a76 := Try.isAgg65
  z76 := Try.sizeOf65
  v76 := Try.zeroValue65
  t109 := Try.underlying69
  a109 := Try.isAgg69
  z109 := Try.sizeOf69
  v109 := Try.zeroValue69
  t127 := Try.underlying75
  a127 := Try.isAgg75
  z127 := Try.sizeOf75
  v127 := Try.zeroValue75
  t146 := Try.underlying77
  a146 := Try.isAgg77
  z146 := Try.sizeOf77
  v146 := Try.zeroValue77
  t148 := Try.underlying80
  a148 := Try.isAgg80
  z148 := Try.sizeOf80
  v148 := Try.zeroValue80
  t164 := Try.underlying85
  a164 := Try.isAgg85
  z164 := Try.sizeOf85
  v164 := Try.zeroValue85 }
theorem extraRepeat : Builder.Extra Try.prog Try.laysRepeat_ren := {
  sizeBuilder := by kernel_rfl
  liesBuilder := by kernel_rfl
  t5 := Try.laysRepeat.t5
  a5 := Try.laysRepeat.a5
  z5 := Try.laysRepeat.z5
  v5 := Try.laysRepeat.v5
  infoByte := by kernel_rfl
  cellsByte := by kernel_rfl
  sizeByte := by kernel_rfl
  neB5 := by decide }
theorem fRepeat : Try.laysRepeat_ren.f 105 = 45 := by kernel_rfl
theorem repeatL_one (c : Nat) : Lib.repeatL [48] c = List.replicate c 48 := by
  induction c with
  | zero => rfl
  | succ c ih => show [48] ++ Lib.repeatL [48] c = _; rw [ih]; rfl
theorem repeat_any (c : Nat) (w : World) (hc : c ≤ 2000) :
    Calls Try.prog 45 #[.string ⟨#[48]⟩, .int .i64 c] w fun e w' => e = .returned (.string ⟨(List.replicate c 48).toArray⟩) ∧ Below w.heap.size w w' := by
  have h := Any.strings_Repeat Try.laysRepeat extraRepeat ⟨#[48]⟩ c w (by omega) (by show 1 * c ≤ _; omega)
  rw [fRepeat] at h
  refine h.mono fun e w' ⟨he, hw⟩ => ⟨?_, hw⟩
  rw [he]
  show Ending.returned (.string ⟨(Lib.repeatL [48] c).toArray⟩) = _
  rw [repeatL_one]
theorem padB_cat (k : Nat) (s : ByteArray) : ByteArray.mk (List.replicate k 48).toArray ++ s = padB k s := by
  apply ByteArray.ext
  rw [ByteArray.data_append]
  rfl
theorem impl_Pad (s : ByteArray) (z : Int) (w : World) (hs : s.size ≤ 1099511627776) (hz : Rng z) :
    Calls Try.prog 26 #[.string s, .int .i64 z] w fun e w' => e = .returned (.string (fPad s z)) ∧ Below w.heap.size w w' := by
  obtain ⟨hz1, hz2⟩ := hz
  by_cases h1 : z ≤ (s.size : Int)
  · have hF : fPad s z = s := by
      unfold fPad
      split
      · rw [show z.toNat - s.size = 0 by omega, padB_zero]
      · rfl
    rw [hF]
    clear hF
    go_enter Try.func26, Try.ntmps26
    go_wp2
    go_ret
    exact ⟨rfl, Below.refl _ _⟩
  · by_cases h2 : z ≤ 2000
    · obtain ⟨c, hc⟩ : ∃ c : Nat, c = z.toNat - s.size := ⟨_, rfl⟩
      have hF := Lib.hid (show fPad s z = padB c s by rw [hc]; exact if_pos h2)
      have hcz := Lib.hid (show z - (s.size : Int) = (c : Int) by omega)
      have hc2 : c ≤ 2000 := by omega
      have hcat := Lib.hid (padB_cat c s)
      rw [hF.out]
      clear hc
      go_enter Try.func26, Try.ntmps26
      go_wp2_with fail
      rw [hcz.out]
      refine (repeat_any c _ hc2).mono ?_
      rintro e w1 ⟨rfl, hb⟩
      go_wp2
      go_ret
      exact ⟨by rw [← hcat.out]; rfl, hb⟩
    · have hF : fPad s z = s := if_neg h2
      rw [hF]
      clear hF
      go_enter Try.func26, Try.ntmps26
      go_wp2
      go_ret
      exact ⟨rfl, Below.refl _ _⟩
end Go.Proofs.Ythjcdcmhgghliaa
