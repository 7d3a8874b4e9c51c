/- The walk of Pad (reference). For every text within the reach. -/
import Derived.Test.YtmakcgiekfcofaaMem
import Derived.Test.YtmakcgiekfcofaaStr
import Derived.Lib.Agree
namespace Go.Proofs.Ytmakcgiekfcofaa
open Go.RowKit
def padB (k : Nat) (s : ByteArray) : ByteArray := ⟨(List.replicate k (48 : UInt8)).toArray ++ s.data⟩
theorem padB_zero (s : ByteArray) : padB 0 s = s := by apply ByteArray.ext; simp [padB]
theorem padB_succ (k : Nat) (s : ByteArray) : ByteArray.mk #[48] ++ padB k s = padB (k + 1) s := by
  apply ByteArray.ext
  rw [ByteArray.data_append]
  simp only [padB]
  rw [← Array.append_assoc]
  congr 1
  simp [List.replicate_succ]
theorem padB_size (k : Nat) (s : ByteArray) : (padB k s).size = k + s.size := by
  show (padB k s).data.size = _
  simp only [padB, Array.size_append]
  simp
def fPad (s : ByteArray) (z : Int) : ByteArray := if z ≤ 2000 then padB (z.toNat - s.size) s else s
theorem spec_Pad (s : ByteArray) (z : Int) (w : World) (hs : s.size ≤ 1099511627776) (hz : Rng z) :
    Calls Try.prog 58 #[.string s, .int .i64 z] w fun e w' => e = .returned (.string (fPad s z)) ∧ Below w.heap.size w w' := by
  obtain ⟨hz1, hz2⟩ := hz
  by_cases h : z ≤ 2000
  · have hF := Lib.hid (show fPad s z = padB (z.toNat - s.size) s from if_pos h)
    rw [hF.out]
    go_enter Try.func58, Try.ntmps58
    go_wp2
    go_loop [0] (fun t => ∃ j : Nat, t = .string (padB j s) ∧ (j = 0 ∨ j + s.size ≤ z.toNat)) (fun t => z.toNat - (match t with | .string x => x.size | _ => 0))
    case atStart => exact ⟨0, by rw [padB_zero], .inl rfl⟩
    case round =>
      obtain ⟨j, rfl, hj⟩ := hrel
      have hsz := padB_size j s
      by_cases hlt : ((padB j s).size : Int) < z
      · have hnx := Lib.hid (padB_succ j s)
        have hsz2 := padB_size (j + 1) s
        go_wp2
        go_round
        case rel => exact ⟨j + 1, by rw [hnx.out], .inr (by omega)⟩
        case measure => simp only [hnx.out]; omega
      · have e : j = z.toNat - s.size := by omega
        have E := Lib.hid e
        clear e
        go_wp2
        go_ret
        exact ⟨by rw [E.out]; rfl, Below.refl _ _⟩
  · have hF := Lib.hid (show fPad s z = s from if_neg h)
    rw [hF.out]
    go_enter Try.func58, Try.ntmps58
    go_wp2
    go_ret
    exact ⟨rfl, Below.refl _ _⟩
end Go.Proofs.Ytmakcgiekfcofaa
