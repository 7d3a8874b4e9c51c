/- The walks of spec.IsWord, impl.isLower, impl.IsWord: what each returns. For every string within the reach. -/
import Derived.Test.YtogkonenejfgmaaDoorWIsDigits
namespace Go.Proofs.YtogkonenejfgmaaDoor
open Go.RowKit

def wordB (s : ByteArray) : Bool := allB 97 122 48 57 s.data.toList && decide (s.size ≤ 12) && (if h : 0 < s.size then decide (97 ≤ s[0].toNat) else false)
theorem wordB_eq (s : ByteArray) (h : 0 < s.size) : wordB s = (allB 97 122 48 57 s.data.toList && decide (s.size ≤ 12) && decide (97 ≤ s[0].toNat)) := by
  unfold wordB; rw [dif_pos h]
theorem allB_pos {lo hi low high : Int} {s : ByteArray} (h : allB lo hi low high s.data.toList = true) : 0 < s.size := by
  unfold allB at h; rw [Bool.and_eq_true] at h
  cases hd : s.data.toList with
  | nil => rw [hd] at h; simp at h
  | cons a l => have := congrArg List.length hd; simp at this; omega
theorem allB_at {lo hi low high : Int} {s : ByteArray} (h : allB lo hi low high s.data.toList = true) (k : Nat) (hk : k < s.size) : bad lo hi low high s[k] = false := by
  unfold allB at h; rw [Bool.and_eq_true, List.all_eq_true] at h
  have := h.1 s[k] (by simp [ByteArray.getElem_eq_getElem_data])
  simpa using this

def isLow (c : Int) : Bool := decide (97 ≤ c) && decide (c ≤ 122)
theorem impl_isLower (c : Int) (w : World) :
    Calls Tryd.prog 52 #[.int .u8 c] w fun e w' => e = .returned (.bool (isLow c)) ∧ w = w' := by
  go_enter Tryd.func52, Tryd.ntmps52
  go_wp2
  all_goals (go_ret; exact ⟨ret_bool (by simp [isLow]; try omega), rfl⟩)

theorem low_true {c : Int} (h : isLow c = true) : 97 ≤ c ∧ c ≤ 122 := by simpa [isLow] using h
theorem low_false {c : Int} (h : isLow c = false) : ¬ (97 ≤ c ∧ c ≤ 122) := by
  intro hh; simp [isLow] at h; omega
theorem dig_true {c : Int} (h : isDig c = true) : 48 ≤ c ∧ c ≤ 57 := by simpa [isDig] using h
theorem dig_false {c : Int} (h : isDig c = false) : ¬ (48 ≤ c ∧ c ≤ 57) := by
  intro hh; simp [isDig] at h; omega

set_option maxHeartbeats 1000000 in
theorem impl_IsWord (s : ByteArray) (w : World) (hs : s.size ≤ maxLen) :
    Calls Tryd.prog 14 #[.string s] w fun e w' => e = .returned (.bool (wordB s)) ∧ w = w' := by
  unfold maxLen at hs
  by_cases h1 : 1 ≤ s.size
  · have h0 : 0 < s.size := h1
    by_cases h12 : s.size ≤ 12
    · cases hl : isLow (s[0].toNat)
      · have hf : wordB s = false := by
          cases ha : allB 97 122 48 57 s.data.toList
          · unfold wordB; rw [ha]; simp
          · rw [wordB_eq s h0]
            have hb := allB_at ha 0 h0
            have := low_false hl
            have hd : ¬ (97 ≤ s[0].toNat) := by
              intro hh
              have hb' := bad_true (lo := 97) (hi := 122) (low := 48) (high := 57) (c := s[0]) (by omega)
              rw [hb] at hb'; exact absurd hb' (by simp)
            simp [hd]
        have H := Lib.hid hf; clear hf
        go_enter Tryd.func14, Tryd.ntmps14
        go_wp2_with (go_at_call 52; refine (impl_isLower _ _).mono ?_; rintro e w' ⟨rfl, rfl⟩)
        go_ret
        exact ⟨ret_bool H.out.symm, rfl⟩
      · have hl0 := low_true hl
        have hb0 := bad_false (lo := 97) (hi := 122) (low := 48) (high := 57) (c := s[0]) (by omega)
        have hone := all_step s 0 h0 (by rfl) hb0
        have H0 := Lib.hid hone; clear hone hb0
        go_enter Tryd.func14, Tryd.ntmps14
        go_wp2_with (go_at_call 52; refine (impl_isLower _ _).mono ?_; rintro e w' ⟨rfl, rfl⟩)
        go_loop [3] (fun i => ∃ k : Nat, 1 ≤ k ∧ k ≤ s.size ∧ i = .int .i64 k ∧ (s.data.toList.take k).all (fun c => !bad 97 122 48 57 c) = true) (fun i => s.size - (intOf i).toNat)
        case atStart => exact ⟨1, Nat.le_refl _, h1, rfl, H0.out⟩
        case round =>
          obtain ⟨k, hk1, hk, rfl, hall⟩ := hrel
          have H := Lib.hid hall; clear hall
          by_cases hlt : k < s.size
          · cases hlk : isLow (s[k].toNat)
            · have hn := low_false hlk
              cases hdk : isDig (s[k].toNat)
              · have hnd := dig_false hdk
                have hf : wordB s = false := by unfold wordB; rw [allB_stop s k hlt (bad_true (by omega))]; simp
                have HF := Lib.hid hf; clear hf
                go_wp2_with first | (go_at_call 52; refine (impl_isLower _ _).mono ?_; rintro e w' ⟨rfl, rfl⟩) | (go_at_call 51; refine (impl_isDigit _ _).mono ?_; rintro e w' ⟨rfl, rfl⟩)
                go_ret
                exact ⟨ret_bool HF.out.symm, rfl⟩
              · have hnd := dig_true hdk
                go_wp2_with first | (go_at_call 52; refine (impl_isLower _ _).mono ?_; rintro e w' ⟨rfl, rfl⟩) | (go_at_call 51; refine (impl_isDigit _ _).mono ?_; rintro e w' ⟨rfl, rfl⟩)
                go_round
                case rel => exact ⟨k + 1, by omega, by omega, by go_num, all_step s k hlt H.out (bad_false (by omega))⟩
                case measure => simp [intOf]; omega
            · have hn := low_true hlk
              go_wp2_with first | (go_at_call 52; refine (impl_isLower _ _).mono ?_; rintro e w' ⟨rfl, rfl⟩) | (go_at_call 51; refine (impl_isDigit _ _).mono ?_; rintro e w' ⟨rfl, rfl⟩)
              go_round
              case rel => exact ⟨k + 1, by omega, by omega, by go_num, all_step s k hlt H.out (bad_false (by omega))⟩
              case measure => simp [intOf]; omega
          · have hf : wordB s = true := by
              rw [wordB_eq s h0, allB_end s k hlt H.out]; simp [h0, h12]; omega
            have HF := Lib.hid hf; clear hf
            go_wp2
            go_ret
            exact ⟨ret_bool HF.out.symm, rfl⟩
    · have hf : wordB s = false := by unfold wordB; simp [h12]
      have H := Lib.hid hf; clear hf
      go_enter Tryd.func14, Tryd.ntmps14
      go_wp2
      go_ret
      exact ⟨ret_bool H.out.symm, rfl⟩
  · have hf : wordB s = false := by unfold wordB; rw [dif_neg (by omega)]; simp
    have H := Lib.hid hf; clear hf
    go_enter Tryd.func14, Tryd.ntmps14
    go_wp2
    go_ret
    exact ⟨ret_bool H.out.symm, rfl⟩
end Go.Proofs.YtogkonenejfgmaaDoor
