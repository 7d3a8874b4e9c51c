/- The walks of spec.l01All, spec.IsDigits, impl.isDigit, impl.IsDigits: what each returns. For every string within the reach. -/
import Derived.Test.YtmakcgiekfcofaaProg
import Derived.Test.YtmakcgiekfcofaaStr
import Derived.Deep.QuietTactic
import Derived.BigQuiet
namespace Go.Proofs.Ytmakcgiekfcofaa
open Go.RowKit

set_option maxHeartbeats 400000 in
theorem l01All_any (s : ByteArray) (lo hi low high : Int) (w : World) (hs : s.size ≤ maxLen) :
    Calls Try.prog 55 #[.string s, .int .u8 lo, .int .u8 hi, .int .u8 low, .int .u8 high] w fun e w' => e = .returned (.bool (allB lo hi low high s.data.toList)) ∧ w = w' := by
  unfold maxLen at hs
  go_enter Try.func55, Try.ntmps55
  go_wp2
  go_loop [11] (fun i => ∃ k : Nat, k ≤ s.size ∧ i = .int .i64 k ∧ (s.data.toList.take k).all (fun c => !bad lo hi low high c) = true) (fun i => s.size - (intOf i).toNat)
  case atStart => exact ⟨0, Nat.zero_le _, rfl, rfl⟩
  case round =>
    obtain ⟨k, hk, rfl, hall⟩ := hrel
    have H := Lib.hid hall; clear hall
    by_cases hlt : k < s.size
    · go_wp2
      all_goals first
        | (go_ret; exact ⟨ret_bool (allB_stop s k hlt (bad_true (by omega))).symm, rfl⟩)
        | (go_round; (case rel => exact ⟨k + 1, by omega, by go_num, all_step s k hlt H.out (bad_false (by omega))⟩); (case measure => simp [intOf]; omega))
    · go_wp2
      go_ret
      exact ⟨ret_bool (by rw [allB_end s k hlt H.out]), rfl⟩

theorem spec_IsDigits (s : ByteArray) (w : World) (hs : s.size ≤ maxLen) :
    Calls Try.prog 37 #[.string s] w fun e w' => e = .returned (.bool (allB 48 57 48 57 s.data.toList)) ∧ w = w' := by
  go_enter Try.func37, Try.ntmps37
  go_wp2_with (go_at_call 55; refine (l01All_any s _ _ _ _ _ hs).mono ?_; rintro e w' ⟨rfl, rfl⟩)
  go_ret
  exact ⟨rfl, rfl⟩

def isDig (c : Int) : Bool := decide (48 ≤ c) && decide (c ≤ 57)
theorem impl_isDigit (c : Int) (w : World) :
    Calls Try.prog 60 #[.int .u8 c] w fun e w' => e = .returned (.bool (isDig c)) ∧ w = w' := by
  go_enter Try.func60, Try.ntmps60
  go_wp2
  all_goals (go_ret; exact ⟨ret_bool (by simp [isDig]; try omega), rfl⟩)

theorem impl_IsDigits (s : ByteArray) (w : World) (hs : s.size ≤ maxLen) :
    Calls Try.prog 44 #[.string s] w fun e w' => e = .returned (.bool (allB 48 57 48 57 s.data.toList)) ∧ w = w' := by
  unfold maxLen at hs
  go_enter Try.func44, Try.ntmps44
  go_wp2
  go_loop [3] (fun i => ∃ k : Nat, k ≤ s.size ∧ i = .int .i64 k ∧ (s.data.toList.take k).all (fun c => !bad 48 57 48 57 c) = true) (fun i => s.size - (intOf i).toNat)
  case atStart => exact ⟨0, Nat.zero_le _, rfl, rfl⟩
  case round =>
    obtain ⟨k, hk, rfl, hall⟩ := hrel
    have H := Lib.hid hall; clear hall
    by_cases hlt : k < s.size
    · cases hd : isDig (s[k].toNat)
      · go_wp2_with (go_at_call 60; refine (impl_isDigit _ _).mono ?_; rintro e w' ⟨rfl, rfl⟩)
        go_ret
        exact ⟨ret_bool (allB_stop s k hlt (bad_true (by simp [isDig] at hd; omega))).symm, rfl⟩
      · go_wp2_with (go_at_call 60; refine (impl_isDigit _ _).mono ?_; rintro e w' ⟨rfl, rfl⟩)
        go_round
        case rel => exact ⟨k + 1, by omega, by go_num, all_step s k hlt H.out (bad_false (by simp [isDig] at hd; omega))⟩
        case measure => simp [intOf]; omega
    · go_wp2
      go_ret
      exact ⟨ret_bool (by rw [allB_end s k hlt H.out, ne_empty]), rfl⟩

end Go.Proofs.Ytmakcgiekfcofaa
