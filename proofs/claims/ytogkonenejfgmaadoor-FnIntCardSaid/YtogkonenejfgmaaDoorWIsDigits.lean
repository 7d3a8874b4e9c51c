/- The walks of spec.l01All, spec.IsDigits, impl.isDigit, impl.IsDigits: what each returns. For every string within the reach. -/
import Derived.Test.YtogkonenejfgmaaDoorProg
import Derived.Test.YtogkonenejfgmaaDoorStr
import Derived.Deep.QuietTactic
import Derived.BigQuiet
namespace Go.Proofs.YtogkonenejfgmaaDoor
open Go.RowKit

def isDig (c : Int) : Bool := decide (48 ≤ c) && decide (c ≤ 57)
theorem impl_isDigit (c : Int) (w : World) :
    Calls Tryd.prog 51 #[.int .u8 c] w fun e w' => e = .returned (.bool (isDig c)) ∧ w = w' := by
  go_enter Tryd.func51, Tryd.ntmps51
  go_wp2
  all_goals (go_ret; exact ⟨ret_bool (by simp [isDig]; try omega), rfl⟩)

theorem impl_IsDigits (s : ByteArray) (w : World) (hs : s.size ≤ maxLen) :
    Calls Tryd.prog 13 #[.string s] w fun e w' => e = .returned (.bool (allB 48 57 48 57 s.data.toList)) ∧ w = w' := by
  unfold maxLen at hs
  go_enter Tryd.func13, Tryd.ntmps13
  go_wp2
  go_loop [3] (fun i => ∃ k : Nat, k ≤ s.size ∧ i = .int .i64 k ∧ (s.data.toList.take k).all (fun c => !bad 48 57 48 57 c) = true) (fun i => s.size - (intOf i).toNat)
  case atStart => exact ⟨0, Nat.zero_le _, rfl, rfl⟩
  case round =>
    obtain ⟨k, hk, rfl, hall⟩ := hrel
    have H := Lib.hid hall; clear hall
    by_cases hlt : k < s.size
    · cases hd : isDig (s[k].toNat)
      · go_wp2_with (go_at_call 51; refine (impl_isDigit _ _).mono ?_; rintro e w' ⟨rfl, rfl⟩)
        go_ret
        exact ⟨ret_bool (allB_stop s k hlt (bad_true (by simp [isDig] at hd; omega))).symm, rfl⟩
      · go_wp2_with (go_at_call 51; refine (impl_isDigit _ _).mono ?_; rintro e w' ⟨rfl, rfl⟩)
        go_round
        case rel => exact ⟨k + 1, by omega, by go_num, all_step s k hlt H.out (bad_false (by simp [isDig] at hd; omega))⟩
        case measure => simp [intOf]; omega
    · go_wp2
      go_ret
      exact ⟨ret_bool (by rw [allB_end s k hlt H.out, ne_empty]), rfl⟩

end Go.Proofs.YtogkonenejfgmaaDoor
