/- The walks of spec.l01All, spec.IsDigits, impl.isDigit, impl.IsDigits: what each returns. For every string within the reach. -/
import Derived.Test.YtmakcgiekfcofaaDoorProg
import Derived.Test.YtmakcgiekfcofaaDoorStr
import Derived.Deep.QuietTactic
import Derived.BigQuiet
namespace Go.Proofs.YtmakcgiekfcofaaDoor
open Go.RowKit

set_option maxHeartbeats 400000 in
theorem l01All_any (s : ByteArray) (lo hi low high : Int) (w : World) (hs : s.size ≤ maxLen) :
    Calls Tryd.prog 47 #[.string s, .int .u8 lo, .int .u8 hi, .int .u8 low, .int .u8 high] w fun e w' => e = .returned (.bool (allB lo hi low high s.data.toList)) ∧ w = w' := by
  unfold maxLen at hs
  go_enter Tryd.func47, Tryd.ntmps47
  go_wp2
  go_loop [11] (fun i => ∃ k : Nat, k ≤ s.size ∧ i = .int .i64 k ∧ (s.data.toList.take k).all (fun c => !bad lo hi low high c) = true) (fun i => s.size - (intOf i).toNat)
  case atStart => exact ⟨0, Nat.zero_le _, rfl, rfl⟩
  case round =>
    obtain ⟨k, hk, rfl, hall⟩ := hrel
    have H := Lib.hid hall; clear hall
    by_cases hlt : k < s.size
    · go_wp2
      all_goals first
        | (go_ret; exact ⟨ret_bool (allB_stop s k hlt (bad_true (by omega))).symm, rfl⟩)
        | (go_round; (case rel => exact ⟨k + 1, by omega, by go_num, all_step s k hlt H.out (bad_false (by omega))⟩); (case measure => simp [intOf]; omega))
    · go_wp2
      go_ret
      exact ⟨ret_bool (by rw [allB_end s k hlt H.out]), rfl⟩

theorem spec_IsDigits (s : ByteArray) (w : World) (hs : s.size ≤ maxLen) :
    Calls Tryd.prog 33 #[.string s] w fun e w' => e = .returned (.bool (allB 48 57 48 57 s.data.toList)) ∧ w = w' := by
  go_enter Tryd.func33, Tryd.ntmps33
  go_wp2_with (go_at_call 47; refine (l01All_any s _ _ _ _ _ hs).mono ?_; rintro e w' ⟨rfl, rfl⟩)
  go_ret
  exact ⟨rfl, rfl⟩

def isDig (c : Int) : Bool := decide (48 ≤ c) && decide (c ≤ 57)
end Go.Proofs.YtmakcgiekfcofaaDoor
