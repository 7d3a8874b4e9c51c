/- The walks of spec.IsCode, impl.IsCode: what each returns. For every string within the reach. -/
import Derived.Test.YtaanplgolkodbaaWIsDigits
namespace Go.Proofs.Ytaanplgolkodbaa
open Go.RowKit

set_option maxHeartbeats 400000 in
theorem spec_IsCode (s : ByteArray) (w : World) (hs : s.size ≤ maxLen) :
    Calls Try.prog 11 #[.string s] w fun e w' => e = .returned (.bool (allB 65 90 65 90 s.data.toList && decide (s.size = 3))) ∧ w = w' := by
  have hs' := hs
  unfold maxLen at hs'
  cases ha : allB 65 90 65 90 s.data.toList
  · go_enter Try.func11, Try.ntmps11
    go_wp2_with (go_at_call 19; refine (l01All_any s _ _ _ _ _ hs).mono ?_; rintro e w' ⟨rfl, rfl⟩)
    go_ret
    exact ⟨rfl, rfl⟩
  · go_enter Try.func11, Try.ntmps11
    go_wp2_with (go_at_call 19; refine (l01All_any s _ _ _ _ _ hs).mono ?_; rintro e w' ⟨rfl, rfl⟩)
    go_ret
    exact ⟨ret_bool (by rw [Bool.true_and, Bool.eq_iff_iff]; simp; try omega), rfl⟩

set_option maxHeartbeats 400000 in
theorem impl_IsCode (s : ByteArray) (w : World) (hs : s.size ≤ maxLen) :
    Calls Try.prog 12 #[.string s] w fun e w' => e = .returned (.bool (allB 65 90 65 90 s.data.toList && decide (s.size = 3))) ∧ w = w' := by
  unfold maxLen at hs
  by_cases h3 : s.size = 3
  · have hz : 3 ≤ s.size := by omega
    have hy : s.size ≤ 3 := by omega
    have h3' : ((s.size : Int) != 3) = false := by rw [bne_eq_false_iff_eq]; omega
    have H3 := Lib.hid h3
    clear h3
    go_enter Try.func12, Try.ntmps12
    go_wp2
    go_loop [3] (fun i => ∃ k : Nat, k ≤ 3 ∧ i = .int .i64 k ∧ (s.data.toList.take k).all (fun c => !bad 65 90 65 90 c) = true) (fun i => 3 - (intOf i).toNat)
    case atStart => exact ⟨0, Nat.zero_le _, rfl, rfl⟩
    case round =>
      obtain ⟨k, hk, rfl, hall⟩ := hrel
      have H := Lib.hid hall; clear hall
      by_cases hlt : k < 3
      · have hlt' : k < s.size := by omega
        go_wp2
        all_goals first
          | (go_ret; exact ⟨ret_bool (by rw [allB_stop s k hlt' (bad_true (by omega))]; rfl), rfl⟩)
          | (go_round; (case rel => exact ⟨k + 1, by omega, by go_num, all_step s k hlt' H.out (bad_false (by omega))⟩); (case measure => simp [intOf]; omega))
      · go_wp2
        go_ret
        exact ⟨ret_bool (by rw [allB_end s k (by omega) H.out, H3.out]; rfl), rfl⟩
  · have h3' : ((s.size : Int) != 3) = true := by rw [bne_iff_ne]; omega
    go_enter Try.func12, Try.ntmps12
    go_wp2
    go_ret
    exact ⟨ret_bool (by simp [h3]), rfl⟩
end Go.Proofs.Ytaanplgolkodbaa
