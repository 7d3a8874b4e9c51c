/- The walks of NatOk (reference and program): whether a slice of ints is a valid nat. For every slice within the reach. -/
import Derived.Test.YtcibccaimjifmaaWIn
import Derived.Test.YtcibccaimjifmaaMem
import Derived.Test.YtcibccaimjifmaaNat
namespace Go.Proofs.Ytcibccaimjifmaa
open Go.RowKit
def digB (x : Int) : Bool := decide (0 ≤ x) && decide (x < 1000000000)
theorem natB_eq (xs : List Int) : natB xs = (decide (xs.length ≤ 50) && (xs.getLast? != some 0) && xs.all digB) := rfl
theorem all_stop {xs : List Int} {k : Nat} (hk : k < xs.length) (x : Int) (hx : xs.getD k 0 = x) (h : digB x = false) : natB xs = false := by
  have : xs.all digB = false := by
    rw [List.all_eq_false]
    refine ⟨x, ?_, by simp [h]⟩
    have e : xs.getD k 0 = xs[k] := by simp [List.getD, hk]
    rw [← hx, e]; exact List.getElem_mem hk
  rw [natB_eq, this, Bool.and_false]
theorem allL_step {xs : List Int} {k : Nat} (hk : k < xs.length) (x : Int) (hx : xs.getD k 0 = x) (h : digB x = true) (ha : (xs.take k).all digB = true) : (xs.take (k + 1)).all digB = true := by
  rw [take_succ_getD xs k hk, List.all_append, ha, hx]; simp [h]
theorem last_getD {xs : List Int} (h : 0 < xs.length) : xs.getLast? = some (xs.getD (xs.length - 1) 0) := by
  rw [List.getLast?_eq_getElem?, List.getElem?_eq_getElem (by omega)]
  simp [List.getD, show xs.length - 1 < xs.length by omega]

theorem nat_end {xs : List Int} {k : Nat} (hk : ¬ k < xs.length) (_hk2 : k ≤ xs.length) (h50 : xs.length ≤ 50) (h0 : 0 < xs.length) (x : Int) (hx : xs.getD (xs.length - 1) 0 = x)
    (ha : (xs.take k).all digB = true) : natB xs = (x != 0) := by
  rw [List.take_of_length_le (by omega)] at ha
  rw [natB_eq, ha, last_getD h0, hx, Bool.and_true, decide_eq_true h50, Bool.true_and, Bool.eq_iff_iff]
  simp
theorem nat_long {xs : List Int} (h : ¬ xs.length ≤ 50) : natB xs = false := by rw [natB_eq]; simp [h]

set_option maxHeartbeats 400000 in
theorem spec_NatOk (a : Option Addr) (ca : Nat) (xs : List Int) (w : World) (hx : Rd w a xs) (lx : xs.length ≤ maxLen) :
    Calls Try.prog 50 #[.slice a xs.length ca] w fun e w' => e = .returned (.bool (natB xs)) ∧ w = w' := by
  unfold maxLen at lx
  go_enter Try.func50, Try.ntmps50
  go_wp2
  go_loop [4, 7] (fun _ i => ∃ k : Nat, k ≤ xs.length ∧ i = .int .i64 k ∧ (xs.take k).all digB = true) (fun _ i => xs.length - (intOf i).toNat)
  case atStart => exact ⟨0, Nat.zero_le _, rfl, rfl⟩
  case round =>
    obtain ⟨k, hk, rfl, ha⟩ := hrel
    have H := Lib.hid ha; clear ha
    by_cases hlt : k < xs.length
    · obtain ⟨bx, ox, x, rfl, hbx, h1, hx1⟩ := hx.at k hlt
      cases hd : inB x 0 999999999
      · go_wp2_with (go_at_call 69; refine (l01In_any _ _ _ _).mono ?_; rintro e w' ⟨rfl, rfl⟩)
        go_ret
        exact ⟨ret_bool (all_stop hlt x hx1.out (by simp [inB, digB] at *; omega)).symm, rfl⟩
      · go_wp2_with (go_at_call 69; refine (l01In_any _ _ _ _).mono ?_; rintro e w' ⟨rfl, rfl⟩)
        go_round
        case rel => exact ⟨k + 1, by omega, by go_num, allL_step hlt x hx1.out (by simp [inB, digB] at *; omega) H.out⟩
        case measure => simp [intOf]; omega
    · by_cases h50 : xs.length ≤ 50
      · by_cases h0 : 0 < xs.length
        · obtain ⟨bx, ox, x, rfl, hbx, h1, hx1⟩ := hx.at (xs.length - 1) (by omega)
          have hz : ((xs.length : Int) == 0) = false := by rw [beq_eq_false_iff_ne]; omega
          go_wp2
          go_ret
          exact ⟨ret_bool (nat_end hlt (hk) h50 h0 x hx1.out H.out).symm, rfl⟩
        · have e : xs = [] := List.eq_nil_of_length_eq_zero (by omega)
          subst e
          go_wp2
          go_ret
          exact ⟨rfl, rfl⟩
      · go_wp2
        go_ret
        exact ⟨ret_bool (nat_long h50).symm, rfl⟩

set_option maxHeartbeats 800000 in
theorem impl_NatOk (a : Option Addr) (ca : Nat) (xs : List Int) (w : World) (hx : Rd w a xs) (lx : xs.length ≤ maxLen) :
    Calls Try.prog 53 #[.slice a xs.length ca] w fun e w' => e = .returned (.bool (natB xs)) ∧ w = w' := by
  unfold maxLen at lx
  by_cases h50 : xs.length ≤ 50
  · by_cases h0 : 0 < xs.length
    · obtain ⟨bl, ol, z, hal, hbl, hl1, hlz⟩ := hx.at (xs.length - 1) (by omega)
      cases hz : (z == 0)
      · have hzn : z ≠ 0 := by simpa using hz
        subst hal
        go_enter Try.func53, Try.ntmps53
        go_wp2
        go_loop [4, 24] (fun _ i => ∃ k : Nat, k ≤ xs.length ∧ i = .int .i64 k ∧ (xs.take k).all digB = true) (fun _ i => xs.length - (intOf i).toNat)
        case atStart => exact ⟨0, Nat.zero_le _, rfl, rfl⟩
        case round =>
          obtain ⟨k, hk, rfl, ha⟩ := hrel
          have H := Lib.hid ha; clear ha
          clear hz hl1
          by_cases hlt : k < xs.length
          · obtain ⟨bx, ox, x, hax, hbx, h1, hx1⟩ := hx.at k hlt
            obtain ⟨rfl, rfl⟩ : bl = bx ∧ ol = ox := by simpa using hax
            clear hax
            cases hd : digB x
            · have hd' : x < 0 ∨ 1000000000 ≤ x := by simp [digB] at hd; omega
              have hf := Lib.hid (all_stop hlt x hx1.out hd)
              clear hd
              by_cases hneg : x < 0
              all_goals
                go_wp2
                go_ret
                exact ⟨ret_bool hf.out.symm, rfl⟩
            · have hd' : 0 ≤ x ∧ x < 1000000000 := by simpa [digB] using hd
              have hf := Lib.hid (allL_step hlt x hx1.out hd H.out)
              clear hd
              go_wp2
              go_round
              case rel => exact ⟨k + 1, by omega, by go_num, hf.out⟩
              case measure => simp [intOf]; omega
          · have hf := Lib.hid (nat_end hlt hk h50 h0 z hlz.out H.out)
            go_wp2
            go_ret
            exact ⟨ret_bool (by rw [hf.out]; simpa using hzn), rfl⟩
      · have hf : natB xs = false := by
          rw [natB_eq, last_getD h0, hlz.out]; simp at hz; simp [hz]
        have HF := Lib.hid hf; clear hf
        subst hal
        go_enter Try.func53, Try.ntmps53
        go_wp2
        go_ret
        exact ⟨ret_bool HF.out.symm, rfl⟩
    · have e : xs = [] := List.eq_nil_of_length_eq_zero (by omega)
      subst e
      go_enter Try.func53, Try.ntmps53
      go_wp2
      go_loop [4, 24] (fun _ i => i = .int .i64 0) (fun _ _ => 0)
      case atStart => rfl
      case round =>
        obtain rfl := hrel
        go_wp2
        go_ret
        exact ⟨rfl, rfl⟩
  · go_enter Try.func53, Try.ntmps53
    go_wp2
    go_ret
    exact ⟨ret_bool (nat_long h50).symm, rfl⟩
end Go.Proofs.Ytcibccaimjifmaa
