/- The walks of roundModes, isMode, l01In, l06Mode, RmName, NameRm (program and reference): what each returns. No condition. -/
import Derived.Test.YtaanplgolkodbaaRows
import Derived.Test.YtaanplgolkodbaaStr
import Derived.Laws.EntriesVeiled
namespace Go.Proofs.Ytaanplgolkodbaa
open Go.RowKit

def rmName (m : Nat) : List UInt8 :=
  match m with
  | 0 => [100, 111, 119, 110]
  | 1 => [117, 112]
  | 2 => [102, 108, 111, 111, 114]
  | 3 => [99, 101, 105, 108]
  | 4 => [104, 97, 108, 102, 100, 111, 119, 110]
  | 5 => [104, 97, 108, 102, 117, 112]
  | 6 => [104, 97, 108, 102, 101, 118, 101, 110]
  | _ => []
def modesV : Value := .agg #[.string ⟨(rmName 0).toArray⟩, .func (.func 26) #[] #[], .string ⟨(rmName 1).toArray⟩, .func (.func 27) #[] #[], .string ⟨(rmName 2).toArray⟩, .func (.func 28) #[] #[], .string ⟨(rmName 3).toArray⟩, .func (.func 29) #[] #[], .string ⟨(rmName 4).toArray⟩, .func (.func 30) #[] #[], .string ⟨(rmName 5).toArray⟩, .func (.func 31) #[] #[], .string ⟨(rmName 6).toArray⟩, .func (.func 32) #[] #[]]
set_option maxHeartbeats 1000000 in
theorem roundModes_any (w : World) : Calls Try.prog 24 #[] w fun e w' => e = .returned modesV ∧ Below w.heap.size w w' := by
  go_enter Try.func24, Try.ntmps24
  go_wp2
  refine bodyPost_ret (v := modesV) (by simp [results, Try.results24, go_sem]; rfl) rfl ⟨rfl, ?_⟩
  repeat (first | exact Below.refl _ _ | refine Below.setCell ?_ (by simp) _ | refine Below.alloc ?_ (by simp) _)

theorem modes_index0 (w : World) : (Instr.index 34 modesV (.int .i64 0)).run Try.prog w = .ok (.agg #[.string ⟨(rmName 0).toArray⟩, .func (.func 26) #[] #[]]) w := by kernel_rfl
theorem modes_index1 (w : World) : (Instr.index 34 modesV (.int .i64 1)).run Try.prog w = .ok (.agg #[.string ⟨(rmName 1).toArray⟩, .func (.func 27) #[] #[]]) w := by kernel_rfl
theorem modes_index2 (w : World) : (Instr.index 34 modesV (.int .i64 2)).run Try.prog w = .ok (.agg #[.string ⟨(rmName 2).toArray⟩, .func (.func 28) #[] #[]]) w := by kernel_rfl
theorem modes_index3 (w : World) : (Instr.index 34 modesV (.int .i64 3)).run Try.prog w = .ok (.agg #[.string ⟨(rmName 3).toArray⟩, .func (.func 29) #[] #[]]) w := by kernel_rfl
theorem modes_index4 (w : World) : (Instr.index 34 modesV (.int .i64 4)).run Try.prog w = .ok (.agg #[.string ⟨(rmName 4).toArray⟩, .func (.func 30) #[] #[]]) w := by kernel_rfl
theorem modes_index5 (w : World) : (Instr.index 34 modesV (.int .i64 5)).run Try.prog w = .ok (.agg #[.string ⟨(rmName 5).toArray⟩, .func (.func 31) #[] #[]]) w := by kernel_rfl
theorem modes_index6 (w : World) : (Instr.index 34 modesV (.int .i64 6)).run Try.prog w = .ok (.agg #[.string ⟨(rmName 6).toArray⟩, .func (.func 32) #[] #[]]) w := by kernel_rfl
theorem modes_name0 (w : World) : (Instr.field 33 (.agg #[.string ⟨(rmName 0).toArray⟩, .func (.func 26) #[] #[]]) 0).run Try.prog w = .ok (.string ⟨(rmName 0).toArray⟩) w := by kernel_rfl
theorem modes_name1 (w : World) : (Instr.field 33 (.agg #[.string ⟨(rmName 1).toArray⟩, .func (.func 27) #[] #[]]) 0).run Try.prog w = .ok (.string ⟨(rmName 1).toArray⟩) w := by kernel_rfl
theorem modes_name2 (w : World) : (Instr.field 33 (.agg #[.string ⟨(rmName 2).toArray⟩, .func (.func 28) #[] #[]]) 0).run Try.prog w = .ok (.string ⟨(rmName 2).toArray⟩) w := by kernel_rfl
theorem modes_name3 (w : World) : (Instr.field 33 (.agg #[.string ⟨(rmName 3).toArray⟩, .func (.func 29) #[] #[]]) 0).run Try.prog w = .ok (.string ⟨(rmName 3).toArray⟩) w := by kernel_rfl
theorem modes_name4 (w : World) : (Instr.field 33 (.agg #[.string ⟨(rmName 4).toArray⟩, .func (.func 30) #[] #[]]) 0).run Try.prog w = .ok (.string ⟨(rmName 4).toArray⟩) w := by kernel_rfl
theorem modes_name5 (w : World) : (Instr.field 33 (.agg #[.string ⟨(rmName 5).toArray⟩, .func (.func 31) #[] #[]]) 0).run Try.prog w = .ok (.string ⟨(rmName 5).toArray⟩) w := by kernel_rfl
theorem modes_name6 (w : World) : (Instr.field 33 (.agg #[.string ⟨(rmName 6).toArray⟩, .func (.func 32) #[] #[]]) 0).run Try.prog w = .ok (.string ⟨(rmName 6).toArray⟩) w := by kernel_rfl
def inB (n lo hi : Int) : Bool := decide (lo ≤ n) && decide (n ≤ hi)
theorem inB_true {n lo hi : Int} (h : lo ≤ n ∧ n ≤ hi) : inB n lo hi = true := by simp [inB, h]
theorem inB_false {n lo hi : Int} (h : ¬ (lo ≤ n ∧ n ≤ hi)) : inB n lo hi = false := by simp [inB]; omega
theorem l01In_any (n lo hi : Int) (w : World) : Calls Try.prog 25 #[.int .i64 n, .int .i64 lo, .int .i64 hi] w fun e w' => e = .returned (.bool (inB n lo hi)) ∧ w = w' := by
  go_enter Try.func25, Try.ntmps25
  go_wp2
  all_goals (go_ret; exact ⟨ret_bool (by simp [inB]; try omega), rfl⟩)
theorem l06Mode_any (n : Int) (w : World) : Calls Try.prog 22 #[.int .i64 n] w fun e w' => e = .returned (.bool (inB n 0 6)) ∧ w = w' := by
  go_enter Try.func22, Try.ntmps22
  go_wp2_with (go_at_call 25; refine (l01In_any _ _ _ _).mono ?_; rintro e w' ⟨rfl, rfl⟩)
  go_ret
  exact ⟨rfl, rfl⟩
theorem isMode_any (n : Int) (w : World) : Calls Try.prog 23 #[.int .i64 n] w fun e w' => e = .returned (.bool (inB n 0 6)) ∧ w = w' := by
  go_enter Try.func23, Try.ntmps23
  go_wp2
  all_goals (go_ret; exact ⟨ret_bool (by simp [inB]; try omega), rfl⟩)

theorem in7 {n : Int} (h : inB n 0 6 = true) : n = 0 ∨ n = 1 ∨ n = 2 ∨ n = 3 ∨ n = 4 ∨ n = 5 ∨ n = 6 := by
  simp [inB] at h; omega
theorem out7 {n : Int} (h : inB n 0 6 = false) : n < 0 ∨ 6 < n := by simp [inB] at h; omega
theorem rmName_out {n : Int} (h : inB n 0 6 = false) (h0 : 0 ≤ n) : rmName n.toNat = [] := by
  have := out7 h
  unfold rmName; split <;> first | omega | rfl

def rmNameZ (n : Int) : List UInt8 := if 0 ≤ n then rmName n.toNat else []
theorem rmNameZ_out {n : Int} (h : inB n 0 6 = false) : rmNameZ n = [] := by
  unfold rmNameZ; split
  · exact rmName_out h ‹_›
  · rfl

set_option maxHeartbeats 1000000 in
theorem spec_RmName (n : Int) (w : World) : Calls Try.prog 15 #[.int .i64 n] w fun e w' => e = .returned (.string ⟨(rmNameZ n).toArray⟩) ∧ Below w.heap.size w w' := by
  cases hi : inB n 0 6
  · have H := Lib.hid (rmNameZ_out hi)
    go_enter Try.func15, Try.ntmps15
    go_wp2_with (go_at_call 22; refine (l06Mode_any _ _).mono ?_; rintro e w' ⟨rfl, rfl⟩)
    go_ret
    exact ⟨ret_eq (by rw [H.out]; rfl), Below.refl _ _⟩
  · rcases in7 hi with rfl | rfl | rfl | rfl | rfl | rfl | rfl
    all_goals
      go_enter Try.func15, Try.ntmps15
      go_wp2_with (go_at_call 22; refine (l06Mode_any _ _).mono ?_; rintro e w' ⟨rfl, rfl⟩)
      go_ret
      exact ⟨rfl, (Below.refl _ _).alloc (Nat.le_refl _) _⟩

set_option maxHeartbeats 1000000 in
theorem impl_RmName (n : Int) (w : World) : Calls Try.prog 16 #[.int .i64 n] w fun e w' => e = .returned (.string ⟨(rmNameZ n).toArray⟩) ∧ Below w.heap.size w w' := by
  cases hi : inB n 0 6
  · have H := Lib.hid (rmNameZ_out hi)
    go_enter Try.func16, Try.ntmps16
    go_wp2_with (go_at_call 23; refine (isMode_any _ _).mono ?_; rintro e w' ⟨rfl, rfl⟩)
    go_ret
    exact ⟨ret_eq (by rw [H.out]; rfl), Below.refl _ _⟩
  · rcases in7 hi with rfl | rfl | rfl | rfl | rfl | rfl | rfl
    all_goals
      have i0 := modes_index0
      have i1 := modes_index1
      have i2 := modes_index2
      have i3 := modes_index3
      have i4 := modes_index4
      have i5 := modes_index5
      have i6 := modes_index6
      have n0 := modes_name0
      have n1 := modes_name1
      have n2 := modes_name2
      have n3 := modes_name3
      have n4 := modes_name4
      have n5 := modes_name5
      have n6 := modes_name6
      go_enter Try.func16, Try.ntmps16
      go_wp2_with first | (go_at_call 23; refine (isMode_any _ _).mono ?_; rintro e w' ⟨rfl, rfl⟩) | (go_at_call 24; refine (roundModes_any _).mono ?_; rintro e w' ⟨rfl, hb⟩)
      go_ret
      exact ⟨rfl, ‹_›⟩

def nameRm (l : List UInt8) : Int × Bool :=
  if l = rmName 0 then (0, true) else if l = rmName 1 then (1, true) else if l = rmName 2 then (2, true) else if l = rmName 3 then (3, true)
  else if l = rmName 4 then (4, true) else if l = rmName 5 then (5, true) else if l = rmName 6 then (6, true) else (0, false)
theorem nameRm_hit {l : List UInt8} {k : Nat} (hk : k ≤ 6) (h : l = rmName k) : nameRm l = ((k : Int), true) := by
  subst h
  rcases (show k = 0 ∨ k = 1 ∨ k = 2 ∨ k = 3 ∨ k = 4 ∨ k = 5 ∨ k = 6 from by omega) with rfl | rfl | rfl | rfl | rfl | rfl | rfl <;> decide
theorem nameRm_miss {l : List UInt8} (h : ∀ j, j < 7 → l ≠ rmName j) : nameRm l = (0, false) := by
  unfold nameRm
  rw [if_neg (h 0 (by omega)), if_neg (h 1 (by omega)), if_neg (h 2 (by omega)), if_neg (h 3 (by omega)), if_neg (h 4 (by omega)), if_neg (h 5 (by omega)), if_neg (h 6 (by omega))]
theorem rmNameZ_nat (k : Nat) : rmNameZ k = rmName k := by unfold rmNameZ; rw [if_pos (by omega)]; rfl
theorem name_eq {k : Nat} {s : ByteArray} (h : (rmNameZ k == s.toList) = true) : s.data.toList = rmName k := by
  rw [beq_iff_eq, ByteArray.toList_eq, rmNameZ_nat] at h; exact h.symm
theorem name_ne {k : Nat} {s : ByteArray} (h : (rmNameZ k == s.toList) = false) : s.data.toList ≠ rmName k := by
  rw [beq_eq_false_iff_ne, ByteArray.toList_eq, rmNameZ_nat] at h; exact fun e => h e.symm
theorem nm_eq {k : Nat} {s : ByteArray} (h : (rmName k == s.toList) = true) : s.data.toList = rmName k := by
  rw [beq_iff_eq, ByteArray.toList_eq] at h; exact h.symm
theorem nm_ne {k : Nat} {s : ByteArray} (h : (rmName k == s.toList) = false) : s.data.toList ≠ rmName k := by
  rw [beq_eq_false_iff_ne, ByteArray.toList_eq] at h; exact fun e => h e.symm
theorem ne_succ {l : List UInt8} {k : Nat} (h : ∀ j, j < k → l ≠ rmName j) (hk : l ≠ rmName k) : ∀ j, j < k + 1 → l ≠ rmName j := by
  intro j hj
  by_cases e : j = k
  · rw [e]; exact hk
  · exact h j (by omega)

set_option maxHeartbeats 2000000 in
theorem spec_NameRm (s : ByteArray) (w : World) : Calls Try.prog 17 #[.string s] w fun e w' => e = .returned (.tuple #[.int .i64 (nameRm s.data.toList).1, .bool (nameRm s.data.toList).2]) ∧ Below w.heap.size w w' := by
  go_enter Try.func17, Try.ntmps17
  go_wp2
  go_loopw [4] (fun i wr => ∃ k : Nat, k ≤ 7 ∧ i = .int .i64 k ∧ (∀ j, j < k → s.data.toList ≠ rmName j) ∧ Below w.heap.size w wr) (fun i _ => 7 - (intOf i).toNat)
  case atStart => exact ⟨0, by omega, rfl, by simp, Below.refl _ _⟩
  case round =>
    obtain ⟨k, hk, rfl, hne, hb⟩ := hrel
    have H := Lib.hid hne; clear hne
    by_cases hlt : k ≤ 6
    · go_wp2_with fail
      refine (spec_RmName _ _).mono ?_
      rintro e w' ⟨rfl, hb'⟩
      have hb2 := hb.trans (hb'.mono hb.size)
      clear hb hb'
      go_wp2
      · go_ret2
        have h1 : (rmNameZ k == s.toList) = true := by assumption
        exact ⟨ret_eq (by rw [nameRm_hit hlt (name_eq h1)]; rfl), hb2⟩
      · go_roundw
        case rel =>
          have h1 : (rmNameZ k == s.toList) = false := by assumption
          exact ⟨k + 1, by omega, by go_num, ne_succ H.out (name_ne h1), hb2⟩
        case measure => simp [intOf]; omega
    · go_wp2
      go_ret2
      exact ⟨ret_eq (by rw [nameRm_miss (fun j hj => H.out j (by omega))]; rfl), hb⟩

set_option maxHeartbeats 4000000 in
theorem impl_NameRm (s : ByteArray) (w : World) : Calls Try.prog 18 #[.string s] w fun e w' => e = .returned (.tuple #[.int .i64 (nameRm s.data.toList).1, .bool (nameRm s.data.toList).2]) ∧ Below w.heap.size w w' := by
  have i0 := modes_index0
  have i1 := modes_index1
  have i2 := modes_index2
  have i3 := modes_index3
  have i4 := modes_index4
  have i5 := modes_index5
  have i6 := modes_index6
  go_enter Try.func18, Try.ntmps18
  go_wp2_with fail
  refine (roundModes_any _).mono ?_
  rintro e w1 ⟨rfl, hb1⟩
  have h1s := hb1.size
  go_wp2
  go_loopw [4, 5, 7] (fun _ _ i wr => ∃ k : Nat, k ≤ 7 ∧ i = .int .i64 k ∧ (∀ j, j < k → s.data.toList ≠ rmName j) ∧ Below w.heap.size w wr) (fun _ _ i _ => 7 - (intOf i).toNat)
  case atStart => exact ⟨0, by omega, rfl, by simp, hb1⟩
  case round =>
    obtain ⟨k, hk, rfl, hne, hb⟩ := hrel
    have H := Lib.hid hne; clear hne
    have hsz := hb.size
    by_cases hlt : k ≤ 6
    · rcases (show k = 0 ∨ k = 1 ∨ k = 2 ∨ k = 3 ∨ k = 4 ∨ k = 5 ∨ k = 6 from by omega) with rfl | rfl | rfl | rfl | rfl | rfl | rfl
      · go_wp2
        · go_ret2
          have h1 : (rmName 0 == s.toList) = true := by assumption
          exact ⟨ret_eq (by rw [nameRm_hit (by omega) (nm_eq h1)]; rfl), hb.alloc (by omega) _⟩
        · go_roundw
          case rel =>
            have h1 : (rmName 0 == s.toList) = false := by assumption
            exact ⟨1, by omega, rfl, ne_succ H.out (nm_ne h1), hb.alloc (by omega) _⟩
          case measure => simp [intOf]
      · go_wp2
        · go_ret2
          have h1 : (rmName 1 == s.toList) = true := by assumption
          exact ⟨ret_eq (by rw [nameRm_hit (by omega) (nm_eq h1)]; rfl), hb.alloc (by omega) _⟩
        · go_roundw
          case rel =>
            have h1 : (rmName 1 == s.toList) = false := by assumption
            exact ⟨2, by omega, rfl, ne_succ H.out (nm_ne h1), hb.alloc (by omega) _⟩
          case measure => simp [intOf]
      · go_wp2
        · go_ret2
          have h1 : (rmName 2 == s.toList) = true := by assumption
          exact ⟨ret_eq (by rw [nameRm_hit (by omega) (nm_eq h1)]; rfl), hb.alloc (by omega) _⟩
        · go_roundw
          case rel =>
            have h1 : (rmName 2 == s.toList) = false := by assumption
            exact ⟨3, by omega, rfl, ne_succ H.out (nm_ne h1), hb.alloc (by omega) _⟩
          case measure => simp [intOf]
      · go_wp2
        · go_ret2
          have h1 : (rmName 3 == s.toList) = true := by assumption
          exact ⟨ret_eq (by rw [nameRm_hit (by omega) (nm_eq h1)]; rfl), hb.alloc (by omega) _⟩
        · go_roundw
          case rel =>
            have h1 : (rmName 3 == s.toList) = false := by assumption
            exact ⟨4, by omega, rfl, ne_succ H.out (nm_ne h1), hb.alloc (by omega) _⟩
          case measure => simp [intOf]
      · go_wp2
        · go_ret2
          have h1 : (rmName 4 == s.toList) = true := by assumption
          exact ⟨ret_eq (by rw [nameRm_hit (by omega) (nm_eq h1)]; rfl), hb.alloc (by omega) _⟩
        · go_roundw
          case rel =>
            have h1 : (rmName 4 == s.toList) = false := by assumption
            exact ⟨5, by omega, rfl, ne_succ H.out (nm_ne h1), hb.alloc (by omega) _⟩
          case measure => simp [intOf]
      · go_wp2
        · go_ret2
          have h1 : (rmName 5 == s.toList) = true := by assumption
          exact ⟨ret_eq (by rw [nameRm_hit (by omega) (nm_eq h1)]; rfl), hb.alloc (by omega) _⟩
        · go_roundw
          case rel =>
            have h1 : (rmName 5 == s.toList) = false := by assumption
            exact ⟨6, by omega, rfl, ne_succ H.out (nm_ne h1), hb.alloc (by omega) _⟩
          case measure => simp [intOf]
      · go_wp2
        · go_ret2
          have h1 : (rmName 6 == s.toList) = true := by assumption
          exact ⟨ret_eq (by rw [nameRm_hit (by omega) (nm_eq h1)]; rfl), hb.alloc (by omega) _⟩
        · go_roundw
          case rel =>
            have h1 : (rmName 6 == s.toList) = false := by assumption
            exact ⟨7, by omega, rfl, ne_succ H.out (nm_ne h1), hb.alloc (by omega) _⟩
          case measure => simp [intOf]
    · go_wp2
      go_ret2
      exact ⟨ret_eq (by rw [nameRm_miss (fun j hj => H.out j (by omega))]; rfl), hb⟩
end Go.Proofs.Ytaanplgolkodbaa
