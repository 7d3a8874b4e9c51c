/- The walks of roundModes, isMode, l01In, l06Mode, RmName, NameRm (program and reference): what each returns. No condition. -/
import Derived.Test.YtcibccaimjifmaaProg
import Derived.Test.YtcibccaimjifmaaStr
import Derived.Test.YtcibccaimjifmaaWIn
import Derived.Laws.EntriesVeiled
namespace Go.Proofs.Ytcibccaimjifmaa
open Go.RowKit

def rmName (m : Nat) : List UInt8 :=
  match m with
  | 0 => [100, 111, 119, 110]
  | 1 => [117, 112]
  | 2 => [102, 108, 111, 111, 114]
  | 3 => [99, 101, 105, 108]
  | 4 => [104, 97, 108, 102, 100, 111, 119, 110]
  | 5 => [104, 97, 108, 102, 117, 112]
  | 6 => [104, 97, 108, 102, 101, 118, 101, 110]
  | _ => []
def modesV : Value := .agg #[.string ⟨(rmName 0).toArray⟩, .func (.func 77) #[] #[], .string ⟨(rmName 1).toArray⟩, .func (.func 78) #[] #[], .string ⟨(rmName 2).toArray⟩, .func (.func 79) #[] #[], .string ⟨(rmName 3).toArray⟩, .func (.func 80) #[] #[], .string ⟨(rmName 4).toArray⟩, .func (.func 81) #[] #[], .string ⟨(rmName 5).toArray⟩, .func (.func 82) #[] #[], .string ⟨(rmName 6).toArray⟩, .func (.func 83) #[] #[]]
set_option maxHeartbeats 1000000 in
theorem roundModes_any (w : World) : Calls Try.prog 59 #[] w fun e w' => e = .returned modesV ∧ Below w.heap.size w w' := by
  go_enter Try.func59, Try.ntmps59
  go_wp2
  refine bodyPost_ret (v := modesV) (by simp [results, Try.results59, go_sem]; rfl) rfl ⟨rfl, ?_⟩
  repeat (first | exact Below.refl _ _ | refine Below.setCell ?_ (by simp) _ | refine Below.alloc ?_ (by simp) _)

theorem modes_index0 (w : World) : (Instr.index 75 modesV (.int .i64 0)).run Try.prog w = .ok (.agg #[.string ⟨(rmName 0).toArray⟩, .func (.func 77) #[] #[]]) w := by kernel_rfl
theorem modes_index1 (w : World) : (Instr.index 75 modesV (.int .i64 1)).run Try.prog w = .ok (.agg #[.string ⟨(rmName 1).toArray⟩, .func (.func 78) #[] #[]]) w := by kernel_rfl
theorem modes_index2 (w : World) : (Instr.index 75 modesV (.int .i64 2)).run Try.prog w = .ok (.agg #[.string ⟨(rmName 2).toArray⟩, .func (.func 79) #[] #[]]) w := by kernel_rfl
theorem modes_index3 (w : World) : (Instr.index 75 modesV (.int .i64 3)).run Try.prog w = .ok (.agg #[.string ⟨(rmName 3).toArray⟩, .func (.func 80) #[] #[]]) w := by kernel_rfl
theorem modes_index4 (w : World) : (Instr.index 75 modesV (.int .i64 4)).run Try.prog w = .ok (.agg #[.string ⟨(rmName 4).toArray⟩, .func (.func 81) #[] #[]]) w := by kernel_rfl
theorem modes_index5 (w : World) : (Instr.index 75 modesV (.int .i64 5)).run Try.prog w = .ok (.agg #[.string ⟨(rmName 5).toArray⟩, .func (.func 82) #[] #[]]) w := by kernel_rfl
theorem modes_index6 (w : World) : (Instr.index 75 modesV (.int .i64 6)).run Try.prog w = .ok (.agg #[.string ⟨(rmName 6).toArray⟩, .func (.func 83) #[] #[]]) w := by kernel_rfl
theorem modes_name0 (w : World) : (Instr.field 74 (.agg #[.string ⟨(rmName 0).toArray⟩, .func (.func 77) #[] #[]]) 0).run Try.prog w = .ok (.string ⟨(rmName 0).toArray⟩) w := by kernel_rfl
theorem modes_name1 (w : World) : (Instr.field 74 (.agg #[.string ⟨(rmName 1).toArray⟩, .func (.func 78) #[] #[]]) 0).run Try.prog w = .ok (.string ⟨(rmName 1).toArray⟩) w := by kernel_rfl
theorem modes_name2 (w : World) : (Instr.field 74 (.agg #[.string ⟨(rmName 2).toArray⟩, .func (.func 79) #[] #[]]) 0).run Try.prog w = .ok (.string ⟨(rmName 2).toArray⟩) w := by kernel_rfl
theorem modes_name3 (w : World) : (Instr.field 74 (.agg #[.string ⟨(rmName 3).toArray⟩, .func (.func 80) #[] #[]]) 0).run Try.prog w = .ok (.string ⟨(rmName 3).toArray⟩) w := by kernel_rfl
theorem modes_name4 (w : World) : (Instr.field 74 (.agg #[.string ⟨(rmName 4).toArray⟩, .func (.func 81) #[] #[]]) 0).run Try.prog w = .ok (.string ⟨(rmName 4).toArray⟩) w := by kernel_rfl
theorem modes_name5 (w : World) : (Instr.field 74 (.agg #[.string ⟨(rmName 5).toArray⟩, .func (.func 82) #[] #[]]) 0).run Try.prog w = .ok (.string ⟨(rmName 5).toArray⟩) w := by kernel_rfl
theorem modes_name6 (w : World) : (Instr.field 74 (.agg #[.string ⟨(rmName 6).toArray⟩, .func (.func 83) #[] #[]]) 0).run Try.prog w = .ok (.string ⟨(rmName 6).toArray⟩) w := by kernel_rfl
theorem isMode_any (n : Int) (w : World) : Calls Try.prog 36 #[.int .i64 n] w fun e w' => e = .returned (.bool (inB n 0 6)) ∧ w = w' := by
  go_enter Try.func36, Try.ntmps36
  go_wp2
  all_goals (go_ret; exact ⟨ret_bool (by simp [inB]; try omega), rfl⟩)

theorem in7 {n : Int} (h : inB n 0 6 = true) : n = 0 ∨ n = 1 ∨ n = 2 ∨ n = 3 ∨ n = 4 ∨ n = 5 ∨ n = 6 := by
  simp [inB] at h; omega
theorem out7 {n : Int} (h : inB n 0 6 = false) : n < 0 ∨ 6 < n := by simp [inB] at h; omega
theorem rmName_out {n : Int} (h : inB n 0 6 = false) (h0 : 0 ≤ n) : rmName n.toNat = [] := by
  have := out7 h
  unfold rmName; split <;> first | omega | rfl

def rmNameZ (n : Int) : List UInt8 := if 0 ≤ n then rmName n.toNat else []
theorem rmNameZ_out {n : Int} (h : inB n 0 6 = false) : rmNameZ n = [] := by
  unfold rmNameZ; split
  · exact rmName_out h ‹_›
  · rfl

def nameRm (l : List UInt8) : Int × Bool :=
  if l = rmName 0 then (0, true) else if l = rmName 1 then (1, true) else if l = rmName 2 then (2, true) else if l = rmName 3 then (3, true)
  else if l = rmName 4 then (4, true) else if l = rmName 5 then (5, true) else if l = rmName 6 then (6, true) else (0, false)
theorem nameRm_hit {l : List UInt8} {k : Nat} (hk : k ≤ 6) (h : l = rmName k) : nameRm l = ((k : Int), true) := by
  subst h
  rcases (show k = 0 ∨ k = 1 ∨ k = 2 ∨ k = 3 ∨ k = 4 ∨ k = 5 ∨ k = 6 from by omega) with rfl | rfl | rfl | rfl | rfl | rfl | rfl <;> decide
theorem nameRm_miss {l : List UInt8} (h : ∀ j, j < 7 → l ≠ rmName j) : nameRm l = (0, false) := by
  unfold nameRm
  rw [if_neg (h 0 (by omega)), if_neg (h 1 (by omega)), if_neg (h 2 (by omega)), if_neg (h 3 (by omega)), if_neg (h 4 (by omega)), if_neg (h 5 (by omega)), if_neg (h 6 (by omega))]
theorem rmNameZ_nat (k : Nat) : rmNameZ k = rmName k := by unfold rmNameZ; rw [if_pos (by omega)]; rfl
theorem name_eq {k : Nat} {s : ByteArray} (h : (rmNameZ k == s.toList) = true) : s.data.toList = rmName k := by
  rw [beq_iff_eq, ByteArray.toList_eq, rmNameZ_nat] at h; exact h.symm
theorem name_ne {k : Nat} {s : ByteArray} (h : (rmNameZ k == s.toList) = false) : s.data.toList ≠ rmName k := by
  rw [beq_eq_false_iff_ne, ByteArray.toList_eq, rmNameZ_nat] at h; exact fun e => h e.symm
theorem nm_eq {k : Nat} {s : ByteArray} (h : (rmName k == s.toList) = true) : s.data.toList = rmName k := by
  rw [beq_iff_eq, ByteArray.toList_eq] at h; exact h.symm
theorem nm_ne {k : Nat} {s : ByteArray} (h : (rmName k == s.toList) = false) : s.data.toList ≠ rmName k := by
  rw [beq_eq_false_iff_ne, ByteArray.toList_eq] at h; exact fun e => h e.symm
theorem ne_succ {l : List UInt8} {k : Nat} (h : ∀ j, j < k → l ≠ rmName j) (hk : l ≠ rmName k) : ∀ j, j < k + 1 → l ≠ rmName j := by
  intro j hj
  by_cases e : j = k
  · rw [e]; exact hk
  · exact h j (by omega)

end Go.Proofs.Ytcibccaimjifmaa
