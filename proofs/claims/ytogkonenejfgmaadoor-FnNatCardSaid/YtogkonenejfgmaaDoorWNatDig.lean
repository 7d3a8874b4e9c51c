/- The walks of NatDigits and NatZeros (program and reference). For every slice within the reach, where the library's table reads as it is laid (program). -/
import Derived.Test.YtogkonenejfgmaaDoorWNatTextI
namespace Go.Proofs.YtogkonenejfgmaaDoor
open Go.RowKit
open Go.Lib (decDigits itoa)
def fNatDigits (xs : List Int) : Int := if natB xs && decide (0 < xs.length) then ((natTxt xs).length : Int) else 0
theorem natTxt_size {xs : List Int} (h : natB xs = true) : (tx (natTxt xs)).size = (natTxt xs).length ∧ (natTxt xs).length ≤ 500 := by
  refine ⟨tx_size _, ?_⟩
  have h1 := natTxt_len (natB_ok h)
  have h2 := natB_le h
  omega
set_option maxHeartbeats 800000 in
theorem impl_NatDigits (a : Option Addr) (ca : Nat) (xs : List Int) (w : World) (hx : In w a ca xs) (ht : Tab w) :
    Calls Tryd.prog 29 #[.slice a xs.length ca] w fun e w' => e = .returned (.int .i64 (fNatDigits xs)) ∧ Below w.heap.size w w' := by
  have hl := hx.2.2
  cases h1 : natB xs
  · have HF := Lib.hid (show fNatDigits xs = 0 by unfold fNatDigits; rw [h1]; rfl)
    go_enter Tryd.func29, Tryd.ntmps29
    go_wp2_with fail
    refine (impl_NatOk _ _ _ _ hx.1 hx.maxLen).mono ?_
    rintro e w1 ⟨rfl, rfl⟩
    rw [h1]
    go_wp2
    go_ret
    exact ⟨by rw [HF.out]; rfl, Below.refl _ _⟩
  by_cases h0 : xs.length ≤ 0
  · have HF := Lib.hid (show fNatDigits xs = 0 by unfold fNatDigits; rw [decide_eq_false (by omega), Bool.and_false]; rfl)
    have z0 : ((xs.length : Int) == 0) = true := by rw [beq_iff_eq]; omega
    go_enter Tryd.func29, Tryd.ntmps29
    go_wp2_with fail
    refine (impl_NatOk _ _ _ _ hx.1 hx.maxLen).mono ?_
    rintro e w1 ⟨rfl, rfl⟩
    rw [h1]
    go_wp2
    go_ret
    exact ⟨by rw [HF.out]; rfl, Below.refl _ _⟩
  · have z0 : ((xs.length : Int) == 0) = false := by rw [beq_eq_false_iff_ne]; omega
    have HF := Lib.hid (show fNatDigits xs = ((tx (natTxt xs)).size : Int) by unfold fNatDigits; rw [h1, decide_eq_true (by omega), (natTxt_size h1).1]; rfl)
    have hs : (tx (natTxt xs)).size ≤ 500 := by rw [(natTxt_size h1).1]; exact (natTxt_size h1).2
    go_enter Tryd.func29, Tryd.ntmps29
    go_wp2_with fail
    refine (impl_NatOk _ _ _ _ hx.1 hx.maxLen).mono ?_
    rintro e w1 ⟨rfl, rfl⟩
    rw [h1]
    go_wp2_with fail
    refine (natText_any _ _ _ _ hx h1 ht).mono ?_
    rintro e w1 ⟨rfl, hb⟩
    go_wp2
    go_ret
    exact ⟨by rw [HF.out]; rfl, hb⟩
end Go.Proofs.YtogkonenejfgmaaDoor
