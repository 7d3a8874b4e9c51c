/- The walks of TextNat (reference and program): the number of a text. For every string within the reach. -/
import Derived.Test.YtogkonenejfgmaaDoorWTrim
import Derived.Test.YtogkonenejfgmaaDoorDig
import Derived.Test.YtogkonenejfgmaaDoorWIsDigits
namespace Go.Proofs.YtogkonenejfgmaaDoor
open Go.RowKit
theorem numB_dig {s : ByteArray} (h : allB 48 57 48 57 s.data.toList = false) : numB s.data.toList = false := by unfold numB; rw [h]; rfl
theorem numB_long {s : ByteArray} (h : 450 < s.size) : numB s.data.toList = false := by
  unfold numB
  have : decide (s.data.toList.length ≤ 450) = false := by rw [decide_eq_false_iff_not]; simp; omega
  rw [this, Bool.and_false]; rfl
theorem head_get {s : ByteArray} (h : 0 < s.size) : s.data.toList.head? = some s[0] := by
  rw [List.head?_eq_getElem?, List.getElem?_eq_getElem (by simpa using h)]
  simp [ByteArray.getElem_eq_getElem_data]
theorem numB_lead {s : ByteArray} (h : 1 < s.size) (h0 : s[0].toNat = 48) : numB s.data.toList = false := by
  unfold numB
  have h1 : decide (1 < s.data.toList.length) = true := by rw [decide_eq_true_eq]; simpa using h
  have h2 : (s.data.toList.head? == some 48) = true := by
    rw [head_get (by omega), beq_iff_eq, Option.some.injEq]
    exact UInt8.toNat_inj.1 h0
  rw [h1, h2]; simp
theorem numB_ok {s : ByteArray} (hd : allB 48 57 48 57 s.data.toList = true) (hl : s.size ≤ 450) (h : s.size ≤ 1 ∨ ∃ h0 : 0 < s.size, s[0].toNat ≠ 48) : numB s.data.toList = true := by
  unfold numB
  have h1 : decide (s.data.toList.length ≤ 450) = true := by rw [decide_eq_true_eq]; simpa using hl
  rw [hd, h1, Bool.true_and, Bool.true_and, Bool.not_eq_true', Bool.and_eq_false_iff]
  rcases h with h | ⟨h0, h⟩
  · left; rw [decide_eq_false_iff_not]; simp; omega
  · right
    rw [head_get h0, beq_eq_false_iff_ne]
    intro e
    rw [Option.some.injEq] at e
    rw [e] at h; exact h rfl
theorem text_done {l : List UInt8} {k : Nat} {zs : List Int} (h : TxInv l k zs) (hk : l.length ≤ 9 * k) : trimL zs = limbs (dv l) := trimL_val (h.done hk).1 (h.done hk).2

end Go.Proofs.YtogkonenejfgmaaDoor
