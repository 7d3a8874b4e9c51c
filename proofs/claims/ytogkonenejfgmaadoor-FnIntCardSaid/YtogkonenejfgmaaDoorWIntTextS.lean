/- The walk of IntText (reference): an integer's decimal text. For every integer. -/
import Derived.Test.YtogkonenejfgmaaDoorTx
import Derived.Test.YtogkonenejfgmaaDoorMem
import Derived.Test.YtogkonenejfgmaaDoorWIntOk
import Derived.Deep.RegionWith
namespace Go.Proofs.YtogkonenejfgmaaDoor
open Go.RowKit
open Go.Lib (decDigits itoa)
def tx (l : List UInt8) : ByteArray := ⟨l.toArray⟩
theorem tx_app (a b : List UInt8) : tx a ++ tx b = tx (a ++ b) := by apply ByteArray.ext; rw [ByteArray.data_append]; simp [tx]
theorem tx_size (l : List UInt8) : (tx l).size = l.length := by show l.toArray.size = _; simp
theorem tx_list (l : List UInt8) : (tx l).data.toList = l := by simp [tx]
theorem tx_of (s : ByteArray) : tx s.data.toList = s := by apply ByteArray.ext; simp [tx]
theorem conv1 (w : World) (x : Int) (hx : 48 ≤ x ∧ x ≤ 57) :
    (convert 22 9 (.slice (some ⟨w.heap.size, 0, none⟩) 1 1)).run Tryd.prog (w.alloc (.cells #[.int .u8 x] 5)) = .ok (.string (tx [UInt8.ofNat x.toNat])) (w.alloc (.cells #[.int .u8 x] 5)) := by
  have e8 : ((UInt8.ofNat x.toNat).toNat : Int) = x := by rw [UInt8.toNat_ofNat']; omega
  exact run_convert_bytes_back (P := Tryd.prog) (w.alloc (.cells #[.int .u8 x] 5)) 22 9 5 ⟨w.heap.size, 0, none⟩ 1 [UInt8.ofNat x.toNat] Tryd.underlying22 Tryd.underlying5 Tryd.underlying9 (by
    intro j hj
    have hj' : j < 1 := hj
    obtain rfl : j = 0 := by omega
    show (w.alloc (.cells #[.int .u8 x] 5)).cell? ⟨w.heap.size, 0, none⟩ = some (.int .u8 ((UInt8.ofNat x.toNat).toNat : Int))
    rw [e8]
    exact cell_box _ _ _ _ 0 _ rfl rfl)
theorem itoa_pos {z : Int} (h : 0 ≤ z) : itoa z = decDigits z.toNat := by unfold itoa; rw [if_neg (by omega)]
theorem itoa_lt {z : Int} (h : 0 ≤ z) (h2 : z < 10) : itoa z = [UInt8.ofNat (48 + z).toNat] := by
  rw [itoa_pos h, dec_lt (by omega), show 48 + z.toNat = (48 + z).toNat by omega]
theorem itoa_ge {z : Int} (h : 10 ≤ z) : itoa z = itoa (z / 10) ++ [UInt8.ofNat (48 + z % 10).toNat] := by
  rw [itoa_pos (by omega), itoa_pos (by omega), dec_ge (by omega), show 48 + z.toNat % 10 = (48 + z % 10).toNat by omega, show z.toNat / 10 = (z / 10).toNat by omega]
theorem itoa_len {z : Int} (h0 : 0 ≤ z) (h1 : z ≤ 9223372036854775807) : (itoa z).length ≤ 20 := by
  rw [itoa_pos h0]
  refine dec_len 20 _ (by omega) ?_
  have e : (10 : Nat) ^ 20 = 100000000000000000000 := by decide
  rw [e]; omega
theorem conv_at (W : World) (b : Nat) (x : Int) (hx : 48 ≤ x ∧ x ≤ 57) (hc : W.cell? ⟨b, 0, none⟩ = some (.int .u8 x)) :
    (convert 22 9 (.slice (some ⟨b, 0, none⟩) 1 1)).run Tryd.prog W = .ok (.string (tx [UInt8.ofNat x.toNat])) W := by
  have e8 : ((UInt8.ofNat x.toNat).toNat : Int) = x := by rw [UInt8.toNat_ofNat']; omega
  exact run_convert_bytes_back (P := Tryd.prog) W 22 9 5 ⟨b, 0, none⟩ 1 [UInt8.ofNat x.toNat] Tryd.underlying22 Tryd.underlying5 Tryd.underlying9 (by
    intro j hj
    have hj' : j < 1 := hj
    obtain rfl : j = 0 := by omega
    show W.cell? ⟨b, 0, none⟩ = some (.int .u8 ((UInt8.ofNat x.toNat).toNat : Int))
    rw [e8]; exact hc)
theorem wi {n : Int} (h0 : -9223372036854775808 ≤ n) (h1 : n ≤ 9223372036854775807) : IntKind.i64.wrap n = n := by rw [IntKind.wrap_i64]; omega
theorem itoa_neg {z : Int} (h : z < 0) : itoa z = 45 :: decDigits z.natAbs := by unfold itoa; rw [if_pos h]
theorem itoa_neg_lt {z : Int} (h : z < 0) (h2 : -10 < z) : itoa z = [45, UInt8.ofNat (48 - z).toNat] := by
  rw [itoa_neg h, dec_lt (by omega), show 48 + z.natAbs = (48 - z).toNat by omega]
theorem tq {z : Int} (h : z ≤ 0) : z.tdiv 10 = -((-z) / 10) ∧ z.tmod 10 = -((-z) % 10) := by
  have e : z = -(-z) := by omega
  constructor
  · have h1 : (-(-z)).tdiv 10 = -((-z).tdiv 10) := Int.neg_tdiv _ _
    rw [← e] at h1
    rw [h1, Int.tdiv_eq_ediv_of_nonneg (by omega)]
  · have h1 : (-(-z)).tmod 10 = -((-z).tmod 10) := Int.neg_tmod _ _
    rw [← e] at h1
    rw [h1, Int.tmod_eq_emod_of_nonneg (by omega)]
theorem itoa_neg_ge {z : Int} (h : z ≤ -10) : itoa z = itoa (z.tdiv 10) ++ [UInt8.ofNat (48 - z.tmod 10).toNat] := by
  obtain ⟨t1, t2⟩ := tq (show z ≤ 0 by omega)
  have e1 : (z.tdiv 10) = -((z.natAbs / 10 : Nat) : Int) := by omega
  have e2 : (z.tmod 10) = -((z.natAbs % 10 : Nat) : Int) := by omega
  rw [itoa_neg (by omega), itoa_neg (by omega), dec_ge (by omega : 10 ≤ z.natAbs), e1, e2, show (-((z.natAbs / 10 : Nat) : Int)).natAbs = z.natAbs / 10 by omega, show (48 - -((z.natAbs % 10 : Nat) : Int)).toNat = 48 + z.natAbs % 10 by omega]
  rfl
theorem itoa_neg_len {z : Int} (h0 : z < 0) (h1 : -9223372036854775808 ≤ z) : (itoa z).length ≤ 21 := by
  rw [itoa_neg h0, List.length_cons]
  have := dec_len 20 z.natAbs (by omega) (by
    have e : (10 : Nat) ^ 20 = 100000000000000000000 := by decide
    rw [e]; omega)
  omega
end Go.Proofs.YtogkonenejfgmaaDoor
