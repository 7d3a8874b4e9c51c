/- The walk of IntText (reference): an integer's decimal text. For every integer. -/
import Derived.Test.YtmakcgiekfcofaaDoorTx
import Derived.Test.YtmakcgiekfcofaaDoorMem
import Derived.Test.YtmakcgiekfcofaaDoorWIntOk
import Derived.Deep.RegionWith
namespace Go.Proofs.YtmakcgiekfcofaaDoor
open Go.RowKit
open Go.Lib (decDigits itoa)
def tx (l : List UInt8) : ByteArray := ⟨l.toArray⟩
theorem tx_app (a b : List UInt8) : tx a ++ tx b = tx (a ++ b) := by apply ByteArray.ext; rw [ByteArray.data_append]; simp [tx]
theorem tx_size (l : List UInt8) : (tx l).size = l.length := by show l.toArray.size = _; simp
theorem tx_list (l : List UInt8) : (tx l).data.toList = l := by simp [tx]
theorem tx_of (s : ByteArray) : tx s.data.toList = s := by apply ByteArray.ext; simp [tx]
theorem conv1 (w : World) (x : Int) (hx : 48 ≤ x ∧ x ≤ 57) :
    (convert 50 9 (.slice (some ⟨w.heap.size, 0, none⟩) 1 1)).run Tryd.prog (w.alloc (.cells #[.int .u8 x] 5)) = .ok (.string (tx [UInt8.ofNat x.toNat])) (w.alloc (.cells #[.int .u8 x] 5)) := by
  have e8 : ((UInt8.ofNat x.toNat).toNat : Int) = x := by rw [UInt8.toNat_ofNat']; omega
  exact run_convert_bytes_back (P := Tryd.prog) (w.alloc (.cells #[.int .u8 x] 5)) 50 9 5 ⟨w.heap.size, 0, none⟩ 1 [UInt8.ofNat x.toNat] Tryd.underlying50 Tryd.underlying5 Tryd.underlying9 (by
    intro j hj
    have hj' : j < 1 := hj
    obtain rfl : j = 0 := by omega
    show (w.alloc (.cells #[.int .u8 x] 5)).cell? ⟨w.heap.size, 0, none⟩ = some (.int .u8 ((UInt8.ofNat x.toNat).toNat : Int))
    rw [e8]
    exact cell_box _ _ _ _ 0 _ rfl rfl)
theorem itoa_pos {z : Int} (h : 0 ≤ z) : itoa z = decDigits z.toNat := by unfold itoa; rw [if_neg (by omega)]
theorem itoa_lt {z : Int} (h : 0 ≤ z) (h2 : z < 10) : itoa z = [UInt8.ofNat (48 + z).toNat] := by
  rw [itoa_pos h, dec_lt (by omega), show 48 + z.toNat = (48 + z).toNat by omega]
theorem itoa_ge {z : Int} (h : 10 ≤ z) : itoa z = itoa (z / 10) ++ [UInt8.ofNat (48 + z % 10).toNat] := by
  rw [itoa_pos (by omega), itoa_pos (by omega), dec_ge (by omega), show 48 + z.toNat % 10 = (48 + z % 10).toNat by omega, show z.toNat / 10 = (z / 10).toNat by omega]
theorem itoa_len {z : Int} (h0 : 0 ≤ z) (h1 : z ≤ 9223372036854775807) : (itoa z).length ≤ 20 := by
  rw [itoa_pos h0]
  refine dec_len 20 _ (by omega) ?_
  have e : (10 : Nat) ^ 20 = 100000000000000000000 := by decide
  rw [e]; omega
theorem spec_IntText_nat (z : Int) (w : World) (h0 : 0 ≤ z) (h1 : z ≤ 9223372036854775807) :
    Calls Tryd.prog 10 #[.int .i64 z] w fun e w' => e = .returned (.string (tx (itoa z))) ∧ Below w.heap.size w w' := by
  obtain ⟨T, hT⟩ : ∃ T, T = itoa z := ⟨_, rfl⟩
  rw [← hT]
  have HL := Lib.hid (itoa_len h0 h1)
  rw [← hT] at HL
  have HT := Lib.hid hT
  clear hT
  go_enter Tryd.func10, Tryd.ntmps10
  go_wp2
  go_loopw [0, 3] (fun kv ov wr => ∃ (a : Int) (out : ByteArray), kv = .int .i64 a ∧ ov = .string out ∧ 0 ≤ a ∧ a ≤ 9223372036854775807 ∧ T = itoa a ++ out.data.toList ∧ Below w.heap.size w wr) (fun kv _ _ => (intOf kv).toNat)
  case atStart => exact ⟨z, ⟨#[]⟩, rfl, rfl, h0, h1, by rw [HT.out]; simp, Below.refl _ _⟩
  case round =>
    obtain ⟨a, out, rfl, rfl, ha0, ha1, hm, hb⟩ := hrel
    have hsz : out.size + 1 ≤ 20 := by
      have e1 := congrArg List.length hm
      rw [List.length_append] at e1
      have e2 : out.data.toList.length = out.size := by simp
      have e3 : 0 < (itoa a).length := by rw [itoa_pos ha0]; exact dec_len_pos _
      have e4 := HL.out
      omega
    have HM := Lib.hid hm
    clear hm
    by_cases h9 : 9 < a
    · have hcv := conv1 wr (48 + a % 10) (by omega)
      obtain ⟨d, hd⟩ : ∃ d : ByteArray, d = tx [UInt8.ofNat (48 + a % 10).toNat] := ⟨_, rfl⟩
      rw [← hd] at hcv
      have hds : d.size = 1 := by rw [hd]; rfl
      have hcat : (d ++ out).data.toList = UInt8.ofNat (48 + a % 10).toNat :: out.data.toList := by rw [ByteArray.data_append, hd]; simp [tx]
      have hsz2 : (d ++ out).size = out.size + 1 := by rw [ByteArray.size_append, hds]; omega
      have hnm := Lib.hid (show T = itoa (a / 10) ++ (d ++ out).data.toList by rw [HM.out, itoa_ge (by omega), hcat]; simp)
      have HB := Lib.hid (hb.alloc (o := .cells #[.int .u8 (48 + a % 10)] 5) hb.size)
      clear hd hcat hb
      go_wp2
      go_roundw
      case rel => exact ⟨a / 10, _, by go_num, rfl, by omega, by omega, hnm.out, HB.out⟩
      case measure => simp [intOf]; omega
    · have hcv := conv1 wr (48 + a) (by omega)
      have HZ := Lib.hid (show tx [UInt8.ofNat (48 + a).toNat] ++ out = tx T by rw [HM.out, itoa_lt ha0 (by omega), ← tx_app, tx_of])
      obtain ⟨d, hd⟩ : ∃ d : ByteArray, d = tx [UInt8.ofNat (48 + a).toNat] := ⟨_, rfl⟩
      rw [← hd] at hcv HZ
      have hds : d.size = 1 := by rw [hd]; rfl
      have HB := Lib.hid (hb.alloc (o := .cells #[.int .u8 (48 + a)] 5) hb.size)
      clear hd hb
      go_wp2
      go_ret
      exact ⟨by rw [← HZ.out]; rfl, HB.out⟩
theorem conv_at (W : World) (b : Nat) (x : Int) (hx : 48 ≤ x ∧ x ≤ 57) (hc : W.cell? ⟨b, 0, none⟩ = some (.int .u8 x)) :
    (convert 50 9 (.slice (some ⟨b, 0, none⟩) 1 1)).run Tryd.prog W = .ok (.string (tx [UInt8.ofNat x.toNat])) W := by
  have e8 : ((UInt8.ofNat x.toNat).toNat : Int) = x := by rw [UInt8.toNat_ofNat']; omega
  exact run_convert_bytes_back (P := Tryd.prog) W 50 9 5 ⟨b, 0, none⟩ 1 [UInt8.ofNat x.toNat] Tryd.underlying50 Tryd.underlying5 Tryd.underlying9 (by
    intro j hj
    have hj' : j < 1 := hj
    obtain rfl : j = 0 := by omega
    show W.cell? ⟨b, 0, none⟩ = some (.int .u8 ((UInt8.ofNat x.toNat).toNat : Int))
    rw [e8]; exact hc)
theorem wi {n : Int} (h0 : -9223372036854775808 ≤ n) (h1 : n ≤ 9223372036854775807) : IntKind.i64.wrap n = n := by rw [IntKind.wrap_i64]; omega
theorem itoa_neg {z : Int} (h : z < 0) : itoa z = 45 :: decDigits z.natAbs := by unfold itoa; rw [if_pos h]
theorem itoa_neg_lt {z : Int} (h : z < 0) (h2 : -10 < z) : itoa z = [45, UInt8.ofNat (48 - z).toNat] := by
  rw [itoa_neg h, dec_lt (by omega), show 48 + z.natAbs = (48 - z).toNat by omega]
theorem tq {z : Int} (h : z ≤ 0) : z.tdiv 10 = -((-z) / 10) ∧ z.tmod 10 = -((-z) % 10) := by
  have e : z = -(-z) := by omega
  constructor
  · have h1 : (-(-z)).tdiv 10 = -((-z).tdiv 10) := Int.neg_tdiv _ _
    rw [← e] at h1
    rw [h1, Int.tdiv_eq_ediv_of_nonneg (by omega)]
  · have h1 : (-(-z)).tmod 10 = -((-z).tmod 10) := Int.neg_tmod _ _
    rw [← e] at h1
    rw [h1, Int.tmod_eq_emod_of_nonneg (by omega)]
theorem itoa_neg_ge {z : Int} (h : z ≤ -10) : itoa z = itoa (z.tdiv 10) ++ [UInt8.ofNat (48 - z.tmod 10).toNat] := by
  obtain ⟨t1, t2⟩ := tq (show z ≤ 0 by omega)
  have e1 : (z.tdiv 10) = -((z.natAbs / 10 : Nat) : Int) := by omega
  have e2 : (z.tmod 10) = -((z.natAbs % 10 : Nat) : Int) := by omega
  rw [itoa_neg (by omega), itoa_neg (by omega), dec_ge (by omega : 10 ≤ z.natAbs), e1, e2, show (-((z.natAbs / 10 : Nat) : Int)).natAbs = z.natAbs / 10 by omega, show (48 - -((z.natAbs % 10 : Nat) : Int)).toNat = 48 + z.natAbs % 10 by omega]
  rfl
theorem itoa_neg_len {z : Int} (h0 : z < 0) (h1 : -9223372036854775808 ≤ z) : (itoa z).length ≤ 21 := by
  rw [itoa_neg h0, List.length_cons]
  have := dec_len 20 z.natAbs (by omega) (by
    have e : (10 : Nat) ^ 20 = 100000000000000000000 := by decide
    rw [e]; omega)
  omega
set_option maxRecDepth 100000 in
set_option maxHeartbeats 1600000 in
theorem spec_IntText_neg (k : Nat) : ∀ (z : Int), z.natAbs ≤ k → z < 0 → -9223372036854775808 ≤ z → ∀ w : World,
    Calls Tryd.prog 10 #[.int .i64 z] w fun e w' => e = .returned (.string (tx (itoa z))) ∧ Below w.heap.size w w' := by
  induction k with
  | zero => intro z h1 h2; omega
  | succ k ih =>
    intro z hk h0 h1 w
    obtain ⟨t1, t2⟩ := tq (show z ≤ 0 by omega)
    by_cases h : -10 < z
    · have HT := Lib.hid (show tx [45] ++ tx [UInt8.ofNat (48 - z).toNat] = tx (itoa z) by rw [itoa_neg_lt h0 h, tx_app]; rfl)
      have hq : z.tdiv 10 = 0 := by omega
      clear t1 t2
      have hcv := conv1 w (48 - z) (by omega)
      obtain ⟨d, hd⟩ : ∃ d : ByteArray, d = tx [UInt8.ofNat (48 - z).toNat] := ⟨_, rfl⟩
      rw [← hd] at hcv HT
      have hds : d.size = 1 := by rw [hd]; rfl
      have HB := Lib.hid ((Below.refl w.heap.size w).alloc (o := .cells #[.int .u8 (48 - z)] 5) (Nat.le_refl _))
      clear hd
      go_enter Tryd.func10, Tryd.ntmps10
      go_wp2
      go_ret
      exact ⟨by rw [← HT.out]; rfl, HB.out⟩
    · have HT := Lib.hid (show tx (itoa (z.tdiv 10)) ++ tx [UInt8.ofNat (48 - z.tmod 10).toNat] = tx (itoa z) by rw [itoa_neg_ge (z := z) (by omega), tx_app])
      have hq : (z.tdiv 10 == 0) = false := by rw [beq_eq_false_iff_ne]; omega
      obtain ⟨y, hy⟩ : ∃ y, z.tdiv 10 = y := ⟨_, rfl⟩
      obtain ⟨m, hm⟩ : ∃ m, z.tmod 10 = m := ⟨_, rfl⟩
      have hm1 : -9 ≤ m ∧ m ≤ 0 := by omega
      have hx1 : 48 ≤ 48 - m ∧ 48 - m ≤ 57 := by omega
      have hy1 : y < 0 ∧ -9223372036854775808 ≤ y ∧ y.natAbs ≤ k := by omega
      obtain ⟨ty, hty⟩ : ∃ t, t = tx (itoa y) := ⟨_, rfl⟩
      obtain ⟨d, hd⟩ : ∃ d : ByteArray, d = tx [UInt8.ofNat (48 - m).toNat] := ⟨_, rfl⟩
      have hL : ty.size ≤ 21 := by rw [hty, tx_size]; exact itoa_neg_len hy1.1 hy1.2.1
      have hds : d.size = 1 := by rw [hd]; rfl
      rw [hy, hm, ← hty, ← hd] at HT
      rw [hy] at hq
      have ih2 := ih y hy1.2.2 hy1.1 hy1.2.1
      rw [← hty] at ih2
      have hcv : ∀ W : World, (convert 50 9 (.slice (some ⟨W.heap.size, 0, none⟩) 1 1)).run Tryd.prog (W.alloc (.cells #[.int .u8 (48 - m)] 5)) = .ok (.string d) (W.alloc (.cells #[.int .u8 (48 - m)] 5)) := fun W => by rw [hd]; exact conv1 W _ hx1
      have hcv1 := hcv w
      have hcv2 : (convert 50 9 (.slice (some ⟨w.heap.size, 0, none⟩) 1 1)).run Tryd.prog (World.drew (w.alloc (.cells #[.int .u8 (48 - m)] 5))) = .ok (.string d) (World.drew (w.alloc (.cells #[.int .u8 (48 - m)] 5))) := by
        rw [hd]; exact conv_at _ _ _ hx1 (cell_box w _ _ _ 0 _ rfl rfl)
      have hca : ∀ q, Below (World.drew (w.alloc (.cells #[.int .u8 (48 - m)] 5))).heap.size (World.drew (w.alloc (.cells #[.int .u8 (48 - m)] 5))) q → (convert 50 9 (.slice (some ⟨w.heap.size, 0, none⟩) 1 1)).run Tryd.prog q = .ok (.string d) q := fun q hq => by
        rw [hd]; exact conv_at _ _ _ hx1 (cell_keep hq (cell_box w _ _ _ 0 _ rfl rfl) (Nat.le_refl _))
      have IH := Lib.hid ih2
      have HCA := Lib.hid hca
      have HCV := Lib.hid hcv
      have hbd : Below w.heap.size w (World.drew w) := (Below.refl _ _).drew
      have hba : Below w.heap.size w (World.drew (w.alloc (.cells #[.int .u8 (48 - m)] 5))) := (bel_alloc w _).drew
      obtain ⟨hy0, hy2, -⟩ := hy1
      obtain ⟨hm0, hm2⟩ := hm1
      have hw1 : IntKind.i64.wrap (z.tdiv 10) = y := by rw [wi (by omega) (by omega)]; exact hy
      have hw2 : IntKind.i64.wrap (z.tmod 10) = m := by rw [wi (by omega) (by omega)]; exact hm
      have hw3 : IntKind.i64.wrap (48 - m) = 48 - m := wi (by omega) (by omega)
      have hw4 : IntKind.u8.wrap (48 - m) = 48 - m := by rw [IntKind.wrap_u8]; omega
      clear t1 t2 ih ih2 hca hcv hd hty hk hx1 h1 hy2 hy hw2 h
      go_enter Tryd.func10, Tryd.ntmps10
      go_wp2_with fail
      go_region_with  (first | (go_at_call 10; (with_reducible show Calls _ _ _ (World.drew (World.alloc _ _)) _); refine (IH.out _).mono ?_; rintro e qA ⟨rfl, hq1⟩; have hcA := HCA.out qA hq1; have hbq := hba.trans (hq1.mono hba.size)) | (go_at_call 10; refine (IH.out _).mono ?_; rintro e qA ⟨rfl, hq1⟩; have hcA := HCV.out qA; have hbq := (hbd.trans (hq1.mono hbd.size)).alloc (o := .cells #[.int .u8 (48 - m)] 5) ((hbd.trans (hq1.mono hbd.size)).size)))
      all_goals
        go_wp2
        go_ret
        exact ⟨by rw [← HT.out]; rfl, hbq⟩
theorem spec_IntText (z : Int) (w : World) (hz : Rng z) :
    Calls Tryd.prog 10 #[.int .i64 z] w fun e w' => e = .returned (.string (tx (itoa z))) ∧ Below w.heap.size w w' := by
  by_cases h : z < 0
  · exact spec_IntText_neg z.natAbs z (Nat.le_refl _) h hz.1 w
  · exact spec_IntText_nat z w (by omega) hz.2
end Go.Proofs.YtmakcgiekfcofaaDoor
