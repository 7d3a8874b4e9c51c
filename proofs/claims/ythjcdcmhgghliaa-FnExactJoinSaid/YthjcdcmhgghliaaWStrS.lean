/- The walks of the laws' helpers for slices of strings: markText, eqStringS, markStringS, heldStringS. -/
import Derived.Test.YthjcdcmhgghliaaMemS
import Derived.Test.YthjcdcmhgghliaaStr
import Derived.Test.YthjcdcmhgghliaaWEqInt
import Derived.Deep.QuietTactic
import Derived.BigQuiet
import Derived.Laws.IdiomStrings
import Derived.Deep.RegionHeld3
namespace Go.Proofs.Ythjcdcmhgghliaa
open Go.RowKit
def mtF : Nat → Nat → List UInt8
  | 0, _ => []
  | f + 1, k => if k = 0 then [] else mtF f (k / 10) ++ [UInt8.ofNat (48 + k % 10)]
theorem mtF_fuel : ∀ (f g k : Nat), k ≤ f → k ≤ g → mtF f k = mtF g k
  | 0, 0, _, _, _ => rfl
  | 0, g + 1, k, h, _ => by obtain rfl : k = 0 := by omega
                            simp [mtF]
  | f + 1, 0, k, _, h => by obtain rfl : k = 0 := by omega
                            simp [mtF]
  | f + 1, g + 1, k, h1, h2 => by
    unfold mtF
    split
    · rfl
    · rw [mtF_fuel f g (k / 10) (by omega) (by omega)]
def mtd (k : Nat) : List UInt8 := mtF k k
theorem mtd_zero : mtd 0 = [] := rfl
theorem mtd_pos {k : Nat} (h : k ≠ 0) : mtd k = mtd (k / 10) ++ [UInt8.ofNat (48 + k % 10)] := by
  obtain ⟨n, rfl⟩ : ∃ n, k = n + 1 := ⟨k - 1, by omega⟩
  show mtF (n + 1) (n + 1) = mtF ((n + 1) / 10) ((n + 1) / 10) ++ _
  rw [mtF, if_neg (by omega), mtF_fuel n ((n + 1) / 10) ((n + 1) / 10) (by omega) (Nat.le_refl _)]
def mt (k : Int) : ByteArray := if k ≤ 0 then ⟨#[109, 48]⟩ else ⟨#[109]⟩ ++ ⟨(mtd k.toNat).toArray⟩
theorem markText_any (k : Int) (w : World) (hk : 0 ≤ k ∧ k ≤ 1099511627776) :
    Calls Try.prog 43 #[.int .i64 k] w fun e w' => e = .returned (.string (mt k)) ∧ Below w.heap.size w w' := by
  obtain ⟨hk0, hk1⟩ := hk
  by_cases h : k ≤ 0
  · have e : mt k = ⟨#[109, 48]⟩ := if_pos h
    rw [e]
    go_enter Try.func43, Try.ntmps43
    go_wp2
    go_ret
    exact ⟨rfl, Below.refl _ _⟩
  · obtain ⟨n, rfl⟩ := Int.eq_ofNat_of_zero_le hk0
    have e : mt n = ⟨#[109]⟩ ++ ⟨(mtd n).toArray⟩ := if_neg h
    rw [e]
    clear e
    go_enter Try.func43, Try.ntmps43
    go_wp2
    go_loopw [0, 3] (fun kv ov wr => ∃ (r : Nat) (out : ByteArray), kv = .int .i64 r ∧ ov = .string out ∧ r ≤ n ∧ mtd n = mtd r ++ out.data.toList ∧ out.size + r ≤ n ∧ Below w.heap.size w wr) (fun kv _ _ => (intOf kv).toNat)
    case atStart => exact ⟨n, ⟨#[]⟩, rfl, rfl, Nat.le_refl _, by simp, by show 0 + n ≤ n; omega, Below.refl _ _⟩
    case round =>
      obtain ⟨r, out, rfl, rfl, hr, hm, hsz, hb⟩ := hrel
      have HM := Lib.hid hm
      clear hm
      by_cases h0 : 0 < r
      · have e8 : ((UInt8.ofNat (48 + r % 10)).toNat : Int) = 48 + (r : Int) % 10 := by
          rw [UInt8.toNat_ofNat']
          omega
        have hcv := run_convert_bytes_back (P := Try.prog) (wr.alloc (.cells #[.int .u8 (48 + (r : Int) % 10)] 5)) 58 9 5 ⟨wr.heap.size, 0, none⟩ 1 [UInt8.ofNat (48 + r % 10)] Try.underlying58 Try.underlying5 Try.underlying9 (by
          intro j hj
          have hj' : j < 1 := hj
          obtain rfl : j = 0 := by omega
          show (wr.alloc (.cells #[.int .u8 (48 + (r : Int) % 10)] 5)).cell? ⟨wr.heap.size, 0, none⟩ = some (.int .u8 ((UInt8.ofNat (48 + r % 10)).toNat : Int))
          rw [e8]
          exact cell_box _ _ _ _ 0 _ rfl rfl)
        rw [List.length_singleton] at hcv
        obtain ⟨d, hd⟩ : ∃ d : ByteArray, d = ⟨[UInt8.ofNat (48 + r % 10)].toArray⟩ := ⟨_, rfl⟩
        rw [← hd] at hcv
        have hds : d.size = 1 := by rw [hd]; rfl
        have hcat : (d ++ out).data.toList = UInt8.ofNat (48 + r % 10) :: out.data.toList := by rw [ByteArray.data_append, hd]; simp
        have hsz2 : (d ++ out).size = out.size + 1 := by rw [ByteArray.size_append, hds]; omega
        have hnm := Lib.hid (show mtd n = mtd (r / 10) ++ (d ++ out).data.toList by rw [HM.out, mtd_pos (by omega), hcat]; simp)
        have HB := Lib.hid (hb.alloc (o := .cells #[.int .u8 (48 + (r : Int) % 10)] 5) hb.size)
        clear hd hcat hb
        go_wp2
        go_roundw
        case rel => exact ⟨r / 10, _, by go_num, rfl, by omega, hnm.out, by omega, HB.out⟩
        case measure => simp [intOf]; omega
      · have e : r = 0 := by omega
        subst e
        have hz : out = ⟨(mtd n).toArray⟩ := by
          apply ByteArray.ext
          rw [HM.out, mtd_zero, List.nil_append]
        have HZ := Lib.hid hz
        clear hz
        go_wp2
        go_ret
        exact ⟨by rw [← HZ.out]; rfl, hb⟩
set_option maxHeartbeats 800000 in
theorem eqStringS_same (a b : Option Addr) (ca cb : Nat) (xs : List ByteArray) (w : World) (hx : RdS w a xs) (hy : RdS w b xs) (lx : xs.length ≤ 1099511627776) :
    Calls Try.prog 14 #[.slice a xs.length ca, .slice b xs.length cb] w fun e w' => e = .returned (.bool true) ∧ Below w.heap.size w w' := by
  have hb1 : ((xs.length : Int) != (xs.length : Int)) = false := by rw [bne_eq_false_iff_eq]
  go_enter Try.func14, Try.ntmps14
  go_wp2
  go_loopw [5] (fun i wr => ∃ k n : Nat, k ≤ xs.length ∧ i = .int .i64 k ∧ wr = w.drewN n) (fun i _ => xs.length - (intOf i).toNat)
  case atStart => exact ⟨0, 0, Nat.zero_le _, rfl, rfl⟩
  case round =>
    obtain ⟨k, n, hk, rfl, rfl⟩ := hrel
    by_cases hlt : k < xs.length
    · obtain ⟨bx, ox, x, rfl, hbx, h1, hx1⟩ := hx.at k hlt
      obtain ⟨by_, oy, y, rfl, hby, h2, hy1⟩ := hy.at k hlt
      have e : y = x := by rw [← hy1.out, hx1.out]
      subst e
      go_wp2
      go_quiet (fail)
      go_wp2
      go_roundw
      case rel => exact ⟨k + 1, _, by omega, by go_num, rfl⟩
      case measure => simp [intOf]; omega
    · go_wp2
      go_ret
      exact ⟨rfl, bel_drewN (Below.refl _ _) n⟩
def marksS (k : Int) : Nat → List ByteArray
  | 0 => []
  | n + 1 => marksS k n ++ [mt (k + n)]
theorem marksS_length (k : Int) : ∀ n, (marksS k n).length = n
  | 0 => rfl
  | n + 1 => by simp [marksS, marksS_length k n]
theorem marksS_getD (k : Int) : ∀ (n i : Nat), i < n → (marksS k n).getD i ByteArray.empty = mt (k + i)
  | 0, i, h => by omega
  | n + 1, i, h => by
    unfold marksS
    by_cases e : i < n
    · rw [List.getD_eq_getElem?_getD, List.getElem?_append_left (by rw [marksS_length]; exact e), ← List.getD_eq_getElem?_getD, marksS_getD k n i e]
    · have : i = n := by omega
      subst this
      rw [List.getD_eq_getElem?_getD, List.getElem?_append_right (by rw [marksS_length]; exact Nat.le_refl _), marksS_length]
      simp
theorem dropS_cons (xs : List ByteArray) (k : Nat) (h : k < xs.length) : xs.drop k = xs.getD k ByteArray.empty :: xs.drop (k + 1) := by
  rw [List.drop_eq_getElem_cons h]; simp [List.getD, h]
theorem marksS_step {xs : List ByteArray} {k : Int} {i : Nat} (h : i < xs.length) : (marksS k i ++ xs.drop i).set i (mt (k + i)) = marksS k (i + 1) ++ xs.drop (i + 1) := by
  rw [List.set_append_right _ _ (by rw [marksS_length]; exact Nat.le_refl _), marksS_length, Nat.sub_self, dropS_cons xs i h]
  simp [marksS]
set_option maxHeartbeats 800000 in
theorem markStringS_any (lo hi : Nat) (a : Option Addr) (cap : Nat) (xs : List ByteArray) (k : Int) (w : World) (h : SlotS w lo hi a cap xs) (hl : xs.length ≤ 1048577) (hk : 0 ≤ k ∧ k ≤ 1048577) :
    Calls Try.prog 15 #[.slice a xs.length cap, .int .i64 k] w fun e w' => e = .returned (.int .i64 (k + xs.length)) ∧ SlotS w' lo hi a cap (marksS k xs.length) ∧ Wr w w' lo hi := by
  obtain ⟨hk0, hk1⟩ := hk
  go_enter Try.func15, Try.ntmps15
  go_wp2
  go_loopw [1, 5] (fun kk i wr => ∃ n : Nat, n ≤ xs.length ∧ i = .int .i64 n ∧ kk = .int .i64 (k + n) ∧ SlotS wr lo hi a cap (marksS k n ++ xs.drop n) ∧ Wr w wr lo hi) (fun _ i _ => xs.length - (intOf i).toNat)
  case atStart => exact ⟨0, Nat.zero_le _, rfl, by simp, by simpa [marksS] using h, Wr.refl _ _ _⟩
  case round =>
    obtain ⟨n, hn, rfl, rfl, hs, hw⟩ := hrel
    by_cases hlt : n < xs.length
    · have hlen : (marksS k n ++ xs.drop n).length = xs.length := by rw [List.length_append, marksS_length, List.length_drop]; omega
      have hszlo := hs.1
      go_wp2_with fail
      refine (markText_any (k + n) _ (by omega)).mono ?_
      rintro e w1 ⟨rfl, hb1⟩
      replace hs := hs.below hb1 hszlo
      have hw1 := hw.trans (Wr.of hb1 lo hi)
      clear hw
      obtain ⟨hsz, hs | ⟨hs, hp⟩⟩ := hs
      · rw [hs] at hlen; simp at hlen; omega
      rcases hs.cases with ⟨_, _, h3⟩ | ⟨g, rfl, hg1, hg2, _⟩
      · rw [h3] at hlen; simp at hlen; omega
      · obtain ⟨y, h2, _⟩ := hs.cellAt n (by omega)
        have h3 := hs.frozenAt n
        have hs2 := hs.stored n (mt (k + n))
        rw [marksS_step hlt] at hs2
        have hs3 : SlotS (w1.setCell ⟨g, n, none⟩ (.string (mt (k + n)))) lo hi (some ⟨g, 0, none⟩) cap (marksS k (n + 1) ++ xs.drop (n + 1)) := ⟨by simpa [World.setCell] using hsz, .inr ⟨hs2, hp⟩⟩
        have HS := Lib.hid hs3
        have HP := Lib.hid hp
        have hw2 := hw1.set (k := n) (hp ⟨g, 0, none⟩ rfl) (.string (mt (k + n)))
        clear hs hs2 hs3 hw1 hlen hp
        go_wp2
        go_roundw
        case rel => exact ⟨n + 1, by omega, by go_num, by go_num, HS.out, hw2⟩
        case measure => simp [intOf]; omega
    · have e : n = xs.length := by omega
      subst e
      go_wp2
      go_ret
      refine ⟨rfl, ?_, hw⟩
      rw [List.drop_of_length_le (Nat.le_refl _), List.append_nil] at hs
      exact hs
set_option maxHeartbeats 1600000 in
theorem heldStringS_any (a : Option Addr) (cap n : Nat) (k : Int) (w : World) (h : RdS w a (marksS k n)) (hl : n ≤ 1048577) (hk : 0 ≤ k ∧ k ≤ 1048577) :
    Calls Try.prog 16 #[.slice a n cap, .int .i64 k] w fun e w' => e = .returned (.int .i64 (k + n)) ∧ Below w.heap.size w w' := by
  obtain ⟨hk0, hk1⟩ := hk
  go_enter Try.func16, Try.ntmps16
  go_wp2
  go_loopw [1, 5] (fun kk i wr => ∃ m : Nat, m ≤ n ∧ i = .int .i64 m ∧ kk = .int .i64 (k + m) ∧ Below w.heap.size w wr) (fun _ i _ => n - (intOf i).toNat)
  case atStart => exact ⟨0, Nat.zero_le _, rfl, by simp, Below.refl _ _⟩
  case round =>
    obtain ⟨m, hm, rfl, rfl, hb0⟩ := hrel
    by_cases hlt : m < n
    · obtain ⟨b, off, x, rfl, hb, h1, hx⟩ := (h.below hb0 (Nat.le_refl _)).at m (by rw [marksS_length]; exact hlt)
      have hx' := hx.out
      rw [marksS_getD k n m hlt] at hx'
      subst hx'
      have HK := Lib.hid (show 0 ≤ k + (m : Int) ∧ k + (m : Int) ≤ 1099511627776 by omega)
      clear h hx
      go_wp2_with fail
      go_region_held3 (fun w' => w'.cell? ⟨b, off + m, none⟩ = some (.string (mt (k + m))))
        (first | exact hk1 | exact h1 | go_keep)
        (first | (go_at_call 43; refine (markText_any (k + m) _ HK.out).mono ?_; rintro e w1 ⟨rfl, hb1⟩; have hk1 := cell_keep hb1 h1 (Nat.le_refl _)))
      have hB := hb0.drew.trans (hb1.mono hb0.size)
      go_wp2
      go_roundw
      case rel => exact ⟨m + 1, by omega, by go_num, by go_num, hB⟩
      case measure => simp [intOf]; omega
    · have e : m = n := by omega
      subst e
      go_wp2
      go_ret
      exact ⟨rfl, hb0⟩
end Go.Proofs.Ythjcdcmhgghliaa
