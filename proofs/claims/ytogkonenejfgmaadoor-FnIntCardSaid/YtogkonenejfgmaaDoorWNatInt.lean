/- The walks of NatInt (reference and program): the value of a nat as an int. For every slice within the reach. -/
import Derived.Test.YtogkonenejfgmaaDoorWCmp
import Derived.Test.YtogkonenejfgmaaDoorWNatOf
namespace Go.Proofs.YtogkonenejfgmaaDoor
open Go.RowKit
def maxN : Nat := 9223372036854775807
theorem maxN_limbs : limbs maxN = [854775807, 223372036, 9] := by
  unfold maxN
  rw [limbs_pos (by omega), limbs_pos (by omega), limbs_pos (by omega)]
  rw [show (9223372036854775807 : Nat) / 1000000000 / 1000000000 / 1000000000 = 0 from by omega, limbs_zero]
  rw [show (9223372036854775807 : Nat) % 1000000000 = 854775807 from by omega, show (9223372036854775807 : Nat) / 1000000000 % 1000000000 = 223372036 from by omega, show (9223372036854775807 : Nat) / 1000000000 / 1000000000 % 1000000000 = 9 from by omega]
  rfl
def fInt (xs : List Int) : Int × Bool := if natB xs = true ∧ nv xs ≤ maxN then ((nv xs : Int), true) else (0, false)
theorem fInt_yes {n : Nat} (h : natB (limbs n) = true) (h2 : n ≤ maxN) : fInt (limbs n) = ((n : Int), true) := by
  unfold fInt; rw [nv_limbs, if_pos ⟨h, h2⟩]
theorem fInt_no1 {xs : List Int} (h : natB xs = false) : fInt xs = (0, false) := by unfold fInt; rw [h]; simp
theorem fInt_no2 {n : Nat} (h2 : maxN < n) : fInt (limbs n) = (0, false) := by
  unfold fInt; rw [nv_limbs, if_neg (by omega)]
theorem val_drop_le (n k : Nat) : 0 ≤ val ((limbs n).drop k) ∧ val ((limbs n).drop k) ≤ n := by
  have h0 := val_nonneg (okL_drop (limbs_ok n) k)
  refine ⟨h0, ?_⟩
  by_cases h : k ≤ (limbs n).length
  · have h1 := val_split (limbs n) k h
    rw [val_limbs] at h1
    have h2 := val_nonneg (okL_take (limbs_ok n) k)
    have h3 : 1 * val ((limbs n).drop k) ≤ 1000000000 ^ k * val ((limbs n).drop k) := Int.mul_le_mul_of_nonneg_right (by have := pow_pos' k; omega) h0
    omega
  · rw [List.drop_of_length_le (by omega)]; simp [val]
theorem val_drop_step {xs : List Int} {k : Nat} (hk : k < xs.length) : val (xs.drop k) = val (xs.drop (k + 1)) * 1000000000 + xs.getD k 0 := by
  rw [drop_cons_getD xs k hk]
  show xs.getD k 0 + 1000000000 * _ = _
  omega
theorem cmp_pos {m n : Nat} (h : n < m) : 0 < cmpN m n := by rw [cmpN_gt h]; omega
theorem cmp_npos {m n : Nat} (h : ¬ n < m) : ¬ 0 < cmpN m n := by
  unfold cmpN; split
  · omega
  · split <;> omega
theorem Own.lit (w : World) (B : Nat) (x y z : Int) (hB : B ≤ w.heap.size) : Own (w.alloc (.cells #[.int .i64 x, .int .i64 y, .int .i64 z] 3)) B (some ⟨w.heap.size, 0, none⟩) 3 [x, y, z] :=
  World.ownsRow_lit w #[.int .i64 x, .int .i64 y, .int .i64 z] 3 hB (by unfold maxLen; omega) rfl
def IntInv (n : Nat) (i t : Value) : Prop :=
  (i = .int .i64 (-1) ∧ t = .int .i64 (val ((limbs n).drop 0))) ∨ ∃ k : Nat, k < (limbs n).length ∧ i = .int .i64 k ∧ t = .int .i64 (val ((limbs n).drop (k + 1)))
theorem IntInv.start (n : Nat) : IntInv n (.int .i64 ((limbs n).length - 1)) (.int .i64 0) := by
  by_cases h0 : (limbs n).length = 0
  · left
    rw [List.eq_nil_of_length_eq_zero h0]
    exact ⟨rfl, rfl⟩
  · right
    refine ⟨(limbs n).length - 1, by omega, by go_num, ?_⟩
    rw [List.drop_of_length_le (by omega)]; rfl

set_option maxRecDepth 100000 in
set_option maxHeartbeats 800000 in
theorem impl_NatInt (a : Option Addr) (ca : Nat) (xs : List Int) (w : World) (hx : In w a ca xs) :
    Calls Tryd.prog 75 #[.slice a xs.length ca] w fun e w' => e = .returned (.tuple #[.int .i64 (fInt xs).1, .bool (fInt xs).2]) ∧ Below w.heap.size w w' := by
  cases h1 : natB xs
  · have HF := Lib.hid (fInt_no1 h1)
    go_enter Tryd.func75, Tryd.ntmps75
    go_wp2_with fail
    refine (impl_NatOk _ _ _ _ hx.1 hx.maxLen).mono ?_
    rintro e w' ⟨rfl, rfl⟩
    go_wp2
    go_ret2
    refine ⟨?_, Below.refl _ _⟩
    rw [HF.out]; rfl
  · obtain ⟨n, rfl, hn⟩ := natB_elim h1
    by_cases hle : n ≤ maxN
    · have HF := Lib.hid (fInt_yes h1 hle)
      have hc := cmp_npos (m := n) (n := maxN) (by omega)
      have HN := Lib.hid hle
      clear hle
      have hb0 := Below.refl w.heap.size w
      have hr : Rng 9223372036854775807 := by unfold Rng; omega
      have hM := Lib.hid (show (9223372036854775807 : Int).toNat = maxN from rfl)
      go_enter Tryd.func75, Tryd.ntmps75
      go_wp2_with fail
      refine (impl_NatOk _ _ _ _ hx.1 hx.maxLen).mono ?_
      rintro e w' ⟨rfl, rfl⟩
      go_wp2_with fail
      refine (impl_NatOf _ _ hr).mono ?_
      rw [hM.out]
      rintro e w1 ⟨⟨a1, c1, rfl, ho1, hn1⟩, hb1⟩
      go_wp2_with fail
      refine (natCmp_any _ _ _ _ _ _ _ (hx.below hb1 (Nat.le_refl _)).1 ho1.rd hx.2.2 (by omega)).mono ?_
      rintro e w2 ⟨rfl, q, rfl⟩
      replace hb0 := bel_drewN hb1 q
      have hx3 : Rd (w1.drewN q) a (limbs n) := (hx.below hb1 (Nat.le_refl _)).1
      clear ho1 hb1
      go_wp2
      go_loop [4, 5] (fun t i => IntInv n i t) (fun _ i => (intOf i + 1).toNat)
      case atStart => exact IntInv.start n
      case round =>
        rcases hrel with ⟨rfl, rfl⟩ | ⟨k, hk, rfl, rfl⟩
        · have H := Lib.hid (show val ((limbs n).drop 0) = n by rw [List.drop_zero, val_limbs])
          go_wp2
          go_ret2
          refine ⟨?_, hb0⟩
          rw [HF.out, ← H.out]; rfl
        · obtain ⟨bx, ox, x, rfl, hbx, h1, hx1⟩ := hx3.at k hk
          have gx := okL_get (limbs_ok n) k
          rw [hx1.out] at gx
          obtain ⟨gx0, gx1⟩ := gx
          obtain ⟨hd0, hd1⟩ := val_drop_le n (k + 1)
          obtain ⟨hd2, hd3⟩ := val_drop_le n k
          have hs := val_drop_step hk
          rw [hx1.out] at hs
          have hle : val ((limbs n).drop (k + 1)) * 1000000000 + x ≤ 9223372036854775807 := by have := HN.out; unfold maxN at this; omega
          have HS := Lib.hid hs
          clear hs hd2 hd3
          obtain ⟨D, hD⟩ : ∃ D, D = val ((limbs n).drop (k + 1)) := ⟨_, rfl⟩
          rw [← hD] at hd0 hd1 hle
          have HD := Lib.hid hD
          rw [← hD]
          clear hD
          go_wp2
          go_round
          case rel =>
            have e : D * 1000000000 + x = val ((limbs n).drop k) := by rw [HS.out, HD.out]
            cases k with
            | zero => left; exact ⟨rfl, congrArg _ e⟩
            | succ k => right; exact ⟨k, by omega, by go_num, congrArg _ e⟩
          case measure => simp [intOf]; try omega
    · have HF := Lib.hid (fInt_no2 (show maxN < n by omega))
      have hc := cmp_pos (m := n) (n := maxN) (by omega)
      clear hle
      have hb0 := Below.refl w.heap.size w
      have hr : Rng 9223372036854775807 := by unfold Rng; omega
      have hM := Lib.hid (show (9223372036854775807 : Int).toNat = maxN from rfl)
      go_enter Tryd.func75, Tryd.ntmps75
      go_wp2_with fail
      refine (impl_NatOk _ _ _ _ hx.1 hx.maxLen).mono ?_
      rintro e w' ⟨rfl, rfl⟩
      go_wp2_with fail
      refine (impl_NatOf _ _ hr).mono ?_
      rw [hM.out]
      rintro e w1 ⟨⟨a1, c1, rfl, ho1, hn1⟩, hb1⟩
      go_wp2_with fail
      refine (natCmp_any _ _ _ _ _ _ _ (hx.below hb1 (Nat.le_refl _)).1 ho1.rd hx.2.2 (by omega)).mono ?_
      rintro e w2 ⟨rfl, q, rfl⟩
      replace hb0 := bel_drewN hb1 q
      have hx3 : Rd (w1.drewN q) a (limbs n) := (hx.below hb1 (Nat.le_refl _)).1
      clear ho1 hb1
      go_wp2
      go_ret2
      refine ⟨?_, hb0⟩
      rw [HF.out]; rfl
end Go.Proofs.YtogkonenejfgmaaDoor
