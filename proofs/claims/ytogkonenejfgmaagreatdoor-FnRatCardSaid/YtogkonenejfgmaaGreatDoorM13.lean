/- The walks of the exported functions of one or two integers (IntNeg, IntAbs, IntMul, IntAdd). Printed by gen_if.py. The walks of natOf, NatOf (program and reference): the limbs of a number. For every number of the type. The walks of NatInt (reference and program): the value of a nat as an int. For every slice within the reach. -/
import Derived.Test.YtogkonenejfgmaaGreatDoorM12
import Derived.Test.YtogkonenejfgmaaGreatDoorM01
import Derived.Test.YtogkonenejfgmaaGreatDoorM02
import Derived.Test.YtogkonenejfgmaaGreatDoorM03
import Derived.Test.YtogkonenejfgmaaGreatDoorM07
namespace Go.Proofs.YtogkonenejfgmaaGreatDoor
open Go.RowKit
theorem zOf_and (b : Bool) (n : Nat) : zOf (b && decide (0 < (limbs n).length)) n = zOf b n := by
  rw [limbs_len0]
  by_cases h : n = 0
  · subst h; cases b <;> rfl
  · simp [h]
theorem intMul_z (b1 b2 : Bool) (a b : Option Addr) (ca cb m n : Nat) (w : World) (hx : In w a ca (limbs m)) (hy : In w b cb (limbs n)) (lm : (limbs m).length ≤ 1000) (ln : (limbs n).length ≤ 1000) :
    Calls Tryz.prog 21 #[.agg #[.bool b1, .slice a (limbs m).length ca], .agg #[.bool b2, .slice b (limbs n).length cb]] w fun e w' => (∃ s k a' c', zOf b1 m * zOf b2 n = zOf s k ∧ (s = true → k ≠ 0) ∧ (limbs k).length ≤ 2001 ∧ e = .returned (.agg #[.bool s, .slice a' (limbs k).length c']) ∧ Own w' w.heap.size a' c' (limbs k)) ∧ Below w.heap.size w w' := by
  refine (intMul_any b1 b2 a b ca cb m n w hx hy lm ln).mono ?_
  rintro e w' ⟨⟨a', c', rfl, ho⟩, hb⟩
  obtain ⟨s, k, hz, hs, hk⟩ := sg_of (zOf b1 m * zOf b2 n)
  rw [hs] at ho ⊢
  refine ⟨⟨s, k, a', c', hz, hk, ?_, rfl, ho⟩, hb⟩
  have e := congrArg Int.natAbs hz
  rw [zOf_abs] at e
  rw [← e]
  rw [Int.natAbs_mul, zOf_abs, zOf_abs]
  have := len_mul m n
  omega
theorem intAdd_z (b1 b2 : Bool) (a b : Option Addr) (ca cb m n : Nat) (w : World) (hx : In w a ca (limbs m)) (hy : In w b cb (limbs n)) (lm : (limbs m).length ≤ 1000) (ln : (limbs n).length ≤ 1000) :
    Calls Tryz.prog 19 #[.agg #[.bool b1, .slice a (limbs m).length ca], .agg #[.bool b2, .slice b (limbs n).length cb]] w fun e w' => (∃ s k a' c', zOf b1 m + zOf b2 n = zOf s k ∧ (s = true → k ≠ 0) ∧ (limbs k).length ≤ 2001 ∧ e = .returned (.agg #[.bool s, .slice a' (limbs k).length c']) ∧ Own w' w.heap.size a' c' (limbs k)) ∧ Below w.heap.size w w' := by
  refine (intAdd_any b1 b2 a b ca cb m n w hx hy lm ln).mono ?_
  rintro e w' ⟨⟨a', c', rfl, ho⟩, hb⟩
  obtain ⟨s, k, hz, hs, hk⟩ := sg_of (zOf b1 m + zOf b2 n)
  rw [hs] at ho ⊢
  refine ⟨⟨s, k, a', c', hz, hk, ?_, rfl, ho⟩, hb⟩
  have e := congrArg Int.natAbs hz
  rw [zOf_abs] at e
  rw [← e]
  have h1 : (zOf b1 m + zOf b2 n).natAbs ≤ m + n := by have h2 := zOf_abs b1 m; have h3 := zOf_abs b2 n; omega
  have h4 := limbs_len_mono h1
  have := len_add m n
  omega
end Go.Proofs.YtogkonenejfgmaaGreatDoor
namespace Go.Proofs.YtogkonenejfgmaaGreatDoor
open Go.RowKit
theorem limbs_next {n r : Nat} {zs : List Int} (h : limbs n = zs ++ limbs r) (hr : 0 < r) : limbs n = (zs ++ [(r : Int) % 1000000000]) ++ limbs (r / 1000000000) := by
  rw [h, limbs_pos (by omega)]; simp
theorem limbs_small {n : Nat} (h : n < 18446744073709551616) : (limbs n).length ≤ 3 := limbs_len_le.2 (by omega)

set_option maxHeartbeats 400000 in
theorem natOf_any (n : Nat) (w : World) (hn : n < 18446744073709551616) :
    Calls Tryz.prog 71 #[.int .u64 n] w fun e w' => (∃ a c, e = .returned (.slice a (limbs n).length c) ∧ Own w' w.heap.size a c (limbs n)) ∧ Below w.heap.size w w' := by
  have hl := limbs_small hn
  have Hn := Lib.hid hn; clear hn
  have ho := Lib.hid (Own.empty w w.heap.size (Nat.le_refl _))
  have hb := (Below.refl w.heap.size w).alloc (Nat.le_refl _) (.cells #[] 3)
  go_enter Tryz.func71, Tryz.ntmps71
  go_wp2
  go_loopw [0, 3] (fun x v wr => ∃ (r : Nat) (zs : List Int) (a : Option Addr) (c : Nat), r ≤ n ∧ x = .int .u64 r ∧ v = .slice a zs.length c ∧ limbs n = zs ++ limbs r ∧ Own wr w.heap.size a c zs ∧ Below w.heap.size w wr) (fun x _ _ => (intOf x).toNat)
  case atStart => exact ⟨n, [], _, _, Nat.le_refl _, rfl, rfl, rfl, ho.out, hb⟩
  case round =>
    obtain ⟨r, zs, a, c, hrn, rfl, rfl, he, hown, hb⟩ := hrel
    have hsz := hb.size
    have hzl : zs.length ≤ 3 := by have := congrArg List.length he; rw [List.length_append] at this; omega
    have H := Lib.hid he; clear he
    have hr64 : r < 18446744073709551616 := by have := Hn.out; omega
    have hq64 : r / 1000000000 < 18446744074 := by omega
    have HR := Lib.hid hr64; clear hr64
    by_cases h0 : 0 < r
    · have hm : r % 1000000000 < 1000000000 := by omega
      go_wp2_with (at_builtin; refine app1 _ rfl _ _ rfl w.heap.size a c zs _ rfl rfl hown (by omega) hsz ?_)
      intro a' c' w' ho' hb'
      have hb2 := hb.trans hb'
      clear hb' hown
      go_wp2
      go_roundw
      case rel => exact ⟨r / 1000000000, zs ++ [(r : Int) % 1000000000], a', c', by omega, by go_num, by simp, limbs_next H.out h0, ho', hb2⟩
      case measure => simp [intOf]; omega
    · have e : r = 0 := by omega
      subst e
      have e2 : zs = limbs n := by rw [H.out, limbs_zero, List.append_nil]
      subst e2
      go_wp2
      go_ret
      exact ⟨⟨a, c, rfl, hown⟩, hb⟩

set_option maxHeartbeats 400000 in
theorem spec_NatOf (z : Int) (w : World) (hr : Rng z) :
    Calls Tryz.prog 34 #[.int .i64 z] w fun e w' => (∃ a c, e = .returned (.slice a (limbs z.toNat).length c) ∧ Own w' w.heap.size a c (limbs z.toNat) ∧ (limbs z.toNat).length ≤ 50) ∧ Below w.heap.size w w' := by
  have hn : z < 9223372036854775808 := by have := hr.2; omega
  have hl : (limbs z.toNat).length ≤ 3 := limbs_small (by omega)
  have Hn := Lib.hid hn; clear hn
  have ho := Lib.hid (Own.empty w w.heap.size (Nat.le_refl _))
  have hb := (Below.refl w.heap.size w).alloc (Nat.le_refl _) (.cells #[] 3)
  go_enter Tryz.func34, Tryz.ntmps34
  go_wp2
  go_loopw [0, 3] (fun x v wr => ∃ (r : Int) (zs : List Int) (a : Option Addr) (c : Nat), r ≤ z ∧ x = .int .i64 r ∧ v = .slice a zs.length c ∧ limbs z.toNat = zs ++ limbs r.toNat ∧ Own wr w.heap.size a c zs ∧ Below w.heap.size w wr) (fun x _ _ => (intOf x).toNat)
  case atStart => exact ⟨z, [], _, _, Int.le_refl _, rfl, rfl, rfl, ho.out, hb⟩
  case round =>
    obtain ⟨r, zs, a, c, hrn, rfl, rfl, he, hown, hb⟩ := hrel
    have hsz := hb.size
    have hzl : zs.length ≤ 3 := by have := congrArg List.length he; rw [List.length_append] at this; omega
    have H := Lib.hid he; clear he
    have hr64 : r < 9223372036854775808 := by have := Hn.out; omega
    have hq64 : r / 1000000000 < 18446744074 := by omega
    have HR := Lib.hid hr64; clear hr64
    by_cases h0 : 0 < r
    · obtain ⟨r, rfl⟩ := Int.eq_ofNat_of_zero_le (show 0 ≤ r by omega)
      have h0' : 0 < r := by omega
      have hm : r % 1000000000 < 1000000000 := by omega
      go_wp2_with (at_builtin; refine app1 _ rfl _ _ rfl w.heap.size a c zs _ rfl rfl hown (by omega) hsz ?_)
      intro a' c' w' ho' hb'
      have hb2 := hb.trans hb'
      clear hb' hown
      go_wp2
      go_roundw
      case rel => exact ⟨(r / 1000000000 : Nat), zs ++ [(r : Int) % 1000000000], a', c', by omega, by go_num, by simp, limbs_next H.out h0', ho', hb2⟩
      case measure => simp [intOf]; omega
    · have e : r.toNat = 0 := by omega
      have e2 : zs = limbs z.toNat := by rw [H.out, e, limbs_zero, List.append_nil]
      have hl2 := Lib.hid e2
      clear e e2
      go_wp2
      go_ret
      refine ⟨⟨a, c, ?_, by rw [← hl2.out]; exact hown, by omega⟩, hb⟩
      rw [← hl2.out]; rfl

theorem impl_NatOf (z : Int) (w : World) (hr : Rng z) :
    Calls Tryz.prog 61 #[.int .i64 z] w fun e w' => (∃ a c, e = .returned (.slice a (limbs z.toNat).length c) ∧ Own w' w.heap.size a c (limbs z.toNat) ∧ (limbs z.toNat).length ≤ 50) ∧ Below w.heap.size w w' := by
  have hn : z < 9223372036854775808 := by have := hr.2; omega
  by_cases h : z < 0
  · have e : z.toNat = 0 := by omega
    have H := Lib.hid e; clear e
    have Hn := Lib.hid hn; clear hn
    go_enter Tryz.func61, Tryz.ntmps61
    go_wp2
    go_ret
    rw [H.out]
    exact ⟨⟨none, 0, rfl, Own.nil _ _, Nat.zero_le _⟩, Below.refl _ _⟩
  · obtain ⟨r, rfl⟩ := Int.eq_ofNat_of_zero_le (show 0 ≤ z by omega)
    have hrb : (r : Int) ≤ 9223372036854775807 := by omega
    have hr2 : r < 18446744073709551616 := by omega
    have hl3 := limbs_small hr2
    have H2 := Lib.hid hr2; clear hr2 hn
    go_enter Tryz.func61, Tryz.ntmps61
    go_wp2_with fail
    refine (natOf_any r _ H2.out).mono ?_
    rintro e w' ⟨⟨a, c, rfl, ho⟩, hb⟩
    go_wp2
    go_ret
    exact ⟨⟨a, c, rfl, ho, Nat.le_trans hl3 (by omega)⟩, hb⟩
end Go.Proofs.YtogkonenejfgmaaGreatDoor
namespace Go.Proofs.YtogkonenejfgmaaGreatDoor
open Go.RowKit
def maxN : Nat := 9223372036854775807
theorem maxN_limbs : limbs maxN = [854775807, 223372036, 9] := by
  unfold maxN
  rw [limbs_pos (by omega), limbs_pos (by omega), limbs_pos (by omega)]
  rw [show (9223372036854775807 : Nat) / 1000000000 / 1000000000 / 1000000000 = 0 from by omega, limbs_zero]
  rw [show (9223372036854775807 : Nat) % 1000000000 = 854775807 from by omega, show (9223372036854775807 : Nat) / 1000000000 % 1000000000 = 223372036 from by omega, show (9223372036854775807 : Nat) / 1000000000 / 1000000000 % 1000000000 = 9 from by omega]
  rfl
def fInt (xs : List Int) : Int × Bool := if natB xs = true ∧ nv xs ≤ maxN then ((nv xs : Int), true) else (0, false)
theorem fInt_yes {n : Nat} (h : natB (limbs n) = true) (h2 : n ≤ maxN) : fInt (limbs n) = ((n : Int), true) := by
  unfold fInt; rw [nv_limbs, if_pos ⟨h, h2⟩]
theorem fInt_no1 {xs : List Int} (h : natB xs = false) : fInt xs = (0, false) := by unfold fInt; rw [h]; simp
theorem fInt_no2 {n : Nat} (h2 : maxN < n) : fInt (limbs n) = (0, false) := by
  unfold fInt; rw [nv_limbs, if_neg (by omega)]
theorem val_drop_le (n k : Nat) : 0 ≤ val ((limbs n).drop k) ∧ val ((limbs n).drop k) ≤ n := by
  have h0 := val_nonneg (okL_drop (limbs_ok n) k)
  refine ⟨h0, ?_⟩
  by_cases h : k ≤ (limbs n).length
  · have h1 := val_split (limbs n) k h
    rw [val_limbs] at h1
    have h2 := val_nonneg (okL_take (limbs_ok n) k)
    have h3 : 1 * val ((limbs n).drop k) ≤ 1000000000 ^ k * val ((limbs n).drop k) := Int.mul_le_mul_of_nonneg_right (by have := pow_pos' k; omega) h0
    omega
  · rw [List.drop_of_length_le (by omega)]; simp [val]
theorem val_drop_step {xs : List Int} {k : Nat} (hk : k < xs.length) : val (xs.drop k) = val (xs.drop (k + 1)) * 1000000000 + xs.getD k 0 := by
  rw [drop_cons_getD xs k hk]
  show xs.getD k 0 + 1000000000 * _ = _
  omega
theorem cmp_pos {m n : Nat} (h : n < m) : 0 < cmpN m n := by rw [cmpN_gt h]; omega
theorem cmp_npos {m n : Nat} (h : ¬ n < m) : ¬ 0 < cmpN m n := by
  unfold cmpN; split
  · omega
  · split <;> omega
theorem Own.lit (w : World) (B : Nat) (x y z : Int) (hB : B ≤ w.heap.size) : Own (w.alloc (.cells #[.int .i64 x, .int .i64 y, .int .i64 z] 3)) B (some ⟨w.heap.size, 0, none⟩) 3 [x, y, z] :=
  World.ownsRow_lit w #[.int .i64 x, .int .i64 y, .int .i64 z] 3 hB (by unfold maxLen; omega) rfl
def IntInv (n : Nat) (i t : Value) : Prop :=
  (i = .int .i64 (-1) ∧ t = .int .i64 (val ((limbs n).drop 0))) ∨ ∃ k : Nat, k < (limbs n).length ∧ i = .int .i64 k ∧ t = .int .i64 (val ((limbs n).drop (k + 1)))
theorem IntInv.start (n : Nat) : IntInv n (.int .i64 ((limbs n).length - 1)) (.int .i64 0) := by
  by_cases h0 : (limbs n).length = 0
  · left
    rw [List.eq_nil_of_length_eq_zero h0]
    exact ⟨rfl, rfl⟩
  · right
    refine ⟨(limbs n).length - 1, by omega, by go_num, ?_⟩
    rw [List.drop_of_length_le (by omega)]; rfl

end Go.Proofs.YtogkonenejfgmaaGreatDoor
