/- The walks of natOf, NatOf (program and reference): the limbs of a number. For every number of the type. -/
import Derived.Test.YtcibccaimjifmaaMem
import Derived.Test.YtcibccaimjifmaaNat
import Derived.Test.YtcibccaimjifmaaStr
namespace Go.Proofs.Ytcibccaimjifmaa
open Go.RowKit
theorem limbs_next {n r : Nat} {zs : List Int} (h : limbs n = zs ++ limbs r) (hr : 0 < r) : limbs n = (zs ++ [(r : Int) % 1000000000]) ++ limbs (r / 1000000000) := by
  rw [h, limbs_pos (by omega)]; simp
theorem limbs_small {n : Nat} (h : n < 18446744073709551616) : (limbs n).length ≤ 3 := limbs_len_le.2 (by omega)

set_option maxHeartbeats 400000 in
theorem natOf_any (n : Nat) (w : World) (hn : n < 18446744073709551616) :
    Calls Try.prog 42 #[.int .u64 n] w fun e w' => (∃ a c, e = .returned (.slice a (limbs n).length c) ∧ Own w' w.heap.size a c (limbs n)) ∧ Below w.heap.size w w' := by
  have hl := limbs_small hn
  have Hn := Lib.hid hn; clear hn
  have ho := Lib.hid (Own.empty w w.heap.size (Nat.le_refl _))
  have hb := (Below.refl w.heap.size w).alloc (Nat.le_refl _) (.cells #[] 3)
  go_enter Try.func42, Try.ntmps42
  go_wp2
  go_loopw [0, 3] (fun x v wr => ∃ (r : Nat) (zs : List Int) (a : Option Addr) (c : Nat), r ≤ n ∧ x = .int .u64 r ∧ v = .slice a zs.length c ∧ limbs n = zs ++ limbs r ∧ Own wr w.heap.size a c zs ∧ Below w.heap.size w wr) (fun x _ _ => (intOf x).toNat)
  case atStart => exact ⟨n, [], _, _, Nat.le_refl _, rfl, rfl, rfl, ho.out, hb⟩
  case round =>
    obtain ⟨r, zs, a, c, hrn, rfl, rfl, he, hown, hb⟩ := hrel
    have hsz := hb.size
    have hzl : zs.length ≤ 3 := by have := congrArg List.length he; rw [List.length_append] at this; omega
    have H := Lib.hid he; clear he
    have hr64 : r < 18446744073709551616 := by have := Hn.out; omega
    have hq64 : r / 1000000000 < 18446744074 := by omega
    have HR := Lib.hid hr64; clear hr64
    by_cases h0 : 0 < r
    · have hm : r % 1000000000 < 1000000000 := by omega
      go_wp2_with (at_builtin; refine app1 _ rfl _ _ rfl w.heap.size a c zs _ rfl rfl hown (by omega) hsz ?_)
      intro a' c' w' ho' hb'
      have hb2 := hb.trans hb'
      clear hb' hown
      go_wp2
      go_roundw
      case rel => exact ⟨r / 1000000000, zs ++ [(r : Int) % 1000000000], a', c', by omega, by go_num, by simp, limbs_next H.out h0, ho', hb2⟩
      case measure => simp [intOf]; omega
    · have e : r = 0 := by omega
      subst e
      have e2 : zs = limbs n := by rw [H.out, limbs_zero, List.append_nil]
      subst e2
      go_wp2
      go_ret
      exact ⟨⟨a, c, rfl, hown⟩, hb⟩

set_option maxHeartbeats 400000 in
theorem spec_NatOf (z : Int) (w : World) (hr : Rng z) :
    Calls Try.prog 73 #[.int .i64 z] w fun e w' => (∃ a c, e = .returned (.slice a (limbs z.toNat).length c) ∧ Own w' w.heap.size a c (limbs z.toNat) ∧ (limbs z.toNat).length ≤ 50) ∧ Below w.heap.size w w' := by
  have hn : z < 9223372036854775808 := by have := hr.2; omega
  have hl : (limbs z.toNat).length ≤ 3 := limbs_small (by omega)
  have Hn := Lib.hid hn; clear hn
  have ho := Lib.hid (Own.empty w w.heap.size (Nat.le_refl _))
  have hb := (Below.refl w.heap.size w).alloc (Nat.le_refl _) (.cells #[] 3)
  go_enter Try.func73, Try.ntmps73
  go_wp2
  go_loopw [0, 3] (fun x v wr => ∃ (r : Int) (zs : List Int) (a : Option Addr) (c : Nat), r ≤ z ∧ x = .int .i64 r ∧ v = .slice a zs.length c ∧ limbs z.toNat = zs ++ limbs r.toNat ∧ Own wr w.heap.size a c zs ∧ Below w.heap.size w wr) (fun x _ _ => (intOf x).toNat)
  case atStart => exact ⟨z, [], _, _, Int.le_refl _, rfl, rfl, rfl, ho.out, hb⟩
  case round =>
    obtain ⟨r, zs, a, c, hrn, rfl, rfl, he, hown, hb⟩ := hrel
    have hsz := hb.size
    have hzl : zs.length ≤ 3 := by have := congrArg List.length he; rw [List.length_append] at this; omega
    have H := Lib.hid he; clear he
    have hr64 : r < 9223372036854775808 := by have := Hn.out; omega
    have hq64 : r / 1000000000 < 18446744074 := by omega
    have HR := Lib.hid hr64; clear hr64
    by_cases h0 : 0 < r
    · obtain ⟨r, rfl⟩ := Int.eq_ofNat_of_zero_le (show 0 ≤ r by omega)
      have h0' : 0 < r := by omega
      have hm : r % 1000000000 < 1000000000 := by omega
      go_wp2_with (at_builtin; refine app1 _ rfl _ _ rfl w.heap.size a c zs _ rfl rfl hown (by omega) hsz ?_)
      intro a' c' w' ho' hb'
      have hb2 := hb.trans hb'
      clear hb' hown
      go_wp2
      go_roundw
      case rel => exact ⟨(r / 1000000000 : Nat), zs ++ [(r : Int) % 1000000000], a', c', by omega, by go_num, by simp, limbs_next H.out h0', ho', hb2⟩
      case measure => simp [intOf]; omega
    · have e : r.toNat = 0 := by omega
      have e2 : zs = limbs z.toNat := by rw [H.out, e, limbs_zero, List.append_nil]
      have hl2 := Lib.hid e2
      clear e e2
      go_wp2
      go_ret
      refine ⟨⟨a, c, ?_, by rw [← hl2.out]; exact hown, by omega⟩, hb⟩
      rw [← hl2.out]; rfl

theorem impl_NatOf (z : Int) (w : World) (hr : Rng z) :
    Calls Try.prog 19 #[.int .i64 z] w fun e w' => (∃ a c, e = .returned (.slice a (limbs z.toNat).length c) ∧ Own w' w.heap.size a c (limbs z.toNat) ∧ (limbs z.toNat).length ≤ 50) ∧ Below w.heap.size w w' := by
  have hn : z < 9223372036854775808 := by have := hr.2; omega
  by_cases h : z < 0
  · have e : z.toNat = 0 := by omega
    have H := Lib.hid e; clear e
    have Hn := Lib.hid hn; clear hn
    go_enter Try.func19, Try.ntmps19
    go_wp2
    go_ret
    rw [H.out]
    exact ⟨⟨none, 0, rfl, Own.nil _ _, Nat.zero_le _⟩, Below.refl _ _⟩
  · obtain ⟨r, rfl⟩ := Int.eq_ofNat_of_zero_le (show 0 ≤ z by omega)
    have hrb : (r : Int) ≤ 9223372036854775807 := by omega
    have hr2 : r < 18446744073709551616 := by omega
    have hl3 := limbs_small hr2
    have H2 := Lib.hid hr2; clear hr2 hn
    go_enter Try.func19, Try.ntmps19
    go_wp2_with fail
    refine (natOf_any r _ H2.out).mono ?_
    rintro e w' ⟨⟨a, c, rfl, ho⟩, hb⟩
    go_wp2
    go_ret
    exact ⟨⟨a, c, rfl, ho, Nat.le_trans hl3 (by omega)⟩, hb⟩
end Go.Proofs.Ytcibccaimjifmaa
