/- The walks of NatTen (reference), natTen and NatTen (program): a power of ten. For every number. -/
import Derived.Test.YtogkonenejfgmaaDoorMem
import Derived.Test.YtogkonenejfgmaaDoorNat
import Derived.Test.YtogkonenejfgmaaDoorStr
import Derived.Test.YtogkonenejfgmaaDoorWIn
namespace Go.Proofs.YtogkonenejfgmaaDoor
open Go.RowKit
theorem ten_limbs (k : Nat) : List.replicate (k / 9) 0 ++ [((10 ^ (k % 9) : Nat) : Int)] = limbs (10 ^ k) := by
  have h9 : (10 : Nat) ^ 9 = 1000000000 := rfl
  have e : (10 : Nat) ^ k = 1000000000 ^ (k / 9) * 10 ^ (k % 9) := by
    rw [← h9, ← Nat.pow_mul, ← Nat.pow_add, Nat.div_add_mod]
  have h1 : (10 : Nat) ^ (k % 9) ≤ 10 ^ 8 := Nat.pow_le_pow_right (by omega) (by omega)
  have h2 : 0 < (10 : Nat) ^ (k % 9) := Nat.pow_pos (by omega)
  have h3 : (10 : Nat) ^ 8 = 100000000 := rfl
  refine limbs_of_len ?_ ?_ ?_
  · refine okL_snoc (okL_replicate _) ⟨by omega, by omega⟩
  · rw [val_snoc, val_replicate, List.length_replicate, e, ← pow_cast]; simp
  · right
    rw [List.length_append, List.length_replicate, e]
    show 1000000000 ^ (k / 9 + 1 - 1) ≤ _
    rw [Nat.add_sub_cancel]
    exact Nat.le_mul_of_pos_right _ h2
theorem ten_small {i : Nat} (h : i ≤ 8) : 1 ≤ (10 : Nat) ^ i ∧ (10 : Nat) ^ i ≤ 100000000 := by
  have h1 : (10 : Nat) ^ i ≤ 10 ^ 8 := Nat.pow_le_pow_right (by omega) h
  have h2 : 0 < (10 : Nat) ^ i := Nat.pow_pos (by omega)
  have h3 : (10 : Nat) ^ 8 = 100000000 := rfl
  omega
theorem ten_len {k : Nat} (h : k ≤ 449) : (limbs (10 ^ k)).length ≤ 50 := by
  rw [← ten_limbs]; simp; omega
theorem ten_next (i : Nat) : (((10 ^ i : Nat) : Int) * 10) = ((10 ^ (i + 1) : Nat) : Int) := by rw [Nat.pow_succ]; simp

set_option maxHeartbeats 800000 in
theorem natTen_any (k : Nat) (w : World) (hk : k ≤ 1099511627776) :
    Calls Tryd.prog 58 #[.int .i64 k] w fun e w' => (∃ a c, e = .returned (.slice a (limbs (10 ^ k)).length c) ∧ Own w' w.heap.size a c (limbs (10 ^ k))) ∧ Below w.heap.size w w' := by
  have HT := Lib.hid (ten_limbs k)
  go_enter Tryd.func58, Tryd.ntmps58
  go_wp2_with (at_make; refine makeLC _ rfl _ _ rfl w.heap.size (k / 9) (k / 9 + 1) _ _ rfl rfl (by omega) (by omega) (by omega) (by omega) (Nat.le_refl _) ?_)
  intro w1 hown hb
  have HO := Lib.hid hown; clear hown
  go_wp2
  go_loop [4, 13] (fun t i => ∃ j T : Nat, j ≤ k % 9 ∧ i = .int .i64 j ∧ t = .int .i64 T ∧ T = 10 ^ j ∧ 1 ≤ T ∧ T ≤ 100000000) (fun _ i => k % 9 - (intOf i).toNat)
  case atStart => exact ⟨0, 1, Nat.zero_le _, rfl, rfl, rfl, by omega, by omega⟩
  case round =>
    obtain ⟨j, T, hj, rfl, rfl, hT, hT1, hT2⟩ := hrel
    have H1 := Lib.hid hT; clear hT
    by_cases hlt : j < k % 9
    · have hn := ten_small (i := j + 1) (by omega)
      have hnx := Lib.hid (ten_next j)
      go_wp2
      go_round
      case rel => exact ⟨j + 1, 10 ^ (j + 1), by omega, by go_num, by rw [← hnx.out, H1.out], rfl, hn.1, hn.2⟩
      case measure => simp [intOf]; omega
    · have e : j = k % 9 := by omega
      have e2 : List.replicate (k / 9) 0 ++ [(T : Int)] = limbs (10 ^ k) := by rw [H1.out, e]; exact HT.out
      have E2 := Lib.hid e2
      clear e e2
      have hl : (List.replicate (k / 9) (0 : Int)).length = k / 9 := List.length_replicate
      have HL := Lib.hid hl; clear hl
      have hl2 := Lib.hid (show k / 9 + 1 = (limbs (10 ^ k)).length by rw [← E2.out, List.length_append, HL.out]; rfl)
      have ho := HO.out
      have hsz := hb.size
      go_wp2_with (at_builtin; refine app1 _ rfl _ _ rfl w.heap.size (some ⟨w.heap.size, 0, none⟩) (k / 9 + 1) (List.replicate (k / 9) 0) _ (by rw [HL.out]; rfl) rfl ho (by rw [HL.out]; omega) hsz ?_)
      intro a2 c2 w2 ho2 hb2
      have hb3 := hb.trans hb2
      rw [E2.out] at ho2
      clear hb2 ho
      go_wp2
      go_ret
      exact ⟨⟨a2, c2, ret_eq (congrArg (fun t => Value.slice a2 t c2) hl2.out), ho2⟩, hb3⟩
def fTen (z : Int) : List Int := if 0 ≤ z ∧ z ≤ 449 then limbs (10 ^ z.toNat) else []
theorem fTen_yes {k : Nat} (h : k ≤ 449) : fTen k = limbs (10 ^ k) := by unfold fTen; rw [if_pos (by omega)]; rfl
theorem fTen_no {z : Int} (h : ¬ (0 ≤ z ∧ z ≤ 449)) : fTen z = [] := if_neg h
theorem impl_NatTen (z : Int) (w : World) (_hr : Rng z) :
    Calls Tryd.prog 28 #[.int .i64 z] w fun e w' => (∃ a c, e = .returned (.slice a (fTen z).length c) ∧ Own w' w.heap.size a c (fTen z) ∧ (fTen z).length ≤ 50) ∧ Below w.heap.size w w' := by
  by_cases h : 0 ≤ z ∧ z ≤ 449
  · obtain ⟨k, rfl⟩ := Int.eq_ofNat_of_zero_le h.1
    have hk : k ≤ 449 := by omega
    rw [fTen_yes hk]
    clear h
    go_enter Tryd.func28, Tryd.ntmps28
    go_wp2_with fail
    refine (natTen_any k _ (by omega)).mono ?_
    rintro e w0 ⟨⟨a, c, rfl, ho⟩, hb⟩
    go_wp2
    go_ret
    exact ⟨⟨a, c, rfl, ho, ten_len (by omega)⟩, hb⟩
  · have H := Lib.hid (fTen_no h)
    by_cases h0 : z < 0
    · clear h
      go_enter Tryd.func28, Tryd.ntmps28
      go_wp2
      go_ret
      rw [H.out]
      exact ⟨⟨none, 0, rfl, Own.nil _ _, Nat.zero_le _⟩, Below.refl _ _⟩
    · have h1 : 450 ≤ z := by omega
      clear h
      go_enter Tryd.func28, Tryd.ntmps28
      go_wp2
      go_ret
      rw [H.out]
      exact ⟨⟨none, 0, rfl, Own.nil _ _, Nat.zero_le _⟩, Below.refl _ _⟩
end Go.Proofs.YtogkonenejfgmaaDoor
