/- The walks of NatScale (reference and program): a number times a power of ten. For every slice within the reach and every number. -/
import Derived.Test.YtogkonenejfgmaaDoorWTen
import Derived.Test.YtogkonenejfgmaaDoorWMul
namespace Go.Proofs.YtogkonenejfgmaaDoor
open Go.RowKit
def fScale (xs : List Int) (z : Int) : List Int := if natB xs = true ∧ 0 ≤ z ∧ z ≤ 449 then limbs (capV (nv xs * 10 ^ z.toNat)) else []
theorem natB_ten {k : Nat} (h : k ≤ 449) : natB (limbs (10 ^ k)) = true := natB_of (ten_len h)
theorem capV_zero : capV 0 = 0 := by unfold capV; simp [limbs_zero]
theorem fScale_spec (xs : List Int) (z : Int) (h : 0 ≤ z) : fMul xs (fTen z) = fScale xs z := by
  unfold fScale
  by_cases h2 : z ≤ 449
  · obtain ⟨k, rfl⟩ := Int.eq_ofNat_of_zero_le h
    rw [fTen_yes (by omega)]
    unfold fMul
    rw [natB_ten (by omega), Bool.and_true, nv_limbs]
    by_cases hb : natB xs = true
    · rw [if_pos hb, if_pos ⟨hb, h, h2⟩]; rfl
    · rw [if_neg hb, if_neg (by intro hh; exact hb hh.1)]
  · rw [fTen_no (by omega), if_neg (by omega)]
    unfold fMul
    split
    · show limbs (capV (nv xs * 0)) = []
      rw [Nat.mul_zero, capV_zero]; rfl
    · rfl
theorem fScale_len (xs : List Int) (z : Int) : (fScale xs z).length ≤ 50 := by
  unfold fScale; split
  · exact capV_len _
  · simp
theorem fScale_no {xs : List Int} {z : Int} (h : ¬ (natB xs = true ∧ 0 ≤ z ∧ z ≤ 449)) : fScale xs z = [] := if_neg h
theorem fScale_nil (z : Int) : fScale [] z = [] := by
  unfold fScale; split
  · show limbs (capV (0 * _)) = []
    rw [Nat.zero_mul, capV_zero]; rfl
  · rfl
theorem fScale_yes {n k : Nat} (h : natB (limbs n) = true) (hk : k ≤ 449) : fScale (limbs n) k = limbs (capV (n * 10 ^ k)) := by
  unfold fScale; rw [if_pos ⟨h, by omega, by omega⟩, nv_limbs]; rfl

set_option maxRecDepth 100000 in
theorem impl_NatScale (a : Option Addr) (ca : Nat) (xs : List Int) (z : Int) (w : World) (hx : In w a ca xs) (hz : Rng z) :
    Calls Tryd.prog 27 #[.slice a xs.length ca, .int .i64 z] w fun e w' => (∃ a' c', e = .returned (.slice a' (fScale xs z).length c') ∧ Own w' w.heap.size a' c' (fScale xs z) ∧ (fScale xs z).length ≤ 50) ∧ Below w.heap.size w w' := by
  have HZ := Lib.hid hz; clear hz
  have hlx := hx.2.2
  cases h1 : natB xs
  · have H := Lib.hid (fScale_no (xs := xs) (z := z) (by rw [h1]; simp))
    go_enter Tryd.func27, Tryd.ntmps27
    go_wp2_with fail
    refine (impl_NatOk _ _ _ _ hx.1 hx.maxLen).mono ?_
    rintro e w' ⟨rfl, rfl⟩
    go_wp2
    go_ret
    rw [H.out]
    exact ⟨⟨none, 0, rfl, Own.nil _ _, Nat.zero_le _⟩, Below.refl _ _⟩
  · by_cases h0 : z < 0
    · have H := Lib.hid (fScale_no (xs := xs) (z := z) (by omega))
      go_enter Tryd.func27, Tryd.ntmps27
      go_wp2_with fail
      refine (impl_NatOk _ _ _ _ hx.1 hx.maxLen).mono ?_
      rintro e w' ⟨rfl, rfl⟩
      go_wp2
      go_ret
      rw [H.out]
      exact ⟨⟨none, 0, rfl, Own.nil _ _, Nat.zero_le _⟩, Below.refl _ _⟩
    · by_cases hl : xs.length = 0
      · have e : xs = [] := List.eq_nil_of_length_eq_zero hl
        subst e
        have H := Lib.hid (fScale_nil z)
        clear hl
        go_enter Tryd.func27, Tryd.ntmps27
        go_wp2_with fail
        refine (impl_NatOk _ _ _ _ hx.1 hx.maxLen).mono ?_
        rintro e w' ⟨rfl, rfl⟩
        go_wp2
        go_ret
        rw [H.out]
        exact ⟨⟨none, 0, rfl, Own.nil _ _, Nat.zero_le _⟩, Below.refl _ _⟩
      · have hb0 : ((xs.length : Int) == 0) = false := by rw [beq_eq_false_iff_ne]; omega
        clear hl
        by_cases h2 : 450 ≤ z
        · have H := Lib.hid (fScale_no (xs := xs) (z := z) (by omega))
          go_enter Tryd.func27, Tryd.ntmps27
          go_wp2_with fail
          refine (impl_NatOk _ _ _ _ hx.1 hx.maxLen).mono ?_
          rintro e w' ⟨rfl, rfl⟩
          go_wp2
          go_ret
          rw [H.out]
          exact ⟨⟨none, 0, rfl, Own.nil _ _, Nat.zero_le _⟩, Below.refl _ _⟩
        · obtain ⟨k, rfl⟩ := Int.eq_ofNat_of_zero_le (show 0 ≤ z by omega)
          obtain ⟨n, rfl, hn⟩ := natB_elim h1
          have hk : k ≤ 449 := by omega
          have H := Lib.hid (fScale_yes h1 hk)
          have hl10 := ten_len hk
          have hlm := l02_lenMul hn hl10
          have hml := Lib.hid (show (limbs (n * 10 ^ k)).length ≤ maxLen by unfold maxLen; omega)
          clear hlm
          have hl10 := Lib.hid hl10
          go_enter Tryd.func27, Tryd.ntmps27
          go_wp2_with fail
          refine (impl_NatOk _ _ _ _ hx.1 hx.maxLen).mono ?_
          rintro e w' ⟨rfl, rfl⟩
          go_wp2_with fail
          refine (natTen_any k _ (by omega)).mono ?_
          rintro e w1 ⟨⟨a1, c1, rfl, ho1⟩, hb1⟩
          go_wp2_with fail
          refine (natMul_any _ _ _ _ _ _ _ (hx.below hb1 (Nat.le_refl _)).1 ho1.rd hlx (by have := hl10.out; omega)).mono ?_
          rintro e w2 ⟨⟨a2, c2, rfl, ho2⟩, hb2⟩
          have hb3 := hb1.trans (hb2.mono hb1.size)
          have ho3 := Own.mono ho2 hb1.size
          clear hb2 ho2 ho1
          go_wp2_with fail
          refine (fit_any _ _ _ _ ho3.rd hml.out ho3.le).mono ?_
          rintro e w3 ⟨⟨a3, c3, rfl, hc⟩, rfl⟩
          have ho4 := hc.own ho3
          rw [capL_nat, ← H.out] at ho4
          have HO := Lib.hid ho4; clear ho4
          go_wp2
          go_ret
          rw [capL_nat, ← H.out]
          exact ⟨⟨a3, c3, rfl, HO.out, fScale_len _ _⟩, hb3⟩
end Go.Proofs.YtogkonenejfgmaaDoor
