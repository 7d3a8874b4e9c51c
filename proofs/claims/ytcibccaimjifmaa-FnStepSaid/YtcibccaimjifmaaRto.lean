/- The walk of RoundTo (program): what is rounded to a step is so many steps, off by less than one. For right numbers of at most 18 limbs, steps up to a million, right modes. -/
import Derived.Test.YtcibccaimjifmaaRq
import Derived.Test.YtcibccaimjifmaaWNatOf
import Derived.Test.YtcibccaimjifmaaWMul
import Derived.Test.YtcibccaimjifmaaInt
import Derived.Deep.RegionWith
namespace Go.Proofs.Ytcibccaimjifmaa
open Go.RowKit
set_option linter.unusedVariables false
theorem sgn_mul (neg : Bool) {k n : Nat} (hn : 0 < n) : ((neg && decide (0 < (limbs k).length)) && decide (0 < (limbs (k * n)).length)) = (neg && decide (0 < (limbs (k * n)).length)) := by
  rw [limbs_len0, limbs_len0]
  by_cases h : k = 0
  · subst h; simp
  · have : k * n ≠ 0 := Nat.mul_ne_zero h (by omega)
    simp [h]
set_option maxRecDepth 100000 in
set_option maxHeartbeats 8000000 in
theorem roundTo (neg : Bool) (a : Option Addr) (ca p n : Nat) (m : Int) (w : World) (hx : In w a ca (limbs p)) (lp : (limbs p).length ≤ 18) (hok : intB neg (limbs p) = true) (hn : 0 < n ∧ n ≤ 1000000) (hm : 0 ≤ m ∧ m ≤ 6) :
    Calls Try.prog 17 #[.agg #[.bool neg, .slice a (limbs p).length ca], .int .i64 n, .int .i64 m] w fun e w' => (∃ (k : Nat) (a' : Option Addr) (c' : Nat), (k = p / n ∨ (k = p / n + 1 ∧ 0 < p % n)) ∧ e = .returned (.tuple #[.agg #[.bool (neg && decide (0 < (limbs (k * n)).length)), .slice a' (limbs (k * n)).length c'], .bool true]) ∧ In w' a' c' (limbs (k * n))) ∧ Below w.heap.size w w' := by
  obtain ⟨hn0, hn1⟩ := hn
  have hA := (bel_alloc w (.cells #[.bool neg, .slice a (limbs p).length ca] 26)).trans ((bel_alloc _ (.cells #[.bool false, .slice none 0 0] 26)).mono (by simp))
  have K1 := (Box2.new w (.bool neg) (.slice a (limbs p).length ca) 26 _ rfl).below (bel_alloc _ (.cells #[.bool false, .slice none 0 0] 26)) (Nat.le_refl _)
  have K2 := Box2.new (w.alloc (.cells #[.bool neg, .slice a (limbs p).length ca] 26)) (.bool false) (.slice none 0 0) 26 _ rfl
  rw [World.size_alloc] at K2
  have hs0 : ((w.alloc (.cells #[.bool neg, .slice a (limbs p).length ca] 26)).alloc (.cells #[.bool false, .slice none 0 0] 26)).heap.size = w.heap.size + 2 := by simp
  have hx1 := hx.below hA (Nat.le_refl _)
  go_enter Try.func17, Try.ntmps17
  go_wp2_with fail
  generalize (w.alloc (.cells #[.bool neg, .slice a (limbs p).length ca] 26)).alloc (.cells #[.bool false, .slice none 0 0] 26) = w0 at hA K1 K2 hs0 hx1 ⊢
  refine (impl_IntOk neg a ca _ _ hx1).mono ?_
  rintro e w1 ⟨rfl, hb⟩
  rw [hok]
  replace hA := hA.trans (hb.mono hA.size)
  replace K1 := K1.below hb (Nat.le_refl _)
  replace K2 := K2.below hb (Nat.le_refl _)
  replace hx1 := hx1.below hb (Nat.le_refl _)
  have hz1 := hb.size
  obtain ⟨⟨hc0, hc1⟩, -, -⟩ := K1
  clear hb
  go_wp2_with fail
  refine (isMode_any m _).mono ?_
  rintro e w2 ⟨rfl, rfl⟩
  rw [inB_true hm]
  go_wp2_with fail
  have hof := impl_NatOf (n : Int) w1 ⟨by omega, by omega⟩
  rw [Int.toNat_natCast] at hof
  refine hof.mono ?_
  rintro e w2 ⟨⟨ab, cb, rfl, ob, lb⟩, hb⟩
  replace hA := hA.trans (hb.mono hA.size)
  replace hc0 := cell_keep hb hc0 (Nat.le_refl _)
  replace hc1 := cell_keep hb hc1 (Nat.le_refl _)
  replace K2 := K2.below hb (Nat.le_refl _)
  replace hx1 := hx1.below hb (Nat.le_refl _)
  have ib := ob.inn (by omega)
  have hz2 := hb.size
  clear hb hof ob
  go_wp2_with fail
  refine (roundQ neg a ab ca cb p n m _ hx1 ib (by omega) lb hn0 hm).mono ?_
  rintro e w3 ⟨⟨k, ak, ck, hk, rfl, ik⟩, hb⟩
  have HK := Lib.hid hk
  have lk : (limbs k).length ≤ 19 := by
    rcases hk with h | h
    · rw [h]; exact Nat.le_trans (limbs_len_mono (Nat.div_le_self p n)) (by omega)
    · rw [h.1]
      have h1 := len_add (p / n) 1
      have h2 := limbs_len_mono (Nat.div_le_self p n)
      rw [limbs_len_le]
      have h3 := limbs_len_le.1 lp
      have h4 : p / n ≤ p := Nat.div_le_self p n
      rw [Nat.pow_succ]; omega
  replace hA := hA.trans (hb.mono hA.size)
  replace K2 := K2.below hb (Nat.le_refl _)
  replace ib := ib.below hb (Nat.le_refl _)
  have hz3 := hb.size
  obtain ⟨sgn, hsgn⟩ : ∃ b, (neg && decide (0 < (limbs k).length)) = b := ⟨_, rfl⟩
  rw [hsgn]
  have HSG := Lib.hid hsgn
  clear hb hk hc0 hc1 hx1 hsgn
  have hal := bel_alloc w3 (.cells #[.bool sgn, .slice ak (limbs k).length ck] 26)
  have K3 := Box2.new w3 (.bool sgn) (.slice ak (limbs k).length ck) 26 _ rfl
  replace hA := hA.trans (hal.mono hA.size)
  replace K2 := K2.below hal (Nat.le_refl _)
  replace ib := ib.below hal (Nat.le_refl _)
  replace ik := ik.below hal (Nat.le_refl _)
  have hs4 : (w3.alloc (.cells #[.bool sgn, .slice ak (limbs k).length ck] 26)).heap.size = w3.heap.size + 1 := by simp
  clear hal
  go_upto_region 5 with fail
  generalize w3.alloc (.cells #[.bool sgn, .slice ak (limbs k).length ck] 26) = w4 at hA K2 K3 ib ik hs4 ⊢
  obtain ⟨⟨hx0, hx1⟩, -, -⟩ := K3
  have lkn : (limbs (k * n)).length ≤ 70 := by have := len_mul k n; omega
  go_region_with (first | (go_at_call 39; refine (natMul_any _ _ _ _ k n w4.drew ik.1 ib.1 (by omega) (by omega)).mono ?_; rintro e w5 ⟨⟨a5, c5, rfl, o5⟩, hb5⟩; have hx0' := cell_keep (w := w4.drew) hb5 hx0 (Nat.le_refl _); have hx1' := cell_keep (w := w4.drew) hb5 hx1 (Nat.le_refl _)) | (have g := hb5; go_at_call 38; refine (signed_any sgn a5 c5 (limbs (k * n)) _ (by omega)).mono ?_; rintro e w6 ⟨rfl, hb6⟩; have K6 := (Box2.below (W := w4.drew) K2 hb5 (Nat.le_refl _)).below hb6 (Nat.le_refl _); obtain ⟨⟨hr0, hr1⟩, e0, e1⟩ := K6))
  all_goals
    have hz6 := hb6.size
    have hz5 := hb5.size
    have o6 := (Own.below o5 hb6 (Nat.le_refl _)).mono (B' := w.heap.size + 2) (by show w.heap.size + 2 ≤ w4.heap.size; omega)
    have hA6 := (Below.trans (b := w4.drew) hA.drew (hb5.mono (by show w.heap.size ≤ w4.heap.size; omega))).trans (hb6.mono (by have : w4.heap.size ≤ w5.heap.size := hz5; omega))
    obtain ⟨s2, hs2⟩ : ∃ b, (sgn && decide (0 < (limbs (k * n)).length)) = b := ⟨_, rfl⟩
    have hs3 : (neg && decide (0 < (limbs (k * n)).length)) = s2 := by rw [← hs2, ← HSG.out, sgn_mul neg hn0]
    have HS2 := Lib.hid hs2
    have HS3 := Lib.hid hs3
    clear hs2 hs3
    rw [HS2.out]
    have hq0 := set2_cell0 (u := .bool s2) (v := .slice a5 (limbs (k * n)).length c5) hr0
    have hq1 := set2_cell1 (u := .bool s2) (v := .slice a5 (limbs (k * n)).length c5) hr1
    go_wp2
    refine bodyPost_ret (v := .tuple #[.agg #[.bool s2, .slice a5 (limbs (k * n)).length c5], .bool true]) (by simp [results, Try.results17, go_sem, hq0, hq1]) rfl ⟨⟨k, a5, c5, HK.out, by rw [HS3.out], ?_⟩, set2_below hA6 (by omega)⟩
    exact (set2_own o6 (by omega) (Nat.le_refl _)).inn (by omega)
end Go.Proofs.Ytcibccaimjifmaa
