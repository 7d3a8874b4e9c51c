/- The walks of NatDiv, NatGcd and NatCut (reference). For every two slices within the reach. -/
import Derived.Test.YtmakcgiekfcofaaWl03
import Derived.Test.YtmakcgiekfcofaaWNatOk
namespace Go.Proofs.Ytmakcgiekfcofaa
open Go.RowKit
set_option maxHeartbeats 3200000 in
theorem spec_NatGcd (a b : Option Addr) (ca cb : Nat) (xs ys : List Int) (w : World) (hx : In w a ca xs) (hy : In w b cb ys) :
    Calls Try.prog 56 #[.slice a xs.length ca, .slice b ys.length cb] w fun e w' => (∃ a' c', e = .returned (.slice a' (fGcd xs ys).length c') ∧ Own w' w.heap.size a' c' (fGcd xs ys) ∧ (fGcd xs ys).length ≤ 50) ∧ Below w.heap.size w w' := by
  have hlen := fGcd_len xs ys
  cases h1 : natB xs
  · rw [fGcd_no (by rw [h1]; rfl)]
    go_enter Try.func56, Try.ntmps56
    go_wp2_with fail
    refine (spec_NatOk _ _ _ _ hx.1 hx.maxLen).mono ?_
    rintro e w1 ⟨rfl, rfl⟩
    rw [h1]
    go_wp2
    go_ret
    exact ⟨⟨none, 0, rfl, Own.nil _ _, Nat.zero_le _⟩, Below.refl _ _⟩
  cases h2 : natB ys
  · rw [fGcd_no (by rw [h1, h2]; rfl)]
    go_enter Try.func56, Try.ntmps56
    go_wp2_with fail
    refine (spec_NatOk _ _ _ _ hx.1 hx.maxLen).mono ?_
    rintro e w1 ⟨rfl, rfl⟩
    rw [h1]
    go_wp2_with fail
    refine (spec_NatOk _ _ _ _ hy.1 hy.maxLen).mono ?_
    rintro e w1 ⟨rfl, rfl⟩
    rw [h2]
    go_wp2
    go_ret
    exact ⟨⟨none, 0, rfl, Own.nil _ _, Nat.zero_le _⟩, Below.refl _ _⟩
  obtain ⟨m, rfl, hm⟩ := natB_elim h1
  obtain ⟨n, rfl, hn⟩ := natB_elim h2
  rw [fGcd_yes h1 h2] at hlen ⊢
  obtain ⟨G, hG⟩ : ∃ G, G = Nat.gcd m n := ⟨_, rfl⟩
  rw [← hG] at hlen ⊢
  have HL := Lib.hid hlen
  have HG := Lib.hid hG
  clear hlen hG
  have ho0 := Own.empty w w.heap.size (Nat.le_refl _)
  have hbA := bel_al w (.cells #[] 3)
  have HO0 := Lib.hid ho0
  have HX := Lib.hid (hx.1.below hbA (Nat.le_refl _))
  clear ho0
  go_enter Try.func56, Try.ntmps56
  go_wp2_with fail
  refine (spec_NatOk _ _ _ _ hx.1 hx.maxLen).mono ?_
  rintro e w1 ⟨rfl, rfl⟩
  rw [h1]
  go_wp2_with fail
  refine (spec_NatOk _ _ _ _ hy.1 hy.maxLen).mono ?_
  rintro e w1 ⟨rfl, rfl⟩
  rw [h2]
  go_wp2_with (at_builtin; refine appS _ rfl _ _ rfl w.heap.size (some ⟨w.heap.size, 0, none⟩) 0 [] a ca (limbs m) rfl rfl HO0.out HX.out (by simp; omega) (by simp) ?_)
  intro a2 c2 w2 ho2 hb2
  have hB2 := hbA.trans (hb2.mono (Nat.le_refl _))
  have hbB := bel_al w2 (.cells #[] 3)
  have HO3 := Lib.hid (Own.empty w2 w2.heap.size (Nat.le_refl _))
  have hB3 := hB2.trans (hbB.mono hB2.size)
  have HY := Lib.hid (hy.1.below hB3 (Nat.le_refl _))
  have HO2 := Lib.hid ho2
  clear ho2 hb2
  go_wp2_with (at_builtin; refine appS _ rfl _ _ rfl w2.heap.size (some ⟨w2.heap.size, 0, none⟩) 0 [] b cb (limbs n) rfl rfl HO3.out HY.out (by simp; omega) (by simp) ?_)
  intro a4 c4 w4 ho4 hb4
  have hB4 := Lib.hid (hB3.trans (hb4.mono hB2.size))
  have HO4 := Lib.hid (ho4.mono hB2.size)
  have HX4 := Lib.hid (HO2.out.below ((bel_al w2 (.cells #[] 3)).trans hb4) (Nat.le_refl _))
  clear ho4 hb4
  go_wp2
  go_loopw [5, 6, 7, 8] (fun av bv _ _ wr => ∃ (x y : Nat) (a1 : Option Addr) (c1 : Nat) (b1 : Option Addr) (c2 : Nat), av = .slice a1 (limbs x).length c1 ∧ bv = .slice b1 (limbs y).length c2 ∧ Own wr w.heap.size a1 c1 (limbs x) ∧ Own wr w.heap.size b1 c2 (limbs y) ∧ Nat.gcd x y = G ∧ (limbs x).length ≤ 50 ∧ (limbs y).length ≤ 50 ∧ Below w.heap.size w wr)
    (fun _ bv _ _ wr => sliceNat wr bv)
  case atStart => exact ⟨m, n, _, _, _, _, rfl, rfl, HX4.out, HO4.out, HG.out.symm, hm, hn, hB4.out⟩
  case round =>
    clear HO4 HX4 hB4 HO2 HO3 HY hB2 hB3 hbB
    obtain ⟨x, y, a1, c1, b1, c2, rfl, rfl, hx1, hy1, hg, lx1, ly1, hb⟩ := hrel
    by_cases h0 : 0 < y
    · have hl0 := limbs_pos_iff.2 h0
      have hm' := sliceNat_of (c := c2) hy1.rd
      have HM := Lib.hid hm'
      have hr : x % y < y := Nat.mod_lt _ h0
      have hlr := limbs_len_mono (Nat.le_of_lt hr)
      have HGG := Lib.hid (show Nat.gcd y (x % y) = G by rw [← hg, Nat.gcd_comm x y, Nat.gcd_rec y x, Nat.gcd_comm])
      clear hm' hg
      go_wp2_with fail
      refine (l03Div_any _ _ _ _ _ _ _ hx1.rd hy1.rd (by omega) (by omega) h0).mono ?_
      rintro e w1 ⟨⟨a3, c3, a4, c4, rfl, ho3, ho4⟩, hb1⟩
      have hb2 := hb.trans (hb1.mono hb.size)
      have hy2 := hy1.below hb1 (Nat.le_refl _)
      have hr4 := ho4.mono hb.size
      clear hx1 hy1 hb hb1 ho3 ho4
      go_wp2
      go_roundw
      case rel => exact ⟨y, x % y, _, _, _, _, rfl, rfl, hy2, hr4, HGG.out, ly1, by omega, hb2⟩
      case measure => rw [HM.out, sliceNat_of hr4.rd]; exact hr
    · have e : y = 0 := by omega
      subst e
      have hl0 : (limbs 0).length = 0 := by rw [limbs_zero]; rfl
      have hgx : x = G := by rw [← hg, Nat.gcd_zero_right]
      subst hgx
      clear hg
      go_wp2
      go_ret
      exact ⟨⟨_, _, rfl, hx1, HL.out⟩, hb⟩
end Go.Proofs.Ytmakcgiekfcofaa
