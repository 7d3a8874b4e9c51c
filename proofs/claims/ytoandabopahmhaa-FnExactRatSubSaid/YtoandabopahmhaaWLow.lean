/- The walks of reduce (program), l05Gcd and l05Low (reference): a fraction in lowest terms. For numbers of any size within the reach. -/
import Derived.Test.YtoandabopahmhaaWRatOk
import Derived.Test.YtoandabopahmhaaWSigned
import Derived.Test.YtoandabopahmhaaWBox
namespace Go.Proofs.Ytoandabopahmhaa
open Go.RowKit
set_option linter.unusedVariables false
/-- the program's fraction and its flag: two slices of the call's own in blocks of their own -/
def RatPost2 (w : World) (F : (Bool × List Int × List Int) × Bool) (e : Ending) (w' : World) : Prop :=
  (∃ a c b d lo up lo' up', e = .returned (.tuple #[.agg #[.bool F.1.1, .slice a F.1.2.1.length c, .slice b F.1.2.2.length d], .bool F.2]) ∧ Slot w' lo up a c F.1.2.1 ∧ F.1.2.1.length ≤ 50 ∧ Slot w' lo' up' b d F.1.2.2 ∧ F.1.2.2.length ≤ 50 ∧ w.heap.size ≤ lo ∧ w.heap.size ≤ lo' ∧ (up ≤ lo' ∨ up' ≤ lo)) ∧ Below w.heap.size w w'
def SRatPost2 (w : World) (F : (Bool × List Int × List Int) × Bool) (e : Ending) (w' : World) : Prop :=
  (∃ a c b d, e = .returned (.tuple #[.agg #[.bool F.1.1, .slice a F.1.2.1.length c, .slice b F.1.2.2.length d], .bool F.2]) ∧ Own w' w.heap.size a c F.1.2.1 ∧ F.1.2.1.length ≤ 50 ∧ Own w' w.heap.size b d F.1.2.2 ∧ F.1.2.2.length ≤ 50) ∧ Below w.heap.size w w'
theorem Slot.set3 {W : World} {lo up c r : Nat} {a : Option Addr} {xs : List Int} {u v z : Value} (h : Slot W lo up a c xs) (hr : r < lo) : Slot (((W.setCell ⟨r, 0, none⟩ u).setCell ⟨r, 1, none⟩ v).setCell ⟨r, 2, none⟩ z) lo up a c xs :=
  ((h.setOut (p := ⟨r, 0, none⟩) hr _).setOut (p := ⟨r, 1, none⟩) hr _).setOut (p := ⟨r, 2, none⟩) hr _
theorem set3_own {W : World} {B B0 r c : Nat} {a : Option Addr} {xs : List Int} {u v z : Value} (h : Own W B0 a c xs) (hr : r < B0) (hB : B ≤ B0) : Own (((W.setCell ⟨r, 0, none⟩ u).setCell ⟨r, 1, none⟩ v).setCell ⟨r, 2, none⟩ z) B a c xs :=
  own_set (B0 := B0) (own_set (B := B0) (B0 := B0) (own_set (B := B0) (B0 := B0) h hr _ (Nat.le_refl _)) hr _ (Nat.le_refl _)) hr _ hB
theorem set3_below {w0 W : World} {B r : Nat} {u v z : Value} (h : Below B w0 W) (hr : B ≤ r) : Below B w0 (((W.setCell ⟨r, 0, none⟩ u).setCell ⟨r, 1, none⟩ v).setCell ⟨r, 2, none⟩ z) :=
  ((h.setCell (p := ⟨r, 0, none⟩) hr _).setCell (p := ⟨r, 1, none⟩) hr _).setCell (p := ⟨r, 2, none⟩) hr _
theorem ratPost2_zero {w w' : World} (hb : Below w.heap.size w w') : RatPost2 w ratZ (.returned (.tuple #[.agg #[.bool false, .slice none 0 0, .slice none 0 0], .bool false])) w' :=
  ⟨⟨none, 0, none, 0, w.heap.size, w.heap.size, w.heap.size, w.heap.size, rfl, ⟨hb.size, .inl rfl⟩, Nat.zero_le _, ⟨hb.size, .inl rfl⟩, Nat.zero_le _, Nat.le_refl _, Nat.le_refl _, .inl (Nat.le_refl _)⟩, hb⟩
theorem sratPost2_zero {w w' : World} (hb : Below w.heap.size w w') : SRatPost2 w ratZ (.returned (.tuple #[.agg #[.bool false, .slice none 0 0, .slice none 0 0], .bool false])) w' :=
  ⟨⟨none, 0, none, 0, rfl, Own.nil _ _, Nat.zero_le _, Own.nil _ _, Nat.zero_le _⟩, hb⟩
theorem gcd_le2 {m n k : Nat} (hm : (limbs m).length ≤ k) (hn : (limbs n).length ≤ k) : (limbs (Nat.gcd m n)).length ≤ k := gcd_len hm hn
set_option maxHeartbeats 3200000 in
theorem reduce_any (neg : Bool) (a : Option Addr) (c m : Nat) (b : Option Addr) (d n : Nat) (w : World) (hx : Rd w a (limbs m)) (hy : Rd w b (limbs n)) (lx : (limbs m).length ≤ 1000) (ly : (limbs n).length ≤ 1000) (hn : 0 < n) :
    Calls Try.prog 70 #[.agg #[.bool neg, .slice a (limbs m).length c], .slice b (limbs n).length d] w fun e w' => RatPost2 w (low neg m n) e w' := by
  have hA := (bel_alloc w (.cells #[.bool neg, .slice a (limbs m).length c] 29)).trans ((bel_alloc _ (.cells #[.bool false, .slice none 0 0, .slice none 0 0] 31)).mono (by simp))
  have hg0 : 0 < Nat.gcd m n := Nat.gcd_pos_of_pos_right _ hn
  have hlg := gcd_le2 lx ly
  have lq1 : (limbs (m / Nat.gcd m n)).length ≤ 1000 := Nat.le_trans (limbs_len_mono (Nat.div_le_self _ _)) lx
  have lq2 : (limbs (n / Nat.gcd m n)).length ≤ 1000 := Nat.le_trans (limbs_len_mono (Nat.div_le_self _ _)) ly
  have HX := Lib.hid (hx.below hA (Nat.le_refl _))
  have HY := Lib.hid (hy.below hA (Nat.le_refl _))
  go_enter Try.func70, Try.ntmps70
  go_wp2_with fail
  refine (natGcd_any _ _ _ _ _ _ _ HX.out HY.out (by omega) (by omega)).mono ?_
  rintro e w1 ⟨⟨a1, c1, rfl, ho1⟩, hb1⟩
  have hB1 := hA.trans (hb1.mono hA.size)
  obtain ⟨hc, hf⟩ := bcell hb1
  have hz1 := hb1.size
  simp only [World.size_alloc] at hz1
  have hR1 : Box3 w1 (w.heap.size + 1) _ _ _ := (Box3.new _ _ _ _ _ _ (by simp)).below hb1 (Nat.le_refl _)
  have hS1 : w1.cell? ⟨w.heap.size, 0, none⟩ = some (.bool neg) ∧ w1.cell? ⟨w.heap.size, 1, none⟩ = some (.slice a (limbs m).length c) :=
    ⟨cell_keep hb1 (cell_keep (bel_alloc _ _) (cell_box w _ _ _ 0 _ rfl rfl) (Nat.le_refl _)) (Nat.le_refl _), cell_keep hb1 (cell_keep (bel_alloc _ _) (cell_box w _ _ _ 1 _ rfl rfl) (Nat.le_refl _)) (Nat.le_refl _)⟩
  obtain ⟨hS0, hS1⟩ := hS1
  have HX1 := Lib.hid (HX.out.below hb1 (Nat.le_refl _))
  have HY1 := Lib.hid (HY.out.below hb1 (Nat.le_refl _))
  clear hc hf HX HY hA
  go_wp2_with fail
  refine (natDiv_any _ _ _ _ _ _ _ HX1.out ho1.rd (by omega) (by omega) hg0).mono ?_
  rintro e w2 ⟨⟨a2, c2, a3, c3, lo, up, lo', up', rfl, s1, -, g1, -, -⟩, hb2⟩
  have hz2 := hb2.size
  have hB2 := hB1.trans (hb2.mono hB1.size)
  have hR2 := hR1.below hb2 (Nat.le_refl _)
  replace hS0 := cell_keep hb2 hS0 (Nat.le_refl _)
  have HY2 := Lib.hid (HY1.out.below hb2 (Nat.le_refl _))
  have HG2 := Lib.hid (ho1.rd.below hb2 (Nat.le_refl _))
  clear HX1 HY1 hR1 ho1 hb1 hS1 hB1
  go_wp2_with fail
  refine (natDiv_any _ _ _ _ _ _ _ HY2.out HG2.out (by omega) (by omega) hg0).mono ?_
  rintro e w3 ⟨⟨a4, c4, a5, c5, lo2, up2, lo3, up3, rfl, s2, -, g2, -, -⟩, hb3⟩
  have hz3 := hb3.size
  have hB3 := hB2.trans (hb3.mono hB2.size)
  have hR3 := hR2.below hb3 (Nat.le_refl _)
  replace hS0 := cell_keep hb3 hS0 (Nat.le_refl _)
  have t1 := s1.below hb3 s1.1
  have u1 := s1.1
  have u1x := t1.1
  have u2 := s2.1
  clear HY2 HG2 hR2 s1 hb2 hB2 hb3
  obtain ⟨q1, hq1⟩ : ∃ q, q = m / Nat.gcd m n := ⟨_, rfl⟩
  obtain ⟨q2, hq2⟩ : ∃ q, q = n / Nat.gcd m n := ⟨_, rfl⟩
  by_cases h1 : 18 < (limbs q1).length
  · have H := Lib.hid (show low neg m n = ratZ from low_no (by rw [← hq1]; exact .inl h1))
    have z1 : decide (18 < ((limbs q1).length : Int)) = true := decide_eq_true (by omega)
    rw [← hq1, ← hq2]
    clear hq1 hq2 t1 s2 lq1 lq2
    obtain ⟨⟨p0, p1, p2⟩, f0, f1, f2⟩ := hR3
    go_wp2
    refine bodyPost_ret (v := .tuple #[.agg #[.bool false, .slice none 0 0, .slice none 0 0], .bool false]) (by simp [results, Try.results70, go_sem, p0, p1, p2]) rfl ?_
    rw [H.out]
    exact ratPost2_zero (set3_below hB3 (by omega))
  by_cases h2 : 18 < (limbs q2).length
  · have H := Lib.hid (show low neg m n = ratZ from low_no (by rw [← hq2]; exact .inr h2))
    have z1 : decide (18 < ((limbs q1).length : Int)) = false := decide_eq_false (by omega)
    have z2 : decide (18 < ((limbs q2).length : Int)) = true := decide_eq_true (by omega)
    rw [← hq1, ← hq2]
    clear hq1 hq2 t1 s2 lq1 lq2
    obtain ⟨⟨p0, p1, p2⟩, f0, f1, f2⟩ := hR3
    go_wp2
    refine bodyPost_ret (v := .tuple #[.agg #[.bool false, .slice none 0 0, .slice none 0 0], .bool false]) (by simp [results, Try.results70, go_sem, p0, p1, p2]) rfl ?_
    rw [H.out]
    exact ratPost2_zero (set3_below hB3 (by omega))
  have H := Lib.hid (low_yes (neg := neg) (m := m) (n := n) (by rw [← hq1]; omega) (by rw [← hq2]; omega))
  rw [← hq1, ← hq2] at H
  rw [← hq1] at t1
  rw [← hq2] at s2
  have z1 : decide (18 < ((limbs q1).length : Int)) = false := decide_eq_false (by omega)
  have z2 : decide (18 < ((limbs q2).length : Int)) = false := decide_eq_false (by omega)
  rw [← hq1] at lq1
  rw [← hq2] at lq2
  rw [← hq1, ← hq2]
  clear hq1 hq2
  have hR4 := hR3
  obtain ⟨⟨p0, p1, p2⟩, f0, f1, f2⟩ := hR3
  go_wp2_with fail
  refine (signed_any _ _ _ _ _ (by omega)).mono ?_
  rintro e w4 ⟨rfl, hb4⟩
  have hR5 := hR4.below hb4 (Nat.le_refl _)
  have t2 := t1.below hb4 u1x
  have s3 := s2.below hb4 u2
  have hB4 := hB3.trans (hb4.mono hB3.size)
  clear p0 p1 p2 f0 f1 f2 hR4 t1 s2
  obtain ⟨⟨p0, p1, p2⟩, f0, f1, f2⟩ := hR5
  go_wp2
  refine bodyPost_ret (v := .tuple #[.agg #[.bool (neg && decide (0 < (limbs q1).length)), .slice a2 (limbs q1).length c2, .slice a4 (limbs q2).length c4], .bool true]) (by simp [results, Try.results70, go_sem, p0, p1, p2]) rfl ?_
  rw [H.out]
  exact ⟨⟨a2, c2, a4, c4, lo, up, lo2, up2, rfl, t2.set3 (by omega), by dsimp only; omega, s3.set3 (by omega), by dsimp only; omega, by omega, by omega, .inl (by omega)⟩, set3_below hB4 (by omega)⟩
set_option maxHeartbeats 1600000 in
theorem l05Gcd_any (a b : Option Addr) (ca cb m n : Nat) (w : World) (hx : Rd w a (limbs m)) (hy : Rd w b (limbs n)) (lx : (limbs m).length ≤ 800) (ly : (limbs n).length ≤ 800) :
    Calls Try.prog 102 #[.slice a (limbs m).length ca, .slice b (limbs n).length cb] w fun e w' => (∃ a' c', e = .returned (.slice a' (limbs (Nat.gcd m n)).length c') ∧ Rd w' a' (limbs (Nat.gcd m n))) ∧ Below w.heap.size w w' := by
  obtain ⟨G, hG⟩ : ∃ G, G = Nat.gcd m n := ⟨_, rfl⟩
  rw [← hG]
  have HG := Lib.hid hG
  clear hG
  go_enter Try.func102, Try.ntmps102
  go_wp2
  go_loopw [5, 6, 7, 8] (fun av bv _ _ wr => ∃ (x y : Nat) (a1 : Option Addr) (c1 : Nat) (b1 : Option Addr) (c2 : Nat), av = .slice a1 (limbs x).length c1 ∧ bv = .slice b1 (limbs y).length c2 ∧ Rd wr a1 (limbs x) ∧ Rd wr b1 (limbs y) ∧ Nat.gcd x y = G ∧ (limbs x).length ≤ 800 ∧ (limbs y).length ≤ 800 ∧ Below w.heap.size w wr)
    (fun _ bv _ _ wr => sliceNat wr bv)
  case atStart => exact ⟨m, n, _, _, _, _, rfl, rfl, hx, hy, HG.out.symm, lx, ly, Below.refl _ _⟩
  case round =>
    obtain ⟨x, y, a1, c1, b1, c2, rfl, rfl, hx1, hy1, hg, lx1, ly1, hb⟩ := hrel
    by_cases h0 : 0 < y
    · have hl0 := limbs_pos_iff.2 h0
      have hm := sliceNat_of (c := c2) hy1
      have HM := Lib.hid hm
      have hr : x % y < y := Nat.mod_lt _ h0
      have hlr := limbs_len_mono (Nat.le_of_lt hr)
      have HGG := Lib.hid (show Nat.gcd y (x % y) = G by rw [← hg, Nat.gcd_comm x y, Nat.gcd_rec y x, Nat.gcd_comm])
      clear hm hg
      go_wp2_with fail
      refine (l03Div_any _ _ _ _ _ _ _ hx1 hy1 (by omega) (by omega) h0).mono ?_
      rintro e w1 ⟨⟨a3, c3, a4, c4, rfl, -, hr4⟩, hb1⟩
      have hb2 := hb.trans (hb1.mono hb.size)
      have hy2 := hy1.below hb1 (Nat.le_refl _)
      clear hx1 hy1 hb hb1
      go_wp2
      go_roundw
      case rel => exact ⟨y, x % y, _, _, _, _, rfl, rfl, hy2, hr4.rd, HGG.out, ly1, by omega, hb2⟩
      case measure => rw [HM.out, sliceNat_of hr4.rd]; exact hr
    · have e : y = 0 := by omega
      subst e
      have hl0 : (limbs 0).length = 0 := by rw [limbs_zero]; rfl
      have hgx : x = G := by rw [← hg, Nat.gcd_zero_right]
      subst hgx
      clear hg
      go_wp2
      go_ret
      exact ⟨⟨a1, c1, rfl, hx1⟩, hb⟩
theorem trim_n (n : Nat) : trimL (limbs n) = limbs n := trimL_canon_id (limbs_last n)
theorem capL_n {n : Nat} (h : (limbs n).length ≤ 50) : capL (limbs n) = limbs n := by rw [capL_nat]; unfold capV; rw [if_neg (by omega)]
theorem l02Trim_n (a : Option Addr) (cap n : Nat) (w : World) (h : In w a cap (limbs n)) :
    Calls Try.prog 101 #[.slice a (limbs n).length cap] w fun e w' => e = .returned (.slice a (limbs n).length cap) ∧ w = w' := by
  have := l02Trim_any a cap (limbs n) w h.1 h.maxLen h.2.1
  rw [trim_n] at this
  exact this
theorem l04Make_n (neg : Bool) (a : Option Addr) (c n : Nat) (w : World) (hx : In w a c (limbs n)) (hl : (limbs n).length ≤ 50) :
    Calls Try.prog 79 #[.bool neg, .slice a (limbs n).length c] w fun e w' => (∃ a' c', e = .returned (.agg #[.bool (neg && decide (0 < (limbs n).length)), .slice a' (limbs n).length c']) ∧ Own w' w.heap.size a' c' (limbs n)) ∧ Below w.heap.size w w' := by
  have := l04Make_any neg a c (limbs n) w hx
  rw [capL_n hl] at this
  exact this
theorem l05Low_zero (neg : Bool) (a : Option Addr) (c m : Nat) (b : Option Addr) (d : Nat) (w : World) (hx : In w a c (limbs m)) :
    Calls Try.prog 68 #[.bool neg, .slice a (limbs m).length c, .slice b (limbs 0).length d] w fun e w' => SRatPost2 w ratZ e w' := by
  have hA := bel_alloc w (.cells #[.bool false, .slice none 0 0, .slice none 0 0] 31)
  have HX := Lib.hid (hx.below hA (Nat.le_refl _))
  have e0 : (limbs 0).length = 0 := by rw [limbs_zero]; rfl
  go_enter Try.func68, Try.ntmps68
  go_wp2_with fail
  refine (l02Trim_n _ _ _ _ HX.out).mono ?_
  rintro e w1 ⟨rfl, rfl⟩
  go_wp2_with fail
  refine (l02Trim_n b d 0 _ ⟨by rw [limbs_zero]; exact Rd.nil _ _, by omega, by omega⟩).mono ?_
  rintro e w1 ⟨rfl, rfl⟩
  have hR := Box3.new w (.bool false) (.slice none 0 0) (.slice none 0 0) 31 _ rfl
  obtain ⟨⟨p0, p1, p2⟩, f0, f1, f2⟩ := hR
  go_wp2
  refine bodyPost_ret (v := .tuple #[.agg #[.bool false, .slice none 0 0, .slice none 0 0], .bool false]) (by simp [results, Try.results68, go_sem, p0, p1, p2]) rfl ?_
  first | exact sratPost2_zero (set3_below hA (Nat.le_refl _)) | exact sratPost2_zero hA
set_option maxHeartbeats 3200000 in
theorem l05Low_any (neg : Bool) (a : Option Addr) (c m : Nat) (b : Option Addr) (d n : Nat) (w : World) (hx : In w a c (limbs m)) (hy : In w b d (limbs n)) (lx : (limbs m).length ≤ 800) (ly : (limbs n).length ≤ 800) (hn : 0 < n) :
    Calls Try.prog 68 #[.bool neg, .slice a (limbs m).length c, .slice b (limbs n).length d] w fun e w' => SRatPost2 w (low neg m n) e w' := by
  have hA := bel_alloc w (.cells #[.bool false, .slice none 0 0, .slice none 0 0] 31)
  have hg0 : 0 < Nat.gcd m n := Nat.gcd_pos_of_pos_right _ hn
  have hlg := gcd_le2 lx ly
  have lq1 : (limbs (m / Nat.gcd m n)).length ≤ 800 := Nat.le_trans (limbs_len_mono (Nat.div_le_self _ _)) lx
  have lq2 : (limbs (n / Nat.gcd m n)).length ≤ 800 := Nat.le_trans (limbs_len_mono (Nat.div_le_self _ _)) ly
  have hl0 := limbs_pos_iff.2 hn
  have z0 : (((limbs n).length : Int) == 0) = false := by rw [beq_eq_false_iff_ne]; omega
  have HX := Lib.hid (hx.below hA (Nat.le_refl _))
  have HY := Lib.hid (hy.below hA (Nat.le_refl _))
  go_enter Try.func68, Try.ntmps68
  go_wp2_with fail
  refine (l02Trim_n _ _ _ _ HX.out).mono ?_
  rintro e w1 ⟨rfl, rfl⟩
  go_wp2_with fail
  refine (l02Trim_n _ _ _ _ HY.out).mono ?_
  rintro e w1 ⟨rfl, rfl⟩
  have hR0 := Box3.new w (.bool false) (.slice none 0 0) (.slice none 0 0) 31 _ rfl
  go_wp2_with fail
  refine (l05Gcd_any _ _ _ _ _ _ _ HX.out.1 HY.out.1 (by omega) (by omega)).mono ?_
  rintro e w1 ⟨⟨a1, c1, rfl, hr1⟩, hb1⟩
  have hz1 := hb1.size
  simp only [World.size_alloc] at hz1
  have hB1 := hA.trans (hb1.mono hA.size)
  have hR1 := hR0.below hb1 (Nat.le_refl _)
  have HX1 := Lib.hid (HX.out.below hb1 (Nat.le_refl _))
  have HY1 := Lib.hid (HY.out.below hb1 (Nat.le_refl _))
  clear HX HY hA hR0 hb1
  go_wp2_with fail
  refine (l03Div_any _ _ _ _ _ _ _ HX1.out.1 hr1 (by omega) (by omega) hg0).mono ?_
  rintro e w2 ⟨⟨a2, c2, a3, c3, rfl, o1, -⟩, hb2⟩
  have hz2 := hb2.size
  have hB2 := hB1.trans (hb2.mono hB1.size)
  have hR2 := hR1.below hb2 (Nat.le_refl _)
  have HY2 := Lib.hid (HY1.out.below hb2 (Nat.le_refl _))
  have HG2 := Lib.hid (hr1.below hb2 (Nat.le_refl _))
  clear HX1 HY1 hR1 hr1 hb2 hB1
  go_wp2_with fail
  refine (l03Div_any _ _ _ _ _ _ _ HY2.out.1 HG2.out (by omega) (by omega) hg0).mono ?_
  rintro e w3 ⟨⟨a4, c4, a5, c5, rfl, o2, -⟩, hb3⟩
  have hz3 := hb3.size
  have hB3 := hB2.trans (hb3.mono hB2.size)
  have hR3 := hR2.below hb3 (Nat.le_refl _)
  replace o1 := o1.below hb3 (Nat.le_refl _)
  clear HY2 HG2 hR2 hb3 hB2
  obtain ⟨q1, hq1⟩ : ∃ q, q = m / Nat.gcd m n := ⟨_, rfl⟩
  obtain ⟨q2, hq2⟩ : ∃ q, q = n / Nat.gcd m n := ⟨_, rfl⟩
  by_cases h1 : 18 < (limbs q1).length
  · have H := Lib.hid (show low neg m n = ratZ from low_no (by rw [← hq1]; exact .inl h1))
    have z1 : decide (18 < ((limbs q1).length : Int)) = true := decide_eq_true (by omega)
    rw [← hq1, ← hq2]
    clear hq1 hq2 o1 o2 lq1 lq2
    obtain ⟨⟨p0, p1, p2⟩, f0, f1, f2⟩ := hR3
    go_wp2
    refine bodyPost_ret (v := .tuple #[.agg #[.bool false, .slice none 0 0, .slice none 0 0], .bool false]) (by simp [results, Try.results68, go_sem, p0, p1, p2]) rfl ?_
    rw [H.out]
    exact sratPost2_zero (set3_below hB3 (Nat.le_refl _))
  by_cases h2 : 18 < (limbs q2).length
  · have H := Lib.hid (show low neg m n = ratZ from low_no (by rw [← hq2]; exact .inr h2))
    have z1 : decide (18 < ((limbs q1).length : Int)) = false := decide_eq_false (by omega)
    have z2 : decide (18 < ((limbs q2).length : Int)) = true := decide_eq_true (by omega)
    rw [← hq1, ← hq2]
    clear hq1 hq2 o1 o2 lq1 lq2
    obtain ⟨⟨p0, p1, p2⟩, f0, f1, f2⟩ := hR3
    go_wp2
    refine bodyPost_ret (v := .tuple #[.agg #[.bool false, .slice none 0 0, .slice none 0 0], .bool false]) (by simp [results, Try.results68, go_sem, p0, p1, p2]) rfl ?_
    rw [H.out]
    exact sratPost2_zero (set3_below hB3 (Nat.le_refl _))
  have H := Lib.hid (low_yes (neg := neg) (m := m) (n := n) (by rw [← hq1]; omega) (by rw [← hq2]; omega))
  rw [← hq1, ← hq2] at H
  rw [← hq1] at o1
  rw [← hq2] at o2
  have z1 : decide (18 < ((limbs q1).length : Int)) = false := decide_eq_false (by omega)
  have z2 : decide (18 < ((limbs q2).length : Int)) = false := decide_eq_false (by omega)
  rw [← hq1] at lq1
  rw [← hq2] at lq2
  rw [← hq1, ← hq2]
  clear hq1 hq2
  have hR4 := hR3
  obtain ⟨⟨p0, p1, p2⟩, f0, f1, f2⟩ := hR3
  go_wp2_with fail
  refine (l04Make_n _ _ _ _ _ (o1.inn (by omega)) (by omega)).mono ?_
  rintro e w4 ⟨⟨a6, c6, rfl, o3⟩, hb4⟩
  have hz4 := hb4.size
  have hB4 := hB3.trans (hb4.mono hB3.size)
  have hR5 := hR4.below hb4 (Nat.le_refl _)
  have HQ := Lib.hid ((o2.rd.below hb4 (Nat.le_refl _)).below (bel_alloc w4 (.cells #[] 3)) (Nat.le_refl _))
  have HE := Lib.hid (Own.empty w4 w4.heap.size (Nat.le_refl _))
  have HB := Lib.hid hB4
  have HO := Lib.hid o3
  have HR5 := Lib.hid hR5
  clear p0 p1 p2 f0 f1 f2 hR4 o1 o2 o3 hB4 hB3 hb4 hR5
  go_wp2_with (at_builtin; refine appS _ rfl _ _ rfl w4.heap.size (some ⟨w4.heap.size, 0, none⟩) 0 [] a4 c4 (limbs q2) rfl rfl HE.out HQ.out (by simp; omega) (by simp) ?_)
  intro a7 c7 w5 ho7 hb5
  have hz5 := hb5.size
  simp only [World.size_alloc] at hz5
  have hb6 := (bel_alloc w4 (.cells #[] 3)).trans hb5
  have hR6 := HR5.out.below hb6 (Nat.le_refl _)
  have o4 := HO.out.below hb6 (Nat.le_refl _)
  have hB6 := HB.out.trans (hb6.mono HB.out.size)
  clear hb5 hb6 HR5 HO HB HE HQ
  obtain ⟨⟨p0, p1, p2⟩, f0, f1, f2⟩ := hR6
  go_wp2
  refine bodyPost_ret (v := .tuple #[.agg #[.bool (neg && decide (0 < (limbs q1).length)), .slice a6 (limbs q1).length c6, .slice a7 (limbs q2).length c7], .bool true]) (by simp [results, Try.results68, go_sem, p0, p1, p2]) rfl ?_
  rw [H.out]
  exact ⟨⟨a6, c6, a7, c7, rfl, set3_own o4 (by omega) (by omega), by dsimp only; omega, set3_own ho7 (by omega) (by omega), by dsimp only; omega⟩, set3_below hB6 (Nat.le_refl _)⟩
end Go.Proofs.Ytoandabopahmhaa
