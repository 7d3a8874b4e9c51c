/- The walk of RatSign (program). (Printed by gen_rat2.py.) The walk of IntText (program): strconv.Itoa by its contract. For every integer, where the library's table of powers of ten reads as it is laid. The walk of Pad (program). For every text within the reach. The walks of natText and NatText (program). For every slice within the reach, where the library's table reads as it is laid. The walk of IntStr (program). For every integer within the reach, where the library's table reads as it is laid. -/
import Derived.Test.YtogkonenejfgmaaGreatDoorM26
import Derived.Shelf.Strconv.Itoa3
import Derived.Shelf.Lay
import Derived.Ground.NamesProg
import Derived.Lib.LaidTab
import Derived.Shelf.Unicode.PredsPay
import Derived.Test.YtogkonenejfgmaaGreatDoorM34
import Derived.Shelf.Strings.Repeat
namespace Go.Proofs.YtogkonenejfgmaaGreatDoor
open Go.RowKit
set_option linter.unusedVariables false
set_option linter.unusedSimpArgs false in
set_option maxRecDepth 100000 in
set_option maxHeartbeats 40000000 in
theorem impl_RatSign (n1 : Bool) (a1 : Option Addr) (c1 : Nat) (xs : List Int) (b1 : Option Addr) (d1 : Nat) (ys : List Int) (w : World) (hx : In w a1 c1 xs) (hy : In w b1 d1 ys) :
    Calls Tryz.prog 12 #[.agg #[.bool n1, .slice a1 xs.length c1, .slice b1 ys.length d1]] w fun e w' => e = .returned (.int .i64 (fRatSign n1 xs ys)) ∧ Below w.heap.size w w' := by
  have hA := (bel_alloc w (.cells #[.bool n1, .slice a1 xs.length c1, .slice b1 ys.length d1] 27))
  have hzA : w.heap.size + 1 ≤ (World.alloc w (.cells #[.bool n1, .slice a1 xs.length c1, .slice b1 ys.length d1] 27)).heap.size := by simp only [World.size_alloc]; omega
  have Q1 := (Box3.new w (.bool n1) (.slice a1 xs.length c1) (.slice b1 ys.length d1) 27 (w.heap.size) (by simp))
  have HX := Lib.hid (hx.below hA (Nat.le_refl _))
  have HY := Lib.hid (hy.below hA (Nat.le_refl _))
  cases h1 : ratB n1 xs ys
  · have hF0 := Lib.hid (show fRatSign n1 xs ys = 0 by unfold fRatSign; rw [h1]; rfl)
    go_enter Tryz.func12, Tryz.ntmps12
    go_wp2_with fail
    refine (impl_RatOk _ _ _ _ _ _ _ _ HX.out HY.out).mono ?_
    rintro e w1 ⟨rfl, hb⟩
    rw [h1]
    have zw1 := hb.size
    replace Q1 := Q1.below hb (Nat.le_refl _)
    replace HX := Lib.hid (HX.out.below hb (Nat.le_refl _))
    replace HY := Lib.hid (HY.out.below hb (Nat.le_refl _))
    have hB := hA.trans (hb.mono hA.size)
    clear hb
    go_wp2
    go_ret
    exact ⟨by rw [hF0.out]; rfl, hB⟩
  obtain ⟨m, n, rfl, rfl, lm, ln, hn0, -, -, -, -, -, hs⟩ := ratB_elim h1
  have hF := Lib.hid (show fRatSign n1 (limbs m) (limbs n) = sgnZ (zOf n1 m) by unfold fRatSign; rw [h1, hs]; rfl)
  clear hs
  go_enter Tryz.func12, Tryz.ntmps12
  go_wp2_with fail
  refine (impl_RatOk _ _ _ _ _ _ _ _ HX.out HY.out).mono ?_
  rintro e w1 ⟨rfl, hb⟩
  rw [h1]
  have zw1 := hb.size
  replace Q1 := Q1.below hb (Nat.le_refl _)
  replace HX := Lib.hid (HX.out.below hb (Nat.le_refl _))
  replace HY := Lib.hid (HY.out.below hb (Nat.le_refl _))
  have hB := hA.trans (hb.mono hA.size)
  clear hb
  have Q1k := Q1
  obtain ⟨⟨q1c0, q1c1, q1c2⟩, q1f0, q1f1, q1f2⟩ := Q1k
  go_wp2_with fail
  refine (intSign_any _ _ _ m _ (by omega)).mono ?_
  rintro e w3 ⟨rfl, hb⟩
  replace hB := hB.trans (hb.mono hB.size)
  go_wp2
  go_ret
  exact ⟨by rw [hF.out]; rfl, hB⟩
end Go.Proofs.YtogkonenejfgmaaGreatDoor
namespace Go.Proofs.YtogkonenejfgmaaGreatDoor
open Go.RowKit Go.Shelf
open Go.Lib (decDigits itoa)
shelf_lay LaysM.n171 Nm 171 at Tryz as Tryz.laysItoa
theorem fItoa : Tryz.laysItoa_ren.f 171 = 75 := by kernel_rfl
/-- the library's table of powers of ten reads as it is laid -/
def Tab (w : World) : Prop := Lib.TabIs Tryz.prog w "internal/strconv.uint64pow10" .u64 Lib.pow10Tab
theorem tabG : Tryz.prog.globalNamed "internal/strconv.uint64pow10" = some 1 := by kernel_rfl
theorem Tab.below {w w' : World} (h : Tab w) (hb : Below w.heap.size w w') : Tab w' := TabIs_below tabG h hb
theorem itoa_any (z : Int) (w : World) (hz : Rng z) (ht : Tab w) :
    Calls Tryz.prog 75 #[.int .i64 z] w fun e w' => e = .returned (.string (tx (itoa z))) ∧ Below w.heap.size w w' := by
  have h := Any.strconv_Itoa Tryz.laysItoa z hz.1 hz.2 w ht
  rw [fItoa] at h
  refine h.mono fun e w' ⟨he, k, os, hw⟩ => ⟨he, ?_⟩
  subst hw
  exact ⟨rfl, rfl, rfl, by simp [Sort.grow, World.drewN], fun j hj => by simp [Sort.grow, World.drewN, Array.getElem?_append_left hj]⟩
theorem impl_IntText (z : Int) (w : World) (hz : Rng z) (ht : Tab w) :
    Calls Tryz.prog 65 #[.int .i64 z] w fun e w' => e = .returned (.string (tx (itoa z))) ∧ Below w.heap.size w w' := by
  go_enter Tryz.func65, Tryz.ntmps65
  go_wp2_with fail
  refine (itoa_any _ _ hz ht).mono ?_
  rintro e w1 ⟨rfl, hb⟩
  go_wp2
  go_ret
  exact ⟨rfl, hb⟩
end Go.Proofs.YtogkonenejfgmaaGreatDoor
namespace Go.Proofs.YtogkonenejfgmaaGreatDoor
open Go.RowKit Go.Shelf
shelf_lay Lays.n105 Nm 105 at Tryz as Tryz.laysRepeat
theorem extraRepeat : Builder.Extra Tryz.prog Tryz.laysRepeat_ren where
  sizeBuilder := by kernel_rfl
  liesBuilder := by kernel_rfl
  t5 := Tryz.laysRepeat.t5
  a5 := Tryz.laysRepeat.a5
  z5 := Tryz.laysRepeat.z5
  v5 := Tryz.laysRepeat.v5
  infoByte := by kernel_rfl
  cellsByte := by kernel_rfl
  sizeByte := by kernel_rfl
  neB5 := by decide
theorem fRepeat : Tryz.laysRepeat_ren.f 105 = 76 := by kernel_rfl
theorem repeatL_one (c : Nat) : Lib.repeatL [48] c = List.replicate c 48 := by
  induction c with
  | zero => rfl
  | succ c ih => show [48] ++ Lib.repeatL [48] c = _; rw [ih]; rfl
theorem repeat_any (c : Nat) (w : World) (hc : c ≤ 2000) :
    Calls Tryz.prog 76 #[.string ⟨#[48]⟩, .int .i64 c] w fun e w' => e = .returned (.string ⟨(List.replicate c 48).toArray⟩) ∧ Below w.heap.size w w' := by
  have h := Any.strings_Repeat Tryz.laysRepeat extraRepeat ⟨#[48]⟩ c w (by omega) (by show 1 * c ≤ _; omega)
  rw [fRepeat] at h
  refine h.mono fun e w' ⟨he, hw⟩ => ⟨?_, hw⟩
  rw [he]
  show Ending.returned (.string ⟨(Lib.repeatL [48] c).toArray⟩) = _
  rw [repeatL_one]
theorem padB_cat (k : Nat) (s : ByteArray) : ByteArray.mk (List.replicate k 48).toArray ++ s = padB k s := by
  apply ByteArray.ext
  rw [ByteArray.data_append]
  rfl
theorem impl_Pad (s : ByteArray) (z : Int) (w : World) (hs : s.size ≤ 1099511627776) (hz : Rng z) :
    Calls Tryz.prog 66 #[.string s, .int .i64 z] w fun e w' => e = .returned (.string (fPad s z)) ∧ Below w.heap.size w w' := by
  obtain ⟨hz1, hz2⟩ := hz
  by_cases h1 : z ≤ (s.size : Int)
  · have hF : fPad s z = s := by
      unfold fPad
      split
      · rw [show z.toNat - s.size = 0 by omega, padB_zero]
      · rfl
    rw [hF]
    clear hF
    go_enter Tryz.func66, Tryz.ntmps66
    go_wp2
    go_ret
    exact ⟨rfl, Below.refl _ _⟩
  · by_cases h2 : z ≤ 2000
    · obtain ⟨c, hc⟩ : ∃ c : Nat, c = z.toNat - s.size := ⟨_, rfl⟩
      have hF := Lib.hid (show fPad s z = padB c s by rw [hc]; exact if_pos h2)
      have hcz := Lib.hid (show z - (s.size : Int) = (c : Int) by omega)
      have hc2 : c ≤ 2000 := by omega
      have hcat := Lib.hid (padB_cat c s)
      rw [hF.out]
      clear hc
      go_enter Tryz.func66, Tryz.ntmps66
      go_wp2_with fail
      rw [hcz.out]
      refine (repeat_any c _ hc2).mono ?_
      rintro e w1 ⟨rfl, hb⟩
      go_wp2
      go_ret
      exact ⟨by rw [← hcat.out]; rfl, hb⟩
    · have hF : fPad s z = s := if_neg h2
      rw [hF]
      clear hF
      go_enter Tryz.func66, Tryz.ntmps66
      go_wp2
      go_ret
      exact ⟨rfl, Below.refl _ _⟩
end Go.Proofs.YtogkonenejfgmaaGreatDoor
namespace Go.Proofs.YtogkonenejfgmaaGreatDoor
open Go.RowKit
open Go.Lib (decDigits itoa)
theorem impl_Pad9 (l : List UInt8) (w : World) (hl : l.length ≤ 9) :
    Calls Tryz.prog 66 #[.string (tx l), .int .i64 9] w fun e w' => e = .returned (.string (tx (padL 9 l))) ∧ Below w.heap.size w w' := by
  rw [← fPad_tx]
  exact impl_Pad _ _ _ (by rw [tx_size]; omega) ⟨by omega, by omega⟩
set_option maxHeartbeats 1600000 in
theorem natText_any (a : Option Addr) (ca : Nat) (xs : List Int) (w : World) (hx : In w a ca xs) (h1 : natB xs = true) (ht : Tab w) :
    Calls Tryz.prog 52 #[.slice a xs.length ca] w fun e w' => e = .returned (.string (tx (natTxt xs))) ∧ Below w.heap.size w w' := by
  have hl := natB_le h1
  have HO := Lib.hid (natB_ok h1)
  by_cases h0 : xs.length ≤ 0
  · obtain rfl := List.eq_nil_of_length_eq_zero (by omega : xs.length = 0)
    go_enter Tryz.func52, Tryz.ntmps52
    go_wp2
    go_ret
    exact ⟨rfl, Below.refl _ _⟩
  · have z0 : ((xs.length : Int) == 0) = false := by rw [beq_eq_false_iff_ne]; omega
    obtain ⟨n, hn⟩ : ∃ n, xs.length = n + 1 := ⟨xs.length - 1, by omega⟩
    obtain ⟨b, off, x, rfl, hb, hc, hx1⟩ := hx.1.at n (by omega)
    have gx := okL_get HO.out n
    rw [hx1.out] at gx
    obtain ⟨gx0, gx1⟩ := gx
    have HT0 := Lib.hid (show itoa x = natTxt (xs.drop n) by
      rw [drop_cons_getD xs n (by omega), hx1.out, List.drop_of_length_le (by omega), natTxt_one])
    have e1 : (xs.length : Int) - 1 = (n : Int) := by omega
    have e2 : (xs.length : Int) - 2 = (n : Int) - 1 := by omega
    have HN := Lib.hid hn
    have hn1 : xs.length ≤ n + 1 := by omega
    have hn2 : n + 1 ≤ xs.length := by omega
    clear hn
    go_enter Tryz.func52, Tryz.ntmps52
    go_wp2_with fail
    refine (impl_IntText x w ⟨by omega, by omega⟩ ht).mono ?_
    rintro e w1 ⟨rfl, hb1⟩
    rw [HT0.out]
    have hx' := hx.below hb1 (Nat.le_refl _)
    clear hc hb e1
    go_wp2
    go_loopw [3, 4] (fun sv iv wr => ∃ k : Nat, k ≤ n ∧ sv = .string (tx (natTxt (xs.drop k))) ∧ iv = .int .i64 ((k : Int) - 1) ∧ Below w.heap.size w wr) (fun _ iv _ => (intOf iv + 1).toNat)
    case atStart => exact ⟨n, Nat.le_refl _, rfl, rfl, hb1⟩
    case round =>
      obtain ⟨k, hk, rfl, rfl, hbr⟩ := hrel
      by_cases hk0 : 0 < k
      · obtain ⟨j, rfl⟩ : ∃ j, k = j + 1 := ⟨k - 1, by omega⟩
        obtain ⟨b2, off2, y, hab, hb2, hc2, hy1⟩ := (hx.1.below hbr (Nat.le_refl _)).at j (by omega)
        simp only [Option.some.injEq, Addr.mk.injEq, and_true] at hab
        obtain ⟨rfl, rfl⟩ := hab
        have gy := okL_get HO.out j
        rw [hy1.out] at gy
        obtain ⟨gy0, gy1⟩ := gy
        have HS := Lib.hid (show tx (natTxt (xs.drop (j + 1))) ++ tx (padL 9 (itoa y)) = tx (natTxt (xs.drop j)) by rw [natTxt_drop xs j (by omega), hy1.out, tx_app])
        have hs1 : (tx (natTxt (xs.drop (j + 1)))).size ≤ 1000 := by
          rw [tx_size]
          have := natTxt_len (okL_drop HO.out (j + 1))
          rw [List.length_drop] at this
          omega
        have hs2 : (tx (padL 9 (itoa y))).size = 9 := by rw [tx_size]; exact padL_len (itoa_len9 ⟨gy0, gy1⟩)
        have HP := Lib.hid (itoa_len9 ⟨gy0, gy1⟩)
        rw [show (((j + 1 : Nat) : Int) - 1) = (j : Int) by omega]
        obtain ⟨sA, hsA⟩ : ∃ t, t = tx (natTxt (xs.drop (j + 1))) := ⟨_, rfl⟩
        obtain ⟨sB, hsB⟩ : ∃ t, t = tx (padL 9 (itoa y)) := ⟨_, rfl⟩
        rw [← hsA] at HS hs1 ⊢
        rw [← hsB] at HS hs2
        have HSB := Lib.hid hsB
        clear hsA hsB
        go_wp2_with fail
        refine (impl_IntText y wr ⟨by omega, by omega⟩ (ht.below hbr)).mono ?_
        rintro e w2 ⟨rfl, hq2⟩
        go_wp2_with fail
        refine (impl_Pad9 _ _ HP.out).mono ?_
        rintro e w3 ⟨rfl, hq3⟩
        rw [← HSB.out]
        have hbn := (hbr.trans (hq2.mono hbr.size)).trans (hq3.mono (hbr.trans (hq2.mono hbr.size)).size)
        go_wp2
        go_roundw
        case rel => exact ⟨j, by omega, by rw [HS.out], by go_num, hbn⟩
        case measure => simp [intOf]
      · have e : k = 0 := by omega
        subst e
        go_wp2
        go_ret
        exact ⟨rfl, hbr⟩
theorem impl_NatText (a : Option Addr) (ca : Nat) (xs : List Int) (w : World) (hx : In w a ca xs) (ht : Tab w) :
    Calls Tryz.prog 30 #[.slice a xs.length ca] w fun e w' => e = .returned (.string (tx (fNatText xs))) ∧ Below w.heap.size w w' := by
  cases h1 : natB xs
  · have HF := Lib.hid (show fNatText xs = [] by unfold fNatText; rw [h1]; rfl)
    go_enter Tryz.func30, Tryz.ntmps30
    go_wp2_with fail
    refine (impl_NatOk _ _ _ _ hx.1 hx.maxLen).mono ?_
    rintro e w1 ⟨rfl, rfl⟩
    rw [h1]
    go_wp2
    go_ret
    exact ⟨by rw [HF.out]; rfl, Below.refl _ _⟩
  · have HF := Lib.hid (show fNatText xs = natTxt xs by unfold fNatText; rw [h1]; rfl)
    go_enter Tryz.func30, Tryz.ntmps30
    go_wp2_with fail
    refine (impl_NatOk _ _ _ _ hx.1 hx.maxLen).mono ?_
    rintro e w1 ⟨rfl, rfl⟩
    rw [h1]
    go_wp2_with fail
    refine (natText_any _ _ _ _ hx h1 ht).mono ?_
    rintro e w1 ⟨rfl, hb⟩
    go_wp2
    go_ret
    exact ⟨by rw [HF.out]; rfl, hb⟩
end Go.Proofs.YtogkonenejfgmaaGreatDoor
namespace Go.Proofs.YtogkonenejfgmaaGreatDoor
open Go.RowKit
set_option maxHeartbeats 800000 in
theorem impl_IntStr (neg : Bool) (a : Option Addr) (c : Nat) (xs : List Int) (w : World) (hx : In w a c xs) (ht : Tab w) :
    Calls Tryz.prog 29 #[.agg #[.bool neg, .slice a xs.length c]] w fun e w' => e = .returned (.string (tx (fIntStr neg xs))) ∧ Below w.heap.size w w' := by
  have hA := bel_alloc w (.cells #[.bool neg, .slice a xs.length c] 25)
  have HX := Lib.hid (hx.below hA (Nat.le_refl _))
  cases h1 : intB neg xs
  · have HF := Lib.hid (show fIntStr neg xs = [] by unfold fIntStr; rw [h1]; rfl)
    go_enter Tryz.func29, Tryz.ntmps29
    go_wp2_with fail
    refine (impl_IntOk _ _ _ _ _ HX.out).mono ?_
    rintro e w1 ⟨rfl, hb1⟩
    rw [h1]
    have hB := hA.trans (hb1.mono hA.size)
    go_wp2
    go_ret
    exact ⟨by rw [HF.out]; rfl, hB⟩
  · have hs : (tx (natTxt xs)).size ≤ 1000 := by
      rw [tx_size]
      have h1' := natTxt_len (natB_ok (intB_nat h1))
      have h2 := natB_le (intB_nat h1)
      omega
    cases neg
    · have HF := Lib.hid (show fIntStr false xs = natTxt xs by unfold fIntStr; rw [h1]; rfl)
      go_enter Tryz.func29, Tryz.ntmps29
      go_wp2_with fail
      refine (impl_IntOk _ _ _ _ _ HX.out).mono ?_
      rintro e w1 ⟨rfl, hb1⟩
      rw [h1]
      have hB := hA.trans (hb1.mono hA.size)
      obtain ⟨hc, hf⟩ := bcell hb1
      have HX2 := Lib.hid (HX.out.below hb1 (Nat.le_refl _))
      go_wp2_with fail
      refine (natText_any _ _ _ _ HX2.out (intB_nat h1) (ht.below hB)).mono ?_
      rintro e w2 ⟨rfl, hb2⟩
      have hB2 := hB.trans (hb2.mono hB.size)
      go_wp2
      go_ret
      exact ⟨by rw [HF.out]; rfl, hB2⟩
    · have HF := Lib.hid (show tx [45] ++ tx (natTxt xs) = tx (fIntStr true xs) by unfold fIntStr; rw [h1, tx_app]; rfl)
      obtain ⟨sA, hsA⟩ : ∃ t, t = tx (natTxt xs) := ⟨_, rfl⟩
      rw [← hsA] at HF hs
      have HS := Lib.hid hsA
      clear hsA
      go_enter Tryz.func29, Tryz.ntmps29
      go_wp2_with fail
      refine (impl_IntOk _ _ _ _ _ HX.out).mono ?_
      rintro e w1 ⟨rfl, hb1⟩
      rw [h1]
      have hB := hA.trans (hb1.mono hA.size)
      obtain ⟨hc, hf⟩ := bcell hb1
      have HX2 := Lib.hid (HX.out.below hb1 (Nat.le_refl _))
      go_wp2_with fail
      refine (natText_any _ _ _ _ HX2.out (intB_nat h1) (ht.below hB)).mono ?_
      rintro e w2 ⟨rfl, hb2⟩
      rw [← HS.out]
      have hB2 := hB.trans (hb2.mono hB.size)
      go_wp2
      go_ret
      exact ⟨by rw [← HF.out]; rfl, hB2⟩
end Go.Proofs.YtogkonenejfgmaaGreatDoor
