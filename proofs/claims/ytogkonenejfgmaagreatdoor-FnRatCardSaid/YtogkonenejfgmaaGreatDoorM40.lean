/- The walk of RatSign (program). (Printed by gen_rat2.py.) The walk of IntText (program): strconv.Itoa by its contract. For every integer, where the library's table of powers of ten reads as it is laid. The walk of Pad (program). For every text within the reach. -/
import Derived.Test.YtogkonenejfgmaaGreatDoorM26
import Derived.Shelf.Strconv.Itoa3
import Derived.Lib.LaidTab
import Derived.Shelf.Unicode.PredsPay
import Derived.Test.YtogkonenejfgmaaGreatDoorM34
import Derived.Shelf.Strings.Repeat
namespace Go.Proofs.YtogkonenejfgmaaGreatDoor
open Go.RowKit
set_option linter.unusedVariables false
set_option linter.unusedSimpArgs false in
set_option maxRecDepth 100000 in
set_option maxHeartbeats 40000000 in
theorem impl_RatSign (n1 : Bool) (a1 : Option Addr) (c1 : Nat) (xs : List Int) (b1 : Option Addr) (d1 : Nat) (ys : List Int) (w : World) (hx : In w a1 c1 xs) (hy : In w b1 d1 ys) :
    Calls Tryz.prog 12 #[.agg #[.bool n1, .slice a1 xs.length c1, .slice b1 ys.length d1]] w fun e w' => e = .returned (.int .i64 (fRatSign n1 xs ys)) ∧ Below w.heap.size w w' := by
  have hA := (bel_alloc w (.cells #[.bool n1, .slice a1 xs.length c1, .slice b1 ys.length d1] 27))
  have hzA : w.heap.size + 1 ≤ (World.alloc w (.cells #[.bool n1, .slice a1 xs.length c1, .slice b1 ys.length d1] 27)).heap.size := by simp only [World.size_alloc]; omega
  have Q1 := (Box3.new w (.bool n1) (.slice a1 xs.length c1) (.slice b1 ys.length d1) 27 (w.heap.size) (by simp))
  have HX := Lib.hid (hx.below hA (Nat.le_refl _))
  have HY := Lib.hid (hy.below hA (Nat.le_refl _))
  cases h1 : ratB n1 xs ys
  · have hF0 := Lib.hid (show fRatSign n1 xs ys = 0 by unfold fRatSign; rw [h1]; rfl)
    go_enter Tryz.func12, Tryz.ntmps12
    go_wp2_with fail
    refine (impl_RatOk _ _ _ _ _ _ _ _ HX.out HY.out).mono ?_
    rintro e w1 ⟨rfl, hb⟩
    rw [h1]
    have zw1 := hb.size
    replace Q1 := Q1.below hb (Nat.le_refl _)
    replace HX := Lib.hid (HX.out.below hb (Nat.le_refl _))
    replace HY := Lib.hid (HY.out.below hb (Nat.le_refl _))
    have hB := hA.trans (hb.mono hA.size)
    clear hb
    go_wp2
    go_ret
    exact ⟨by rw [hF0.out]; rfl, hB⟩
  obtain ⟨m, n, rfl, rfl, lm, ln, hn0, -, -, -, -, -, hs⟩ := ratB_elim h1
  have hF := Lib.hid (show fRatSign n1 (limbs m) (limbs n) = sgnZ (zOf n1 m) by unfold fRatSign; rw [h1, hs]; rfl)
  clear hs
  go_enter Tryz.func12, Tryz.ntmps12
  go_wp2_with fail
  refine (impl_RatOk _ _ _ _ _ _ _ _ HX.out HY.out).mono ?_
  rintro e w1 ⟨rfl, hb⟩
  rw [h1]
  have zw1 := hb.size
  replace Q1 := Q1.below hb (Nat.le_refl _)
  replace HX := Lib.hid (HX.out.below hb (Nat.le_refl _))
  replace HY := Lib.hid (HY.out.below hb (Nat.le_refl _))
  have hB := hA.trans (hb.mono hA.size)
  clear hb
  have Q1k := Q1
  obtain ⟨⟨q1c0, q1c1, q1c2⟩, q1f0, q1f1, q1f2⟩ := Q1k
  go_wp2_with fail
  refine (intSign_any _ _ _ m _ (by omega)).mono ?_
  rintro e w3 ⟨rfl, hb⟩
  replace hB := hB.trans (hb.mono hB.size)
  go_wp2
  go_ret
  exact ⟨by rw [hF.out]; rfl, hB⟩
end Go.Proofs.YtogkonenejfgmaaGreatDoor
namespace Go.Proofs.YtogkonenejfgmaaGreatDoor
open Go.RowKit Go.Shelf
open Go.Lib (decDigits itoa)
def Tryz.laysItoa_ren : Go.Shelf.Ren := ⟨fun | 171 => 75 | 243 => 83 | 246 => 90 | 283 => 96 | 284 => 97 | 285 => 98 | 286 => 99 | 129 => 103 | 317 => 102 | 318 => 104 | 319 => 105 | 320 => 106 | 337 => 107 | 338 => 108 | n => n, fun | 3 => 3 | 9 => 9 | 2 => 2 | 4 => 4 | 171 => 112 | 0 => 0 | 53 => 88 | 37 => 22 | 5 => 5 | 173 => 115 | 212 => 122 | 51 => 106 | 20 => 20 | 213 => 123 | 46 => 86 | 232 => 127 | 233 => 128 | n => n, fun | 17 => 1 | 18 => 2 | 19 => 3 | n => n⟩
theorem Tryz.laysItoa : Go.Proofs.LaysM.n171 Tryz.prog Tryz.laysItoa_ren := {
  mixed := by kernel_rfl
  f129 := Tryz.func103.trans (congrArg some (by kernel_rfl))
  f171 := Tryz.func75.trans (congrArg some (by kernel_rfl))
  f243 := Tryz.func83.trans (congrArg some (by kernel_rfl))
  f246 := Tryz.func90.trans (congrArg some (by kernel_rfl))
  f283 := Tryz.func96.trans (congrArg some (by kernel_rfl))
  f284 := Tryz.func97.trans (congrArg some (by kernel_rfl))
  f285 := Tryz.func98.trans (congrArg some (by kernel_rfl))
  f286 := Tryz.func99.trans (congrArg some (by kernel_rfl))
  f317 := Tryz.func102.trans (congrArg some (by kernel_rfl))
  f318 := Tryz.func104.trans (congrArg some (by kernel_rfl))
  f319 := Tryz.func105.trans (congrArg some (by kernel_rfl))
  f320 := Tryz.func106.trans (congrArg some (by kernel_rfl))
  f337 := Tryz.func107.trans (congrArg some (by kernel_rfl))
  f338 := Tryz.func108.trans (congrArg some (by kernel_rfl))
  t0 := Tryz.underlying0
  a0 := Tryz.isAgg0
  z0 := Tryz.sizeOf0
  v0 := Tryz.zeroValue0
  t2 := Tryz.underlying2
  a2 := Tryz.isAgg2
  z2 := Tryz.sizeOf2
  v2 := Tryz.zeroValue2
  t3 := Tryz.underlying3
  a3 := Tryz.isAgg3
  z3 := Tryz.sizeOf3
  v3 := Tryz.zeroValue3
  t4 := Tryz.underlying4
  a4 := Tryz.isAgg4
  z4 := Tryz.sizeOf4
  v4 := Tryz.zeroValue4
  t5 := Tryz.underlying5
  a5 := Tryz.isAgg5
  z5 := Tryz.sizeOf5
  v5 := Tryz.zeroValue5
  t9 := Tryz.underlying9
  a9 := Tryz.isAgg9
  z9 := Tryz.sizeOf9
  v9 := Tryz.zeroValue9
  t20 := Tryz.underlying20
  a20 := Tryz.isAgg20
  z20 := Tryz.sizeOf20
  v20 := Tryz.zeroValue20
  t37 := Tryz.underlying22
  a37 := Tryz.isAgg22
  z37 := Tryz.sizeOf22
  v37 := Tryz.zeroValue22
  t46 := Tryz.underlying86
  a46 := Tryz.isAgg86
  z46 := Tryz.sizeOf86
  v46 := Tryz.zeroValue86
  t51 := Tryz.underlying106
  a51 := Tryz.isAgg106
  z51 := Tryz.sizeOf106
  v51 := Tryz.zeroValue106
  t53 := Tryz.underlying88
  a53 := Tryz.isAgg88
  z53 := Tryz.sizeOf88
  v53 := Tryz.zeroValue88
  t171 := Tryz.underlying112
  a171 := Tryz.isAgg112
  z171 := Tryz.sizeOf112
  v171 := Tryz.zeroValue112
  t173 := Tryz.underlying115
  a173 := Tryz.isAgg115
  z173 := Tryz.sizeOf115
  v173 := Tryz.zeroValue115
  t212 := Tryz.underlying122
  a212 := Tryz.isAgg122
  z212 := Tryz.sizeOf122
  v212 := Tryz.zeroValue122
  t213 := Tryz.underlying123
  a213 := Tryz.isAgg123
  z213 := Tryz.sizeOf123
  t232 := Tryz.underlying127
  a232 := Tryz.isAgg127
  z232 := Tryz.sizeOf127
  v232 := Tryz.zeroValue127
  t233 := Tryz.underlying128
  a233 := Tryz.isAgg128
  z233 := Tryz.sizeOf128
  v233 := Tryz.zeroValue128
  g17 := by kernel_rfl
  g18 := by kernel_rfl
  g19 := by kernel_rfl
  i0 := by kernel_rfl
  i2 := by kernel_rfl
  i3 := by kernel_rfl
  i4 := by kernel_rfl
  i5 := by kernel_rfl
  i9 := by kernel_rfl
  i20 := by kernel_rfl
  i37 := by kernel_rfl
  i46 := by kernel_rfl
  i51 := by kernel_rfl
  i53 := by kernel_rfl
  i171 := by kernel_rfl
  i173 := by kernel_rfl
  i212 := by kernel_rfl
  i232 := by kernel_rfl
  i233 := by kernel_rfl
  m17 := by kernel_rfl
  m18 := by kernel_rfl
  m19 := by kernel_rfl }
theorem fItoa : Tryz.laysItoa_ren.f 171 = 75 := by kernel_rfl
/-- the library's table of powers of ten reads as it is laid -/
def Tab (w : World) : Prop := Lib.TabIs Tryz.prog w "internal/strconv.uint64pow10" .u64 Lib.pow10Tab
theorem tabG : Tryz.prog.globalNamed "internal/strconv.uint64pow10" = some 1 := by kernel_rfl
theorem Tab.below {w w' : World} (h : Tab w) (hb : Below w.heap.size w w') : Tab w' := TabIs_below tabG h hb
theorem itoa_any (z : Int) (w : World) (hz : Rng z) (ht : Tab w) :
    Calls Tryz.prog 75 #[.int .i64 z] w fun e w' => e = .returned (.string (tx (itoa z))) ∧ Below w.heap.size w w' := by
  have h := Any.strconv_Itoa Tryz.laysItoa z hz.1 hz.2 w ht
  rw [fItoa] at h
  refine h.mono fun e w' ⟨he, k, os, hw⟩ => ⟨he, ?_⟩
  subst hw
  exact ⟨rfl, rfl, rfl, by simp [Sort.grow, World.drewN], fun j hj => by simp [Sort.grow, World.drewN, Array.getElem?_append_left hj]⟩
theorem impl_IntText (z : Int) (w : World) (hz : Rng z) (ht : Tab w) :
    Calls Tryz.prog 65 #[.int .i64 z] w fun e w' => e = .returned (.string (tx (itoa z))) ∧ Below w.heap.size w w' := by
  go_enter Tryz.func65, Tryz.ntmps65
  go_wp2_with fail
  refine (itoa_any _ _ hz ht).mono ?_
  rintro e w1 ⟨rfl, hb⟩
  go_wp2
  go_ret
  exact ⟨rfl, hb⟩
end Go.Proofs.YtogkonenejfgmaaGreatDoor
namespace Go.Proofs.YtogkonenejfgmaaGreatDoor
open Go.RowKit Go.Shelf
def Tryz.laysRepeat_ren : Go.Shelf.Ren := ⟨fun | 105 => 76 | 212 => 84 | 99 => 85 | 165 => 86 | 166 => 87 | 170 => 88 | 169 => 89 | 263 => 91 | 264 => 92 | 206 => 93 | 240 => 94 | 241 => 95 | 276 => 100 | 277 => 101 | n => n, fun | 9 => 9 | 3 => 3 | 4 => 4 | 20 => 20 | 0 => 0 | 46 => 86 | 109 => 92 | 5 => 5 | 72 => 97 | 76 => 101 | 51 => 106 | 146 => 107 | 53 => 88 | 148 => 109 | 70 => 95 | 37 => 22 | 75 => 100 | 127 => 111 | 164 => 117 | 80 => 104 | n => n, fun | n => n⟩
theorem Tryz.laysRepeat : Go.Proofs.Lays.n105 Tryz.prog Tryz.laysRepeat_ren := {
  mixed := by kernel_rfl
  f99 := Tryz.func85.trans (congrArg some (by kernel_rfl))
  f105 := Tryz.func76.trans (congrArg some (by kernel_rfl))
  f165 := Tryz.func86.trans (congrArg some (by kernel_rfl))
  f166 := Tryz.func87.trans (congrArg some (by kernel_rfl))
  f169 := Tryz.func89.trans (congrArg some (by kernel_rfl))
  f170 := Tryz.func88.trans (congrArg some (by kernel_rfl))
  f206 := Tryz.func93.trans (congrArg some (by kernel_rfl))
  f212 := Tryz.func84.trans (congrArg some (by kernel_rfl))
  f240 := Tryz.func94.trans (congrArg some (by kernel_rfl))
  f241 := Tryz.func95.trans (congrArg some (by kernel_rfl))
  f263 := Tryz.func91.trans (congrArg some (by kernel_rfl))
  f264 := Tryz.func92.trans (congrArg some (by kernel_rfl))
  f276 := Tryz.func100.trans (congrArg some (by kernel_rfl))
  f277 := Tryz.func101.trans (congrArg some (by kernel_rfl))
  t0 := Tryz.underlying0
  a0 := Tryz.isAgg0
  z0 := Tryz.sizeOf0
  v0 := Tryz.zeroValue0
  t3 := Tryz.underlying3
  a3 := Tryz.isAgg3
  z3 := Tryz.sizeOf3
  v3 := Tryz.zeroValue3
  t4 := Tryz.underlying4
  a4 := Tryz.isAgg4
  z4 := Tryz.sizeOf4
  v4 := Tryz.zeroValue4
  t5 := Tryz.underlying5
  a5 := Tryz.isAgg5
  z5 := Tryz.sizeOf5
  v5 := Tryz.zeroValue5
  t9 := Tryz.underlying9
  a9 := Tryz.isAgg9
  z9 := Tryz.sizeOf9
  v9 := Tryz.zeroValue9
  t20 := Tryz.underlying20
  a20 := Tryz.isAgg20
  z20 := Tryz.sizeOf20
  v20 := Tryz.zeroValue20
  t37 := Tryz.underlying22
  a37 := Tryz.isAgg22
  z37 := Tryz.sizeOf22
  v37 := Tryz.zeroValue22
  t46 := Tryz.underlying86
  a46 := Tryz.isAgg86
  z46 := Tryz.sizeOf86
  v46 := Tryz.zeroValue86
  t51 := Tryz.underlying106
  a51 := Tryz.isAgg106
  z51 := Tryz.sizeOf106
  v51 := Tryz.zeroValue106
  t53 := Tryz.underlying88
  a53 := Tryz.isAgg88
  z53 := Tryz.sizeOf88
  v53 := Tryz.zeroValue88
  t70 := Tryz.underlying95
  a70 := Tryz.isAgg95
  z70 := Tryz.sizeOf95
  v70 := Tryz.zeroValue95
  t72 := Tryz.underlying97
  a72 := Tryz.isAgg97
  z72 := Tryz.sizeOf97
  v72 := Tryz.zeroValue97
  t75 := Tryz.underlying100
  a75 := Tryz.isAgg100
  z75 := Tryz.sizeOf100
  v75 := Tryz.zeroValue100
  t76 := Tryz.underlying101
  a76 := Tryz.isAgg101
  z76 := Tryz.sizeOf101
  v76 := Tryz.zeroValue101
  t109 := Tryz.underlying92
  a109 := Tryz.isAgg92
  z109 := Tryz.sizeOf92
  v109 := Tryz.zeroValue92
  t127 := Tryz.underlying111
  a127 := Tryz.isAgg111
  z127 := Tryz.sizeOf111
  v127 := Tryz.zeroValue111
  t146 := Tryz.underlying107
  a146 := Tryz.isAgg107
  z146 := Tryz.sizeOf107
  v146 := Tryz.zeroValue107
  t148 := Tryz.underlying109
  a148 := Tryz.isAgg109
  z148 := Tryz.sizeOf109
  v148 := Tryz.zeroValue109
  t164 := Tryz.underlying117
  a164 := Tryz.isAgg117
  z164 := Tryz.sizeOf117
  v164 := Tryz.zeroValue117 }
theorem extraRepeat : Builder.Extra Tryz.prog Tryz.laysRepeat_ren := {
  sizeBuilder := by kernel_rfl
  liesBuilder := by kernel_rfl
  t5 := Tryz.laysRepeat.t5
  a5 := Tryz.laysRepeat.a5
  z5 := Tryz.laysRepeat.z5
  v5 := Tryz.laysRepeat.v5
  infoByte := by kernel_rfl
  cellsByte := by kernel_rfl
  sizeByte := by kernel_rfl
  neB5 := by decide }
theorem fRepeat : Tryz.laysRepeat_ren.f 105 = 76 := by kernel_rfl
theorem repeatL_one (c : Nat) : Lib.repeatL [48] c = List.replicate c 48 := by
  induction c with
  | zero => rfl
  | succ c ih => show [48] ++ Lib.repeatL [48] c = _; rw [ih]; rfl
theorem repeat_any (c : Nat) (w : World) (hc : c ≤ 2000) :
    Calls Tryz.prog 76 #[.string ⟨#[48]⟩, .int .i64 c] w fun e w' => e = .returned (.string ⟨(List.replicate c 48).toArray⟩) ∧ Below w.heap.size w w' := by
  have h := Any.strings_Repeat Tryz.laysRepeat extraRepeat ⟨#[48]⟩ c w (by omega) (by show 1 * c ≤ _; omega)
  rw [fRepeat] at h
  refine h.mono fun e w' ⟨he, hw⟩ => ⟨?_, hw⟩
  rw [he]
  show Ending.returned (.string ⟨(Lib.repeatL [48] c).toArray⟩) = _
  rw [repeatL_one]
theorem padB_cat (k : Nat) (s : ByteArray) : ByteArray.mk (List.replicate k 48).toArray ++ s = padB k s := by
  apply ByteArray.ext
  rw [ByteArray.data_append]
  rfl
theorem impl_Pad (s : ByteArray) (z : Int) (w : World) (hs : s.size ≤ 1099511627776) (hz : Rng z) :
    Calls Tryz.prog 66 #[.string s, .int .i64 z] w fun e w' => e = .returned (.string (fPad s z)) ∧ Below w.heap.size w w' := by
  obtain ⟨hz1, hz2⟩ := hz
  by_cases h1 : z ≤ (s.size : Int)
  · have hF : fPad s z = s := by
      unfold fPad
      split
      · rw [show z.toNat - s.size = 0 by omega, padB_zero]
      · rfl
    rw [hF]
    clear hF
    go_enter Tryz.func66, Tryz.ntmps66
    go_wp2
    go_ret
    exact ⟨rfl, Below.refl _ _⟩
  · by_cases h2 : z ≤ 2000
    · obtain ⟨c, hc⟩ : ∃ c : Nat, c = z.toNat - s.size := ⟨_, rfl⟩
      have hF := Lib.hid (show fPad s z = padB c s by rw [hc]; exact if_pos h2)
      have hcz := Lib.hid (show z - (s.size : Int) = (c : Int) by omega)
      have hc2 : c ≤ 2000 := by omega
      have hcat := Lib.hid (padB_cat c s)
      rw [hF.out]
      clear hc
      go_enter Tryz.func66, Tryz.ntmps66
      go_wp2_with fail
      rw [hcz.out]
      refine (repeat_any c _ hc2).mono ?_
      rintro e w1 ⟨rfl, hb⟩
      go_wp2
      go_ret
      exact ⟨by rw [← hcat.out]; rfl, hb⟩
    · have hF : fPad s z = s := if_neg h2
      rw [hF]
      clear hF
      go_enter Tryz.func66, Tryz.ntmps66
      go_wp2
      go_ret
      exact ⟨rfl, Below.refl _ _⟩
end Go.Proofs.YtogkonenejfgmaaGreatDoor
