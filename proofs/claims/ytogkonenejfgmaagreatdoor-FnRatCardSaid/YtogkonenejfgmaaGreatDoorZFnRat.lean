/- The law FnRat answers true at every input. -/
import Derived.Test.YtogkonenejfgmaaGreatDoorRows
import Derived.ProofKit
import Derived.OpenShut
import Derived.ShutString
import Derived.ChangeOld
import Derived.Lib.SmallJoins
import Derived.Deep.RegionWith
import Derived.Deep.RegionHeld3
import Derived.Deep.DeepCutAuto
import Derived.Test.YtogkonenejfgmaaGreatDoorTie
import Derived.Test.YtogkonenejfgmaaGreatDoorCards
import Derived.LaidMore
import Derived.MakeChecks
import Derived.Stop.LaidErr
import Derived.Stop.Joined
import Derived.SevenTiedAt
import Derived.Below
import Derived.Test.YtogkonenejfgmaaGreatDoorM28
import Derived.Test.YtogkonenejfgmaaGreatDoorM43
namespace Go.Proofs.YtogkonenejfgmaaGreatDoor.fnRat
open Go.ChangeShapes Go.WideShapes Go.ChangeAt Go.RowKit
open Go.ChangeMaps (open_string shut_string)
open Go.Lib (itoa decDigits)
set_option linter.unusedVariables false

/-- a box of the law's own with a fraction -/
def Bq (W : World) (k : Nat) (a : Option Addr) (c : Nat) (b : Option Addr) (e : Nat) (z : Int) (d : Nat) : Prop := Box3 W k (.bool (sg z).1) (.slice a (sg z).2.length c) (.slice b (limbs d).length e)
theorem Bq.below {W W1 : World} {C k : Nat} {a : Option Addr} {c : Nat} {b : Option Addr} {e : Nat} {z : Int} {d : Nat} (h : Bq W k a c b e z d) (hb : Below C W W1) (hC : W.heap.size ≤ C) : Bq W1 k a c b e z d := Box3.below h hb hC
theorem len_prod {m n j k : Nat} (h1 : (limbs m).length ≤ j) (h2 : (limbs n).length ≤ k) : (limbs (m * n)).length ≤ j + k := by
  rw [limbs_len_le] at h1 h2 ⊢
  rw [Nat.pow_add]
  exact Nat.mul_lt_mul'' h1 h2
theorem len_sum {z1 z2 : Int} {d1 d2 j k : Nat} (h1 : (sg z1).2.length ≤ j) (h2 : (limbs d2).length ≤ k) (h3 : (sg z2).2.length ≤ j) (h4 : (limbs d1).length ≤ k) : (limbs (z1 * d2 + z2 * d1).natAbs).length ≤ j + k + 1 := by
  have e1 := len_prod (m := z1.natAbs) h1 h2
  have e2 := len_prod (m := z2.natAbs) h3 h4
  have e3 : (z1 * d2 + z2 * d1).natAbs ≤ z1.natAbs * d2 + z2.natAbs * d1 := by
    have := Int.natAbs_add_le (z1 * d2) (z2 * d1)
    rwa [Int.natAbs_mul, Int.natAbs_mul, Int.natAbs_natCast, Int.natAbs_natCast] at this
  rw [limbs_len_le] at e1 e2 ⊢
  rw [Nat.pow_succ]
  omega
theorem sgm_len (z : Int) : (sg (-z)).2.length = (sg z).2.length := by rw [sg_minus]
theorem dist_eq {zR zS zT zA zB zP zQ zC : Int} {dR dS dT dA dB dP dQ dC : Nat} (qR : QQ zR dR) (qS : QQ zS dS) (qT : QQ zT dT) (qA : QQ zA dA) (qB : QQ zB dB) (qP : QQ zP dP) (qQ : QQ zQ dQ) (qC : QQ zC dC)
    (eA : zA * ((dR * dS : Nat) : Int) = (zR * dS + zS * dR) * dA) (eB : zB * ((dA * dT : Nat) : Int) = zA * zT * dB) (eP : zP * ((dR * dT : Nat) : Int) = zR * zT * dP) (eQ : zQ * ((dS * dT : Nat) : Int) = zS * zT * dQ)
    (eC : zC * ((dP * dQ : Nat) : Int) = (zP * dQ + zQ * dP) * dC) : zC = zB ∧ dC = dB := by
  have nz : ∀ {z : Int} {d : Nat}, QQ z d → (d : Int) ≠ 0 := fun h => by have := h.1; omega
  rw [Int.natCast_mul] at eA eB eP eQ eC
  have h := law_dist eA eP eQ (nz qR) (nz qS) (nz qT)
  exact qq_one qC qB (cross eC eB h.symm (Int.mul_ne_zero (nz qP) (nz qQ)) (Int.mul_ne_zero (nz qA) (nz qT)))
theorem back_eq {zR zS zA zD : Int} {dR dS dA dD : Nat} (qR : QQ zR dR) (qS : QQ zS dS) (qA : QQ zA dA) (qD : QQ zD dD) (eA : zA * ((dR * dS : Nat) : Int) = (zR * dS + zS * dR) * dA) (eD : zD * ((dA * dS : Nat) : Int) = (zA * dS + -zS * dA) * dD) : zD = zR ∧ dD = dR := by
  have nz : ∀ {z : Int} {d : Nat}, QQ z d → (d : Int) ≠ 0 := fun h => by have := h.1; omega
  rw [Int.natCast_mul] at eA eD
  have h := law_back eA
  rw [← Int.neg_mul] at h
  exact qq_one qD qR (cross eD (c1 := zR) (c2 := dR) (C := zR) (D := dR) rfl h (Int.mul_ne_zero (nz qA) (nz qS)) (nz qR))
theorem div_eq {zR zT zP zE s : Int} {dR dT dP dE : Nat} (qR : QQ zR dR) (qT : QQ zT dT) (qP : QQ zP dP) (qE : QQ zE dE) (hT : zT ≠ 0) (eP : zP * ((dR * dT : Nat) : Int) = zR * zT * dP) (hs : s * zT = zT.natAbs) (eE : zE * ((dP * zT.natAbs : Nat) : Int) = s * (zP * dT) * dE) : zE = zR ∧ dE = dR := by
  have nz : ∀ {z : Int} {d : Nat}, QQ z d → (d : Int) ≠ 0 := fun h => by have := h.1; omega
  rw [Int.natCast_mul] at eP eE
  have h := law_div eP hs
  exact qq_one qE qR (cross eE (c1 := zR) (c2 := dR) (C := zR) (D := dR) rfl h (Int.mul_ne_zero (nz qP) (by omega)) (nz qR))
theorem sgn_wrap {x y r1 r2 : Int} (h1 : sgnZ (x - y) = r1) (h2 : sgnZ (y - x) = r2) : IntKind.i64.wrap (-r2) = r1 := by
  have h : r1 = -r2 := by rw [← h1, ← h2]; unfold sgnZ; split <;> split <;> (try split) <;> (try split) <;> omega
  have hb : -1 ≤ r2 ∧ r2 ≤ 1 := by rw [← h2]; unfold sgnZ; split <;> (try split) <;> omega
  rw [h]; simp [IntKind.wrap, IntKind.bits, IntKind.signed]; omega
theorem sgn_back {zR zS zG : Int} {dR dS dG : Nat} {r1 : Int} (qR : QQ zR dR) (qS : QQ zS dS) (qG : QQ zG dG) (hr : sgnZ (zR * dS - zS * dR) = r1) (hE : zG * ((dS * dR : Nat) : Int) = (zS * dR + -zR * dS) * dG) : sgnZ zG = -r1 := by
  have hn : 0 < ((dS * dR : Nat) : Int) := by have := Nat.mul_pos qS.1 qR.1; omega
  have hd : 0 < (dG : Int) := by have := qG.1; omega
  obtain ⟨m, hm⟩ : ∃ m, zS * dR + -zR * dS = m := ⟨_, rfl⟩
  have hm2 : zR * dS - zS * dR = -m := by rw [← hm, Int.neg_mul]; omega
  rw [hm] at hE
  rw [hm2] at hr
  rw [← hr]
  generalize ((dS * dR : Nat) : Int) = N at hn hE
  unfold sgnZ
  rcases Int.lt_trichotomy zG 0 with h | h | h
  · have h1 : zG * N < 0 := Int.mul_neg_of_neg_of_pos h hn
    have h2 : m < 0 := by
      rcases Int.lt_trichotomy m 0 with k | k | k
      · exact k
      · rw [k, Int.zero_mul] at hE; omega
      · have := Int.mul_pos k hd; omega
    rw [if_pos h, if_neg (by omega), if_neg (by omega)]
  · rw [h, Int.zero_mul] at hE
    have h2 : m = 0 := by
      rcases Int.lt_trichotomy m 0 with k | k | k
      · have := Int.mul_neg_of_neg_of_pos k hd; omega
      · exact k
      · have := Int.mul_pos k hd; omega
    rw [h, h2]; rfl
  · have h1 : 0 < zG * N := Int.mul_pos h hn
    have h2 : 0 < m := by
      rcases Int.lt_trichotomy m 0 with k | k | k
      · have := Int.mul_neg_of_neg_of_pos k hd; omega
      · rw [k, Int.zero_mul] at hE; omega
      · exact k
    rw [if_neg (by omega), if_neg (by omega), if_pos (by omega)]; rfl
theorem must_yes (nb : Bool) (a : Option Addr) (l c : Nat) (b : Option Addr) (l2 e : Nat) (w : World) :
    Calls Tryz.prog 13 #[.agg #[.bool nb, .slice a l c, .slice b l2 e], .bool true] w fun en w' => en = .returned (.agg #[.bool nb, .slice a l c, .slice b l2 e]) ∧ Below w.heap.size w w' := by
  go_enter Tryz.func13, Tryz.ntmps13
  go_wp2
  refine bodyPost_ret (v := .agg #[.bool nb, .slice a l c, .slice b l2 e]) (by simp [results, Tryz.results13, go_sem]) rfl ⟨rfl, ?_⟩
  repeat (first | exact Below.refl _ _ | refine Below.setCell ?_ (by simp) _ | refine Below.alloc ?_ (by simp) _)
set_option maxRecDepth 1000000 in
set_option maxHeartbeats 40000000 in
theorem walk (a0 : Option Addr) (c0 : Nat) (xs0 : List Int) (w : World) (ht : Tab w) (hp0 : RdB w w.heap.size a0 xs0 ∧ Byt xs0 ∧ xs0.length ≤ c0 ∧ xs0.length ≤ maxLen) :
    Calls Tryz.prog 3 #[.slice a0 xs0.length c0] w fun e w' => e = .returned (.bool true) ∧ Below w.heap.size w w' := by
  obtain ⟨hr, hby, hc, hm⟩ := hp0
  unfold maxLen at hm
  by_cases hl : 1048576 < xs0.length
  · go_enter Tryz.func3, Tryz.ntmps3
    go_wp2
    go_ret
    exact ⟨rfl, Below.refl _ _⟩
  have hb0 := Below.refl w.heap.size w
  have HB := Lib.hid hby
  clear hby
  go_enter Tryz.func3, Tryz.ntmps3
  go_wp2_with fail
  refine (draw_rats a0 c0 xs0 _ hr HB.out (by omega) hc).mono ?_
  rintro e w1 ⟨⟨zR, zS, zT, dR, dS, dT, aR, cR, bR, eR, aS, cS, bS, eS, aT, cT, bT, eT, rfl, ⟨qR, lzR, ldR⟩, ⟨qS, lzS, ldS⟩, ⟨qT, lzT, ldT⟩, ⟨iR, jR⟩, ⟨iS, jS⟩, ⟨iT, jT⟩⟩, hb⟩
  replace hb0 := hb0.trans (hb.mono hb0.size)
  clear hb
  have QR : QV w1 aR cR bR eR zR dR := ⟨iR, jR, by omega, by omega, qR⟩
  have QS : QV w1 aS cS bS eS zS dS := ⟨iS, jS, by omega, by omega, qS⟩
  have QT : QV w1 aT cT bT eT zT dT := ⟨iT, jT, by omega, by omega, qT⟩
  clear iR jR iS jS iT jT
  have hb := bel_alloc w1 (.cells #[.bool (sg zR).1, .slice aR (sg zR).2.length cR, .slice bR (limbs dR).length eR] 27)
  have KR : Bq (w1.alloc (.cells #[.bool (sg zR).1, .slice aR (sg zR).2.length cR, .slice bR (limbs dR).length eR] 27)) w1.heap.size aR cR bR eR zR dR := Box3.new w1 _ _ _ _ _ rfl
  replace QR := QR.below hb (Nat.le_refl _)
  replace QS := QS.below hb (Nat.le_refl _)
  replace QT := QT.below hb (Nat.le_refl _)
  replace hb0 := hb0.trans (hb.mono hb0.size)
  clear hb
  have hb := bel_alloc (w1.alloc (.cells #[.bool (sg zR).1, .slice aR (sg zR).2.length cR, .slice bR (limbs dR).length eR] 27)) (.cells #[.bool (sg zS).1, .slice aS (sg zS).2.length cS, .slice bS (limbs dS).length eS] 27)
  have KS : Bq ((w1.alloc (.cells #[.bool (sg zR).1, .slice aR (sg zR).2.length cR, .slice bR (limbs dR).length eR] 27)).alloc (.cells #[.bool (sg zS).1, .slice aS (sg zS).2.length cS, .slice bS (limbs dS).length eS] 27)) (w1.alloc (.cells #[.bool (sg zR).1, .slice aR (sg zR).2.length cR, .slice bR (limbs dR).length eR] 27)).heap.size aS cS bS eS zS dS := Box3.new (w1.alloc (.cells #[.bool (sg zR).1, .slice aR (sg zR).2.length cR, .slice bR (limbs dR).length eR] 27)) _ _ _ _ _ rfl
  replace QR := QR.below hb (Nat.le_refl _)
  replace QS := QS.below hb (Nat.le_refl _)
  replace QT := QT.below hb (Nat.le_refl _)
  replace KR := KR.below hb (Nat.le_refl _)
  replace hb0 := hb0.trans (hb.mono hb0.size)
  clear hb
  have hb := bel_alloc ((w1.alloc (.cells #[.bool (sg zR).1, .slice aR (sg zR).2.length cR, .slice bR (limbs dR).length eR] 27)).alloc (.cells #[.bool (sg zS).1, .slice aS (sg zS).2.length cS, .slice bS (limbs dS).length eS] 27)) (.cells #[.bool (sg zT).1, .slice aT (sg zT).2.length cT, .slice bT (limbs dT).length eT] 27)
  have KT : Bq (((w1.alloc (.cells #[.bool (sg zR).1, .slice aR (sg zR).2.length cR, .slice bR (limbs dR).length eR] 27)).alloc (.cells #[.bool (sg zS).1, .slice aS (sg zS).2.length cS, .slice bS (limbs dS).length eS] 27)).alloc (.cells #[.bool (sg zT).1, .slice aT (sg zT).2.length cT, .slice bT (limbs dT).length eT] 27)) ((w1.alloc (.cells #[.bool (sg zR).1, .slice aR (sg zR).2.length cR, .slice bR (limbs dR).length eR] 27)).alloc (.cells #[.bool (sg zS).1, .slice aS (sg zS).2.length cS, .slice bS (limbs dS).length eS] 27)).heap.size aT cT bT eT zT dT := Box3.new ((w1.alloc (.cells #[.bool (sg zR).1, .slice aR (sg zR).2.length cR, .slice bR (limbs dR).length eR] 27)).alloc (.cells #[.bool (sg zS).1, .slice aS (sg zS).2.length cS, .slice bS (limbs dS).length eS] 27)) _ _ _ _ _ rfl
  replace QR := QR.below hb (Nat.le_refl _)
  replace QS := QS.below hb (Nat.le_refl _)
  replace QT := QT.below hb (Nat.le_refl _)
  replace KR := KR.below hb (Nat.le_refl _)
  replace KS := KS.below hb (Nat.le_refl _)
  replace hb0 := hb0.trans (hb.mono hb0.size)
  clear hb
  simp only [World.size_alloc] at KS KT
  obtain ⟨⟨xKR0, xKR1, xKR2⟩, -, -, -⟩ := id KR
  obtain ⟨⟨xKS0, xKS1, xKS2⟩, -, -, -⟩ := id KS
  obtain ⟨⟨xKT0, xKT1, xKT2⟩, -, -, -⟩ := id KT
  go_wp2_with fail
  generalize ((w1.alloc (.cells #[.bool (sg zR).1, .slice aR (sg zR).2.length cR, .slice bR (limbs dR).length eR] 27)).alloc (.cells #[.bool (sg zS).1, .slice aS (sg zS).2.length cS, .slice bS (limbs dS).length eS] 27)).alloc (.cells #[.bool (sg zT).1, .slice aT (sg zT).2.length cT, .slice bT (limbs dT).length eT] 27) = w2 at *
  obtain ⟨kR, hkR⟩ : ∃ b, w1.heap.size = b := ⟨_, rfl⟩
  rw [hkR] at KR KS KT ⊢
  clear hkR
  clear xKR0 xKR1 xKR2 xKS0 xKS1 xKS2 xKT0 xKT1 xKT2
  obtain ⟨kS, hkS⟩ : ∃ b, kR + 1 = b := ⟨_, rfl⟩
  rw [hkS] at KS KT ⊢
  clear hkS
  obtain ⟨kT, hkT⟩ : ∃ b, kS + 1 = b := ⟨_, rfl⟩
  rw [hkT] at KT ⊢
  clear hkT
  go_wp2_with fail
  refine (q_add _ _ _ _ _ _ _ _ _ _ _ _ _ QR QS (Nat.le_trans (len_sum lzR ldS lzS ldR) (by omega)) (Nat.le_trans (len_prod ldR ldS) (by omega))).mono ?_
  rintro e w3 ⟨⟨zA, dA, aA, cA, bA, eA, ⟨rfl, QA⟩, EA, mA, nA⟩, hb⟩
  replace QR := QR.below hb (Nat.le_refl _)
  replace QS := QS.below hb (Nat.le_refl _)
  replace QT := QT.below hb (Nat.le_refl _)
  replace KR := KR.below hb (Nat.le_refl _)
  replace KS := KS.below hb (Nat.le_refl _)
  replace KT := KT.below hb (Nat.le_refl _)
  replace hb0 := hb0.trans (hb.mono hb0.size)
  clear hb
  have lzA : (sg zA).2.length ≤ 5 := Nat.le_trans (limbs_len_mono mA) (by exact len_sum lzR ldS lzS ldR)
  have ldA : (limbs dA).length ≤ 4 := Nat.le_trans (limbs_len_mono nA) (by exact len_prod ldR ldS)
  clear mA nA
  replace EA := Lib.hid EA
  have hb := bel_alloc w3 (.cells #[.bool (sg zA).1, .slice aA (sg zA).2.length cA, .slice bA (limbs dA).length eA] 27)
  have KA : Bq (w3.alloc (.cells #[.bool (sg zA).1, .slice aA (sg zA).2.length cA, .slice bA (limbs dA).length eA] 27)) w3.heap.size aA cA bA eA zA dA := Box3.new w3 _ _ _ _ _ rfl
  replace QR := QR.below hb (Nat.le_refl _)
  replace QS := QS.below hb (Nat.le_refl _)
  replace QT := QT.below hb (Nat.le_refl _)
  replace KR := KR.below hb (Nat.le_refl _)
  replace KS := KS.below hb (Nat.le_refl _)
  replace KT := KT.below hb (Nat.le_refl _)
  replace QA := QA.below hb (Nat.le_refl _)
  replace hb0 := hb0.trans (hb.mono hb0.size)
  clear hb
  obtain ⟨⟨xKR0, xKR1, xKR2⟩, -, -, -⟩ := id KR
  obtain ⟨⟨xKS0, xKS1, xKS2⟩, -, -, -⟩ := id KS
  obtain ⟨⟨xKT0, xKT1, xKT2⟩, -, -, -⟩ := id KT
  obtain ⟨⟨xKA0, xKA1, xKA2⟩, -, -, -⟩ := id KA
  go_wp2_with fail
  generalize w3.alloc (.cells #[.bool (sg zA).1, .slice aA (sg zA).2.length cA, .slice bA (limbs dA).length eA] 27) = w4 at *
  obtain ⟨kA, hkA⟩ : ∃ b, w3.heap.size = b := ⟨_, rfl⟩
  rw [hkA] at KA ⊢
  clear hkA xKR0 xKR1 xKR2 xKS0 xKS1 xKS2 xKT0 xKT1 xKT2 xKA0 xKA1 xKA2
  go_wp2_with fail
  refine (q_mul _ _ _ _ _ _ _ _ _ _ _ _ _ QA QT (Nat.le_trans (len_prod lzA lzT) (by omega)) (Nat.le_trans (len_prod ldA ldT) (by omega))).mono ?_
  rintro e w5 ⟨⟨zB, dB, aB, cB, bB, eB, ⟨rfl, QB⟩, EB, mB, nB⟩, hb⟩
  replace QR := QR.below hb (Nat.le_refl _)
  replace QS := QS.below hb (Nat.le_refl _)
  replace QT := QT.below hb (Nat.le_refl _)
  replace KR := KR.below hb (Nat.le_refl _)
  replace KS := KS.below hb (Nat.le_refl _)
  replace KT := KT.below hb (Nat.le_refl _)
  replace QA := QA.below hb (Nat.le_refl _)
  replace KA := KA.below hb (Nat.le_refl _)
  replace hb0 := hb0.trans (hb.mono hb0.size)
  clear hb
  have lzB : (sg zB).2.length ≤ 7 := Nat.le_trans (limbs_len_mono mB) (by exact len_prod lzA lzT)
  have ldB : (limbs dB).length ≤ 6 := Nat.le_trans (limbs_len_mono nB) (by exact len_prod ldA ldT)
  clear mB nB
  replace EB := Lib.hid EB
  have hb := bel_alloc w5 (.cells #[.bool (sg zB).1, .slice aB (sg zB).2.length cB, .slice bB (limbs dB).length eB] 27)
  have KB : Bq (w5.alloc (.cells #[.bool (sg zB).1, .slice aB (sg zB).2.length cB, .slice bB (limbs dB).length eB] 27)) w5.heap.size aB cB bB eB zB dB := Box3.new w5 _ _ _ _ _ rfl
  replace QR := QR.below hb (Nat.le_refl _)
  replace QS := QS.below hb (Nat.le_refl _)
  replace QT := QT.below hb (Nat.le_refl _)
  replace KR := KR.below hb (Nat.le_refl _)
  replace KS := KS.below hb (Nat.le_refl _)
  replace KT := KT.below hb (Nat.le_refl _)
  replace QA := QA.below hb (Nat.le_refl _)
  replace KA := KA.below hb (Nat.le_refl _)
  replace QB := QB.below hb (Nat.le_refl _)
  replace hb0 := hb0.trans (hb.mono hb0.size)
  clear hb
  obtain ⟨⟨xKR0, xKR1, xKR2⟩, -, -, -⟩ := id KR
  obtain ⟨⟨xKS0, xKS1, xKS2⟩, -, -, -⟩ := id KS
  obtain ⟨⟨xKT0, xKT1, xKT2⟩, -, -, -⟩ := id KT
  obtain ⟨⟨xKA0, xKA1, xKA2⟩, -, -, -⟩ := id KA
  obtain ⟨⟨xKB0, xKB1, xKB2⟩, -, -, -⟩ := id KB
  go_wp2_with fail
  generalize w5.alloc (.cells #[.bool (sg zB).1, .slice aB (sg zB).2.length cB, .slice bB (limbs dB).length eB] 27) = w6 at *
  obtain ⟨kB, hkB⟩ : ∃ b, w5.heap.size = b := ⟨_, rfl⟩
  rw [hkB] at KB ⊢
  clear hkB xKR0 xKR1 xKR2 xKS0 xKS1 xKS2 xKT0 xKT1 xKT2 xKA0 xKA1 xKA2 xKB0 xKB1 xKB2
  go_wp2_with fail
  refine (q_mul _ _ _ _ _ _ _ _ _ _ _ _ _ QR QT (Nat.le_trans (len_prod lzR lzT) (by omega)) (Nat.le_trans (len_prod ldR ldT) (by omega))).mono ?_
  rintro e w7 ⟨⟨zP, dP, aP, cP, bP, eP, ⟨rfl, QP⟩, EP, mP, nP⟩, hb⟩
  replace QR := QR.below hb (Nat.le_refl _)
  replace QS := QS.below hb (Nat.le_refl _)
  replace QT := QT.below hb (Nat.le_refl _)
  replace KR := KR.below hb (Nat.le_refl _)
  replace KS := KS.below hb (Nat.le_refl _)
  replace KT := KT.below hb (Nat.le_refl _)
  replace QA := QA.below hb (Nat.le_refl _)
  replace KA := KA.below hb (Nat.le_refl _)
  replace QB := QB.below hb (Nat.le_refl _)
  replace KB := KB.below hb (Nat.le_refl _)
  replace hb0 := hb0.trans (hb.mono hb0.size)
  clear hb
  have lzP : (sg zP).2.length ≤ 4 := Nat.le_trans (limbs_len_mono mP) (by exact len_prod lzR lzT)
  have ldP : (limbs dP).length ≤ 4 := Nat.le_trans (limbs_len_mono nP) (by exact len_prod ldR ldT)
  clear mP nP
  replace EP := Lib.hid EP
  have hb := bel_alloc w7 (.cells #[.bool (sg zP).1, .slice aP (sg zP).2.length cP, .slice bP (limbs dP).length eP] 27)
  have KP : Bq (w7.alloc (.cells #[.bool (sg zP).1, .slice aP (sg zP).2.length cP, .slice bP (limbs dP).length eP] 27)) w7.heap.size aP cP bP eP zP dP := Box3.new w7 _ _ _ _ _ rfl
  replace QR := QR.below hb (Nat.le_refl _)
  replace QS := QS.below hb (Nat.le_refl _)
  replace QT := QT.below hb (Nat.le_refl _)
  replace KR := KR.below hb (Nat.le_refl _)
  replace KS := KS.below hb (Nat.le_refl _)
  replace KT := KT.below hb (Nat.le_refl _)
  replace QA := QA.below hb (Nat.le_refl _)
  replace KA := KA.below hb (Nat.le_refl _)
  replace QB := QB.below hb (Nat.le_refl _)
  replace KB := KB.below hb (Nat.le_refl _)
  replace QP := QP.below hb (Nat.le_refl _)
  replace hb0 := hb0.trans (hb.mono hb0.size)
  clear hb
  obtain ⟨⟨xKR0, xKR1, xKR2⟩, -, -, -⟩ := id KR
  obtain ⟨⟨xKS0, xKS1, xKS2⟩, -, -, -⟩ := id KS
  obtain ⟨⟨xKT0, xKT1, xKT2⟩, -, -, -⟩ := id KT
  obtain ⟨⟨xKA0, xKA1, xKA2⟩, -, -, -⟩ := id KA
  obtain ⟨⟨xKB0, xKB1, xKB2⟩, -, -, -⟩ := id KB
  obtain ⟨⟨xKP0, xKP1, xKP2⟩, -, -, -⟩ := id KP
  go_wp2_with fail
  generalize w7.alloc (.cells #[.bool (sg zP).1, .slice aP (sg zP).2.length cP, .slice bP (limbs dP).length eP] 27) = w8 at *
  obtain ⟨kP, hkP⟩ : ∃ b, w7.heap.size = b := ⟨_, rfl⟩
  rw [hkP] at KP ⊢
  clear hkP xKR0 xKR1 xKR2 xKS0 xKS1 xKS2 xKT0 xKT1 xKT2 xKA0 xKA1 xKA2 xKB0 xKB1 xKB2 xKP0 xKP1 xKP2
  go_wp2_with fail
  refine (q_mul _ _ _ _ _ _ _ _ _ _ _ _ _ QS QT (Nat.le_trans (len_prod lzS lzT) (by omega)) (Nat.le_trans (len_prod ldS ldT) (by omega))).mono ?_
  rintro e w9 ⟨⟨zQ, dQ, aQ, cQ, bQ, eQ, ⟨rfl, QQ⟩, EQ, mQ, nQ⟩, hb⟩
  replace QR := QR.below hb (Nat.le_refl _)
  replace QS := QS.below hb (Nat.le_refl _)
  replace QT := QT.below hb (Nat.le_refl _)
  replace KR := KR.below hb (Nat.le_refl _)
  replace KS := KS.below hb (Nat.le_refl _)
  replace KT := KT.below hb (Nat.le_refl _)
  replace QA := QA.below hb (Nat.le_refl _)
  replace KA := KA.below hb (Nat.le_refl _)
  replace QB := QB.below hb (Nat.le_refl _)
  replace KB := KB.below hb (Nat.le_refl _)
  replace QP := QP.below hb (Nat.le_refl _)
  replace KP := KP.below hb (Nat.le_refl _)
  replace hb0 := hb0.trans (hb.mono hb0.size)
  clear hb
  have lzQ : (sg zQ).2.length ≤ 4 := Nat.le_trans (limbs_len_mono mQ) (by exact len_prod lzS lzT)
  have ldQ : (limbs dQ).length ≤ 4 := Nat.le_trans (limbs_len_mono nQ) (by exact len_prod ldS ldT)
  clear mQ nQ
  replace EQ := Lib.hid EQ
  have hb := bel_alloc w9 (.cells #[.bool (sg zQ).1, .slice aQ (sg zQ).2.length cQ, .slice bQ (limbs dQ).length eQ] 27)
  have KQ : Bq (w9.alloc (.cells #[.bool (sg zQ).1, .slice aQ (sg zQ).2.length cQ, .slice bQ (limbs dQ).length eQ] 27)) w9.heap.size aQ cQ bQ eQ zQ dQ := Box3.new w9 _ _ _ _ _ rfl
  replace QR := QR.below hb (Nat.le_refl _)
  replace QS := QS.below hb (Nat.le_refl _)
  replace QT := QT.below hb (Nat.le_refl _)
  replace KR := KR.below hb (Nat.le_refl _)
  replace KS := KS.below hb (Nat.le_refl _)
  replace KT := KT.below hb (Nat.le_refl _)
  replace QA := QA.below hb (Nat.le_refl _)
  replace KA := KA.below hb (Nat.le_refl _)
  replace QB := QB.below hb (Nat.le_refl _)
  replace KB := KB.below hb (Nat.le_refl _)
  replace QP := QP.below hb (Nat.le_refl _)
  replace KP := KP.below hb (Nat.le_refl _)
  replace QQ := QQ.below hb (Nat.le_refl _)
  replace hb0 := hb0.trans (hb.mono hb0.size)
  clear hb
  obtain ⟨⟨xKR0, xKR1, xKR2⟩, -, -, -⟩ := id KR
  obtain ⟨⟨xKS0, xKS1, xKS2⟩, -, -, -⟩ := id KS
  obtain ⟨⟨xKT0, xKT1, xKT2⟩, -, -, -⟩ := id KT
  obtain ⟨⟨xKA0, xKA1, xKA2⟩, -, -, -⟩ := id KA
  obtain ⟨⟨xKB0, xKB1, xKB2⟩, -, -, -⟩ := id KB
  obtain ⟨⟨xKP0, xKP1, xKP2⟩, -, -, -⟩ := id KP
  obtain ⟨⟨xKQ0, xKQ1, xKQ2⟩, -, -, -⟩ := id KQ
  go_wp2_with fail
  generalize w9.alloc (.cells #[.bool (sg zQ).1, .slice aQ (sg zQ).2.length cQ, .slice bQ (limbs dQ).length eQ] 27) = w10 at *
  obtain ⟨kQ, hkQ⟩ : ∃ b, w9.heap.size = b := ⟨_, rfl⟩
  rw [hkQ] at KQ ⊢
  clear hkQ xKR0 xKR1 xKR2 xKS0 xKS1 xKS2 xKT0 xKT1 xKT2 xKA0 xKA1 xKA2 xKB0 xKB1 xKB2 xKP0 xKP1 xKP2 xKQ0 xKQ1 xKQ2
  go_wp2_with fail
  refine (q_add _ _ _ _ _ _ _ _ _ _ _ _ _ QP QQ (Nat.le_trans (len_sum lzP ldQ lzQ ldP) (by omega)) (Nat.le_trans (len_prod ldP ldQ) (by omega))).mono ?_
  rintro e w11 ⟨⟨zC, dC, aC, cC, bC, eC, ⟨rfl, QC⟩, EC, mC, nC⟩, hb⟩
  replace QR := QR.below hb (Nat.le_refl _)
  replace QS := QS.below hb (Nat.le_refl _)
  replace QT := QT.below hb (Nat.le_refl _)
  replace KR := KR.below hb (Nat.le_refl _)
  replace KS := KS.below hb (Nat.le_refl _)
  replace KT := KT.below hb (Nat.le_refl _)
  replace QA := QA.below hb (Nat.le_refl _)
  replace KA := KA.below hb (Nat.le_refl _)
  replace QB := QB.below hb (Nat.le_refl _)
  replace KB := KB.below hb (Nat.le_refl _)
  replace QP := QP.below hb (Nat.le_refl _)
  replace KP := KP.below hb (Nat.le_refl _)
  replace QQ := QQ.below hb (Nat.le_refl _)
  replace KQ := KQ.below hb (Nat.le_refl _)
  replace hb0 := hb0.trans (hb.mono hb0.size)
  clear hb
  have lzC : (sg zC).2.length ≤ 9 := Nat.le_trans (limbs_len_mono mC) (by exact len_sum lzP ldQ lzQ ldP)
  have ldC : (limbs dC).length ≤ 8 := Nat.le_trans (limbs_len_mono nC) (by exact len_prod ldP ldQ)
  clear mC nC
  obtain ⟨hz, hd⟩ := dist_eq QR.qq QS.qq QT.qq QA.qq QB.qq QP.qq QQ.qq QC.qq EA.out EB.out EP.out EQ.out EC
  replace hz := hz.symm
  replace hd := hd.symm
  subst hz
  subst hd
  clear EB EQ EC
  clear KQ QQ
  have hb := bel_alloc w11 (.cells #[.bool (sg zB).1, .slice aC (sg zB).2.length cC, .slice bC (limbs dB).length eC] 27)
  have KC : Bq (w11.alloc (.cells #[.bool (sg zB).1, .slice aC (sg zB).2.length cC, .slice bC (limbs dB).length eC] 27)) w11.heap.size aC cC bC eC zB dB := Box3.new w11 _ _ _ _ _ rfl
  replace QR := QR.below hb (Nat.le_refl _)
  replace QS := QS.below hb (Nat.le_refl _)
  replace QT := QT.below hb (Nat.le_refl _)
  replace KR := KR.below hb (Nat.le_refl _)
  replace KS := KS.below hb (Nat.le_refl _)
  replace KT := KT.below hb (Nat.le_refl _)
  replace QA := QA.below hb (Nat.le_refl _)
  replace KA := KA.below hb (Nat.le_refl _)
  replace QB := QB.below hb (Nat.le_refl _)
  replace KB := KB.below hb (Nat.le_refl _)
  replace QP := QP.below hb (Nat.le_refl _)
  replace KP := KP.below hb (Nat.le_refl _)
  replace QC := QC.below hb (Nat.le_refl _)
  replace hb0 := hb0.trans (hb.mono hb0.size)
  clear hb
  obtain ⟨⟨xKR0, xKR1, xKR2⟩, -, -, -⟩ := id KR
  obtain ⟨⟨xKS0, xKS1, xKS2⟩, -, -, -⟩ := id KS
  obtain ⟨⟨xKT0, xKT1, xKT2⟩, -, -, -⟩ := id KT
  obtain ⟨⟨xKA0, xKA1, xKA2⟩, -, -, -⟩ := id KA
  obtain ⟨⟨xKB0, xKB1, xKB2⟩, -, -, -⟩ := id KB
  obtain ⟨⟨xKP0, xKP1, xKP2⟩, -, -, -⟩ := id KP
  obtain ⟨⟨xKC0, xKC1, xKC2⟩, -, -, -⟩ := id KC
  go_upto_region 9 with fail
  generalize w11.alloc (.cells #[.bool (sg zB).1, .slice aC (sg zB).2.length cC, .slice bC (limbs dB).length eC] 27) = w12 at *
  obtain ⟨kC, hkC⟩ : ∃ b, w11.heap.size = b := ⟨_, rfl⟩
  rw [hkC] at KC ⊢
  clear hkC xKR0 xKR1 xKR2 xKS0 xKS1 xKS2 xKT0 xKT1 xKT2 xKA0 xKA1 xKA2 xKB0 xKB1 xKB2 xKP0 xKP1 xKP2 xKC0 xKC1 xKC2
  obtain ⟨r1, hr1⟩ : ∃ r, sgnZ (zR * dS - zS * dR) = r := ⟨_, rfl⟩
  obtain ⟨r2, hr2⟩ : ∃ r, sgnZ (zS * dR - zR * dS) = r := ⟨_, rfl⟩
  have hw : IntKind.i64.wrap (-r2) = r1 := sgn_wrap hr1 hr2
  replace hr1 := Lib.hid hr1
  replace hr2 := Lib.hid hr2
  have bx0 := Below.refl w12.heap.size w12
  have S0 : w12.cell? ⟨kB, 0, none⟩ = some (.bool (sg zB).1) ∧ w12.cell? ⟨kB, 1, none⟩ = some (.slice aB (sg zB).2.length cB) ∧ w12.cell? ⟨kB, 2, none⟩ = some (.slice bB (limbs dB).length eB) ∧ w12.cell? ⟨kC, 0, none⟩ = some (.bool (sg zB).1) ∧ w12.cell? ⟨kC, 1, none⟩ = some (.slice aC (sg zB).2.length cC) ∧ w12.cell? ⟨kC, 2, none⟩ = some (.slice bC (limbs dB).length eC) ∧ w12.cell? ⟨kR, 0, none⟩ = some (.bool (sg zR).1) ∧ w12.cell? ⟨kR, 1, none⟩ = some (.slice aR (sg zR).2.length cR) ∧ w12.cell? ⟨kR, 2, none⟩ = some (.slice bR (limbs dR).length eR) ∧ w12.cell? ⟨kS, 0, none⟩ = some (.bool (sg zS).1) ∧ w12.cell? ⟨kS, 1, none⟩ = some (.slice aS (sg zS).2.length cS) ∧ w12.cell? ⟨kS, 2, none⟩ = some (.slice bS (limbs dS).length eS) := ⟨KB.1.1, KB.1.2.1, KB.1.2.2, KC.1.1, KC.1.2.1, KC.1.2.2, KR.1.1, KR.1.2.1, KR.1.2.2, KS.1.1, KS.1.2.1, KS.1.2.2⟩
  go_region_held3 (fun w' => w'.cell? ⟨kB, 0, none⟩ = some (.bool (sg zB).1) ∧ w'.cell? ⟨kB, 1, none⟩ = some (.slice aB (sg zB).2.length cB) ∧ w'.cell? ⟨kB, 2, none⟩ = some (.slice bB (limbs dB).length eB) ∧ w'.cell? ⟨kC, 0, none⟩ = some (.bool (sg zB).1) ∧ w'.cell? ⟨kC, 1, none⟩ = some (.slice aC (sg zB).2.length cC) ∧ w'.cell? ⟨kC, 2, none⟩ = some (.slice bC (limbs dB).length eC) ∧ w'.cell? ⟨kR, 0, none⟩ = some (.bool (sg zR).1) ∧ w'.cell? ⟨kR, 1, none⟩ = some (.slice aR (sg zR).2.length cR) ∧ w'.cell? ⟨kR, 2, none⟩ = some (.slice bR (limbs dR).length eR) ∧ w'.cell? ⟨kS, 0, none⟩ = some (.bool (sg zS).1) ∧ w'.cell? ⟨kS, 1, none⟩ = some (.slice aS (sg zS).2.length cS) ∧ w'.cell? ⟨kS, 2, none⟩ = some (.slice bS (limbs dS).length eS))
    (first | exact ⟨(KB.below f3 (Nat.le_refl _)).1.1, (KB.below f3 (Nat.le_refl _)).1.2.1, (KB.below f3 (Nat.le_refl _)).1.2.2, (KC.below f3 (Nat.le_refl _)).1.1, (KC.below f3 (Nat.le_refl _)).1.2.1, (KC.below f3 (Nat.le_refl _)).1.2.2, (KR.below f3 (Nat.le_refl _)).1.1, (KR.below f3 (Nat.le_refl _)).1.2.1, (KR.below f3 (Nat.le_refl _)).1.2.2, (KS.below f3 (Nat.le_refl _)).1.1, (KS.below f3 (Nat.le_refl _)).1.2.1, (KS.below f3 (Nat.le_refl _)).1.2.2⟩ | exact ⟨(KB.below f2 (Nat.le_refl _)).1.1, (KB.below f2 (Nat.le_refl _)).1.2.1, (KB.below f2 (Nat.le_refl _)).1.2.2, (KC.below f2 (Nat.le_refl _)).1.1, (KC.below f2 (Nat.le_refl _)).1.2.1, (KC.below f2 (Nat.le_refl _)).1.2.2, (KR.below f2 (Nat.le_refl _)).1.1, (KR.below f2 (Nat.le_refl _)).1.2.1, (KR.below f2 (Nat.le_refl _)).1.2.2, (KS.below f2 (Nat.le_refl _)).1.1, (KS.below f2 (Nat.le_refl _)).1.2.1, (KS.below f2 (Nat.le_refl _)).1.2.2⟩ | exact ⟨(KB.below f1 (Nat.le_refl _)).1.1, (KB.below f1 (Nat.le_refl _)).1.2.1, (KB.below f1 (Nat.le_refl _)).1.2.2, (KC.below f1 (Nat.le_refl _)).1.1, (KC.below f1 (Nat.le_refl _)).1.2.1, (KC.below f1 (Nat.le_refl _)).1.2.2, (KR.below f1 (Nat.le_refl _)).1.1, (KR.below f1 (Nat.le_refl _)).1.2.1, (KR.below f1 (Nat.le_refl _)).1.2.2, (KS.below f1 (Nat.le_refl _)).1.1, (KS.below f1 (Nat.le_refl _)).1.2.1, (KS.below f1 (Nat.le_refl _)).1.2.2⟩ | exact S0)
    (first | (have g3 := f2; go_at_call 7; refine (q_cmp _ _ _ _ _ _ _ _ _ _ _ _ _ _ (QS.below (f2) (Nat.le_refl _)) (QR.below (f2) (Nat.le_refl _)) hr2.out).mono ?_; rintro e v3 ⟨rfl, hq3⟩; have f3 := (f2).trans (hq3.mono (f2).size)) | (have g2 := f1; go_at_call 7; refine (q_cmp _ _ _ _ _ _ _ _ _ _ _ _ _ _ (QR.below (f1) (Nat.le_refl _)) (QS.below (f1) (Nat.le_refl _)) hr1.out).mono ?_; rintro e v2 ⟨rfl, hq2⟩; have f2 := (f1).trans (hq2.mono (f1).size)) | (go_at_call 7; refine (q_cmp0 _ _ _ _ _ _ _ _ _ _ _ (QB.below (bx0.drew) (Nat.le_refl _)) (QC.below (bx0.drew) (Nat.le_refl _))).mono ?_; rintro e v1 ⟨rfl, hq1⟩; have f1 := (bx0.drew).trans (hq1.mono (bx0.drew).size)))
  have hb := f3
  replace QR := QR.below hb (Nat.le_refl _)
  replace QS := QS.below hb (Nat.le_refl _)
  replace QT := QT.below hb (Nat.le_refl _)
  replace KR := KR.below hb (Nat.le_refl _)
  replace KS := KS.below hb (Nat.le_refl _)
  replace KT := KT.below hb (Nat.le_refl _)
  replace QA := QA.below hb (Nat.le_refl _)
  replace KA := KA.below hb (Nat.le_refl _)
  replace QB := QB.below hb (Nat.le_refl _)
  replace KB := KB.below hb (Nat.le_refl _)
  replace QP := QP.below hb (Nat.le_refl _)
  replace KP := KP.below hb (Nat.le_refl _)
  replace QC := QC.below hb (Nat.le_refl _)
  replace KC := KC.below hb (Nat.le_refl _)
  replace hb0 := hb0.trans (hb.mono hb0.size)
  clear hb S0 bx0 f1 hq1 f2 hq2 f3 hq3
  clear KB KC QB QC
  obtain ⟨⟨xKR0, xKR1, xKR2⟩, -, -, -⟩ := id KR
  obtain ⟨⟨xKS0, xKS1, xKS2⟩, -, -, -⟩ := id KS
  obtain ⟨⟨xKT0, xKT1, xKT2⟩, -, -, -⟩ := id KT
  obtain ⟨⟨xKA0, xKA1, xKA2⟩, -, -, -⟩ := id KA
  obtain ⟨⟨xKP0, xKP1, xKP2⟩, -, -, -⟩ := id KP
  go_wp2_with fail
  refine (q_sub _ _ _ _ _ _ _ _ _ _ _ _ _ QA QS (Nat.le_trans (len_sum (j := 5) (k := 4) (z2 := -zS) lzA (by omega) (by rw [sgm_len]; omega) ldA) (by omega)) (Nat.le_trans (len_prod ldA ldS) (by omega))).mono ?_
  rintro e w13 ⟨⟨zD, dD, aD, cD, bD, eD, ⟨rfl, QD⟩, ED, mD, nD⟩, hb⟩
  replace QR := QR.below hb (Nat.le_refl _)
  replace QS := QS.below hb (Nat.le_refl _)
  replace QT := QT.below hb (Nat.le_refl _)
  replace KR := KR.below hb (Nat.le_refl _)
  replace KS := KS.below hb (Nat.le_refl _)
  replace KT := KT.below hb (Nat.le_refl _)
  replace QA := QA.below hb (Nat.le_refl _)
  replace KA := KA.below hb (Nat.le_refl _)
  replace QP := QP.below hb (Nat.le_refl _)
  replace KP := KP.below hb (Nat.le_refl _)
  replace hb0 := hb0.trans (hb.mono hb0.size)
  clear hb
  have lzD : (sg zD).2.length ≤ 10 := Nat.le_trans (limbs_len_mono mD) (by exact len_sum (j := 5) (k := 4) (z2 := -zS) lzA (by omega) (by rw [sgm_len]; omega) ldA)
  have ldD : (limbs dD).length ≤ 6 := Nat.le_trans (limbs_len_mono nD) (by exact len_prod ldA ldS)
  clear mD nD
  obtain ⟨hz, hd⟩ := back_eq QR.qq QS.qq QA.qq QD.qq EA.out ED
  replace hz := hz.symm
  replace hd := hd.symm
  subst hz
  subst hd
  clear EA ED
  clear xKR0 xKR1 xKR2 xKS0 xKS1 xKS2 xKT0 xKT1 xKT2 xKA0 xKA1 xKA2 xKP0 xKP1 xKP2
  clear KA QA
  have hb := bel_alloc w13 (.cells #[.bool (sg zR).1, .slice aD (sg zR).2.length cD, .slice bD (limbs dR).length eD] 27)
  have KD : Bq (w13.alloc (.cells #[.bool (sg zR).1, .slice aD (sg zR).2.length cD, .slice bD (limbs dR).length eD] 27)) w13.heap.size aD cD bD eD zR dR := Box3.new w13 _ _ _ _ _ rfl
  replace QR := QR.below hb (Nat.le_refl _)
  replace QS := QS.below hb (Nat.le_refl _)
  replace QT := QT.below hb (Nat.le_refl _)
  replace KR := KR.below hb (Nat.le_refl _)
  replace KS := KS.below hb (Nat.le_refl _)
  replace KT := KT.below hb (Nat.le_refl _)
  replace QP := QP.below hb (Nat.le_refl _)
  replace KP := KP.below hb (Nat.le_refl _)
  replace QD := QD.below hb (Nat.le_refl _)
  replace hb0 := hb0.trans (hb.mono hb0.size)
  clear hb
  obtain ⟨⟨xKR0, xKR1, xKR2⟩, -, -, -⟩ := id KR
  obtain ⟨⟨xKS0, xKS1, xKS2⟩, -, -, -⟩ := id KS
  obtain ⟨⟨xKT0, xKT1, xKT2⟩, -, -, -⟩ := id KT
  obtain ⟨⟨xKP0, xKP1, xKP2⟩, -, -, -⟩ := id KP
  obtain ⟨⟨xKD0, xKD1, xKD2⟩, -, -, -⟩ := id KD
  go_wp2_with fail
  generalize w13.alloc (.cells #[.bool (sg zR).1, .slice aD (sg zR).2.length cD, .slice bD (limbs dR).length eD] 27) = w14 at *
  obtain ⟨kD, hkD⟩ : ∃ b, w13.heap.size = b := ⟨_, rfl⟩
  rw [hkD] at KD ⊢
  clear hkD xKR0 xKR1 xKR2 xKS0 xKS1 xKS2 xKT0 xKT1 xKT2 xKP0 xKP1 xKP2 xKD0 xKD1 xKD2
  obtain ⟨⟨xKR0, xKR1, xKR2⟩, -, -, -⟩ := id KR
  obtain ⟨⟨xKS0, xKS1, xKS2⟩, -, -, -⟩ := id KS
  obtain ⟨⟨xKT0, xKT1, xKT2⟩, -, -, -⟩ := id KT
  obtain ⟨⟨xKP0, xKP1, xKP2⟩, -, -, -⟩ := id KP
  obtain ⟨⟨xKD0, xKD1, xKD2⟩, -, -, -⟩ := id KD
  go_wp2_with fail
  refine (q_text _ _ _ _ _ _ _ QR (ht.below hb0)).mono ?_
  rintro e w15 ⟨rfl, hb⟩
  replace QR := QR.below hb (Nat.le_refl _)
  replace QS := QS.below hb (Nat.le_refl _)
  replace QT := QT.below hb (Nat.le_refl _)
  replace KR := KR.below hb (Nat.le_refl _)
  replace KS := KS.below hb (Nat.le_refl _)
  replace KT := KT.below hb (Nat.le_refl _)
  replace QP := QP.below hb (Nat.le_refl _)
  replace KP := KP.below hb (Nat.le_refl _)
  replace QD := QD.below hb (Nat.le_refl _)
  replace KD := KD.below hb (Nat.le_refl _)
  replace hb0 := hb0.trans (hb.mono hb0.size)
  clear hb
  clear xKR0 xKR1 xKR2 xKS0 xKS1 xKS2 xKT0 xKT1 xKT2 xKP0 xKP1 xKP2 xKD0 xKD1 xKD2
  go_wp2_with fail
  refine (q_read zR dR _ (by omega) (by omega) QR.qq).mono ?_
  rintro e w16 ⟨⟨aX, cX, bX, eX, rfl, QX⟩, hb⟩
  replace QR := QR.below hb (Nat.le_refl _)
  replace QS := QS.below hb (Nat.le_refl _)
  replace QT := QT.below hb (Nat.le_refl _)
  replace KR := KR.below hb (Nat.le_refl _)
  replace KS := KS.below hb (Nat.le_refl _)
  replace KT := KT.below hb (Nat.le_refl _)
  replace QP := QP.below hb (Nat.le_refl _)
  replace KP := KP.below hb (Nat.le_refl _)
  replace QD := QD.below hb (Nat.le_refl _)
  replace KD := KD.below hb (Nat.le_refl _)
  replace hb0 := hb0.trans (hb.mono hb0.size)
  clear hb
  have hb := bel_alloc w16 (.cells #[.bool (sg zR).1, .slice aX (sg zR).2.length cX, .slice bX (limbs dR).length eX] 27)
  have KX : Bq (w16.alloc (.cells #[.bool (sg zR).1, .slice aX (sg zR).2.length cX, .slice bX (limbs dR).length eX] 27)) w16.heap.size aX cX bX eX zR dR := Box3.new w16 _ _ _ _ _ rfl
  replace QR := QR.below hb (Nat.le_refl _)
  replace QS := QS.below hb (Nat.le_refl _)
  replace QT := QT.below hb (Nat.le_refl _)
  replace KR := KR.below hb (Nat.le_refl _)
  replace KS := KS.below hb (Nat.le_refl _)
  replace KT := KT.below hb (Nat.le_refl _)
  replace QP := QP.below hb (Nat.le_refl _)
  replace KP := KP.below hb (Nat.le_refl _)
  replace QD := QD.below hb (Nat.le_refl _)
  replace KD := KD.below hb (Nat.le_refl _)
  replace QX := QX.below hb (Nat.le_refl _)
  replace hb0 := hb0.trans (hb.mono hb0.size)
  clear hb
  obtain ⟨⟨xKR0, xKR1, xKR2⟩, -, -, -⟩ := id KR
  obtain ⟨⟨xKS0, xKS1, xKS2⟩, -, -, -⟩ := id KS
  obtain ⟨⟨xKT0, xKT1, xKT2⟩, -, -, -⟩ := id KT
  obtain ⟨⟨xKP0, xKP1, xKP2⟩, -, -, -⟩ := id KP
  obtain ⟨⟨xKD0, xKD1, xKD2⟩, -, -, -⟩ := id KD
  obtain ⟨⟨xKX0, xKX1, xKX2⟩, -, -, -⟩ := id KX
  go_wp2_with fail
  generalize w16.alloc (.cells #[.bool (sg zR).1, .slice aX (sg zR).2.length cX, .slice bX (limbs dR).length eX] 27) = w17 at *
  obtain ⟨kX, hkX⟩ : ∃ b, w16.heap.size = b := ⟨_, rfl⟩
  rw [hkX] at KX ⊢
  clear hkX xKR0 xKR1 xKR2 xKS0 xKS1 xKS2 xKT0 xKT1 xKT2 xKP0 xKP1 xKP2 xKD0 xKD1 xKD2 xKX0 xKX1 xKX2
  obtain ⟨⟨xKR0, xKR1, xKR2⟩, -, -, -⟩ := id KR
  obtain ⟨⟨xKS0, xKS1, xKS2⟩, -, -, -⟩ := id KS
  obtain ⟨⟨xKT0, xKT1, xKT2⟩, -, -, -⟩ := id KT
  obtain ⟨⟨xKP0, xKP1, xKP2⟩, -, -, -⟩ := id KP
  obtain ⟨⟨xKD0, xKD1, xKD2⟩, -, -, -⟩ := id KD
  obtain ⟨⟨xKX0, xKX1, xKX2⟩, -, -, -⟩ := id KX
  go_wp2_with fail
  refine (q_cmp0 _ _ _ _ _ _ _ _ _ _ _ QD QR).mono ?_
  rintro e w18 ⟨rfl, hb⟩
  replace QR := QR.below hb (Nat.le_refl _)
  replace QS := QS.below hb (Nat.le_refl _)
  replace QT := QT.below hb (Nat.le_refl _)
  replace KR := KR.below hb (Nat.le_refl _)
  replace KS := KS.below hb (Nat.le_refl _)
  replace KT := KT.below hb (Nat.le_refl _)
  replace QP := QP.below hb (Nat.le_refl _)
  replace KP := KP.below hb (Nat.le_refl _)
  replace QD := QD.below hb (Nat.le_refl _)
  replace KD := KD.below hb (Nat.le_refl _)
  replace QX := QX.below hb (Nat.le_refl _)
  replace KX := KX.below hb (Nat.le_refl _)
  replace hb0 := hb0.trans (hb.mono hb0.size)
  clear hb
  clear xKR0 xKR1 xKR2 xKS0 xKS1 xKS2 xKT0 xKT1 xKT2 xKP0 xKP1 xKP2 xKD0 xKD1 xKD2 xKX0 xKX1 xKX2
  obtain ⟨⟨xKR0, xKR1, xKR2⟩, -, -, -⟩ := id KR
  obtain ⟨⟨xKS0, xKS1, xKS2⟩, -, -, -⟩ := id KS
  obtain ⟨⟨xKT0, xKT1, xKT2⟩, -, -, -⟩ := id KT
  obtain ⟨⟨xKP0, xKP1, xKP2⟩, -, -, -⟩ := id KP
  obtain ⟨⟨xKD0, xKD1, xKD2⟩, -, -, -⟩ := id KD
  obtain ⟨⟨xKX0, xKX1, xKX2⟩, -, -, -⟩ := id KX
  go_wp2_with fail
  refine (q_cmp0 _ _ _ _ _ _ _ _ _ _ _ QX QR).mono ?_
  rintro e w19 ⟨rfl, hb⟩
  replace QR := QR.below hb (Nat.le_refl _)
  replace QS := QS.below hb (Nat.le_refl _)
  replace QT := QT.below hb (Nat.le_refl _)
  replace KR := KR.below hb (Nat.le_refl _)
  replace KS := KS.below hb (Nat.le_refl _)
  replace KT := KT.below hb (Nat.le_refl _)
  replace QP := QP.below hb (Nat.le_refl _)
  replace KP := KP.below hb (Nat.le_refl _)
  replace QD := QD.below hb (Nat.le_refl _)
  replace KD := KD.below hb (Nat.le_refl _)
  replace QX := QX.below hb (Nat.le_refl _)
  replace KX := KX.below hb (Nat.le_refl _)
  replace hb0 := hb0.trans (hb.mono hb0.size)
  clear hb
  clear xKR0 xKR1 xKR2 xKS0 xKS1 xKS2 xKT0 xKT1 xKT2 xKP0 xKP1 xKP2 xKD0 xKD1 xKD2 xKX0 xKX1 xKX2
  clear KD KX QD QX hw
  by_cases hT : zT = 0
  · replace hT := Lib.hid hT
    obtain ⟨⟨xKR0, xKR1, xKR2⟩, -, -, -⟩ := id KR
    obtain ⟨⟨xKS0, xKS1, xKS2⟩, -, -, -⟩ := id KS
    obtain ⟨⟨xKT0, xKT1, xKT2⟩, -, -, -⟩ := id KT
    obtain ⟨⟨xKP0, xKP1, xKP2⟩, -, -, -⟩ := id KP
    go_wp2_with fail
    refine (q_div0 _ _ _ _ _ _ _ _ _ _ _ _ _ QP QT hT.out).mono ?_
    rintro e w20 ⟨⟨aZ, cZ, bZ, eZ, rfl⟩, hb⟩
    replace QR := QR.below hb (Nat.le_refl _)
    replace QS := QS.below hb (Nat.le_refl _)
    replace QT := QT.below hb (Nat.le_refl _)
    replace KR := KR.below hb (Nat.le_refl _)
    replace KS := KS.below hb (Nat.le_refl _)
    replace KT := KT.below hb (Nat.le_refl _)
    replace QP := QP.below hb (Nat.le_refl _)
    replace KP := KP.below hb (Nat.le_refl _)
    replace hb0 := hb0.trans (hb.mono hb0.size)
    clear hb
    clear xKR0 xKR1 xKR2 xKS0 xKS1 xKS2 xKT0 xKT1 xKT2 xKP0 xKP1 xKP2
    have hb := bel_alloc w20 (.cells #[.bool false, .slice aZ 0 cZ, .slice bZ 0 eZ] 27)
    have KE := Box3.new w20 (.bool false) (.slice aZ 0 cZ) (.slice bZ 0 eZ) 27 _ rfl
    replace QR := QR.below hb (Nat.le_refl _)
    replace QS := QS.below hb (Nat.le_refl _)
    replace QT := QT.below hb (Nat.le_refl _)
    replace KR := KR.below hb (Nat.le_refl _)
    replace KS := KS.below hb (Nat.le_refl _)
    replace KT := KT.below hb (Nat.le_refl _)
    replace QP := QP.below hb (Nat.le_refl _)
    replace KP := KP.below hb (Nat.le_refl _)
    replace hb0 := hb0.trans (hb.mono hb0.size)
    clear hb
    obtain ⟨⟨xKR0, xKR1, xKR2⟩, -, -, -⟩ := id KR
    obtain ⟨⟨xKS0, xKS1, xKS2⟩, -, -, -⟩ := id KS
    obtain ⟨⟨xKT0, xKT1, xKT2⟩, -, -, -⟩ := id KT
    obtain ⟨⟨xKP0, xKP1, xKP2⟩, -, -, -⟩ := id KP
    go_upto_region 16 with fail
    generalize w20.alloc (.cells #[.bool false, .slice aZ 0 cZ, .slice bZ 0 eZ] 27) = w21 at *
    obtain ⟨kE, hkE⟩ : ∃ b, w20.heap.size = b := ⟨_, rfl⟩
    rw [hkE] at KE ⊢
    clear hkE
    clear xKR0 xKR1 xKR2 xKS0 xKS1 xKS2 xKT0 xKT1 xKT2 xKP0 xKP1 xKP2
    obtain ⟨sT, hsT⟩ : ∃ r, sgnZ zT = r := ⟨_, rfl⟩
    have hbne : (sT != 0) = false := by rw [← hsT, hT.out]; rfl
    have hbeq : (sT == 0) = true := by rw [← hsT, hT.out]; rfl
    have hbnn : (!(sT != 0)) = true := by rw [hbne]; rfl
    have hbde : decide (sT = 0) = true := by rw [← hsT, hT.out]; rfl
    have hbdn : (!decide (sT = 0)) = false := by rw [hbde]; rfl
    replace hsT := Lib.hid hsT
    have bx0 := Below.refl w21.heap.size w21
    obtain ⟨⟨xKR0, xKR1, xKR2⟩, -, -, -⟩ := id KR
    obtain ⟨⟨xKS0, xKS1, xKS2⟩, -, -, -⟩ := id KS
    obtain ⟨⟨xKT0, xKT1, xKT2⟩, -, -, -⟩ := id KT
    obtain ⟨⟨xKP0, xKP1, xKP2⟩, -, -, -⟩ := id KP
    have S0 : w21.cell? ⟨kT, 0, none⟩ = some (.bool (sg zT).1) ∧ w21.cell? ⟨kT, 1, none⟩ = some (.slice aT (sg zT).2.length cT) ∧ w21.cell? ⟨kT, 2, none⟩ = some (.slice bT (limbs dT).length eT) ∧ w21.cell? ⟨kR, 0, none⟩ = some (.bool (sg zR).1) ∧ w21.cell? ⟨kR, 1, none⟩ = some (.slice aR (sg zR).2.length cR) ∧ w21.cell? ⟨kR, 2, none⟩ = some (.slice bR (limbs dR).length eR) ∧ w21.cell? ⟨kS, 0, none⟩ = some (.bool (sg zS).1) ∧ w21.cell? ⟨kS, 1, none⟩ = some (.slice aS (sg zS).2.length cS) ∧ w21.cell? ⟨kS, 2, none⟩ = some (.slice bS (limbs dS).length eS) := ⟨KT.1.1, KT.1.2.1, KT.1.2.2, KR.1.1, KR.1.2.1, KR.1.2.2, KS.1.1, KS.1.2.1, KS.1.2.2⟩
    refine wp_region_held_drew (S := fun w' => w'.cell? ⟨kT, 0, none⟩ = some (.bool (sg zT).1) ∧ w'.cell? ⟨kT, 1, none⟩ = some (.slice aT (sg zT).2.length cT) ∧ w'.cell? ⟨kT, 2, none⟩ = some (.slice bT (limbs dT).length eT) ∧ w'.cell? ⟨kR, 0, none⟩ = some (.bool (sg zR).1) ∧ w'.cell? ⟨kR, 1, none⟩ = some (.slice aR (sg zR).2.length cR) ∧ w'.cell? ⟨kR, 2, none⟩ = some (.slice bR (limbs dR).length eR) ∧ w'.cell? ⟨kS, 0, none⟩ = some (.bool (sg zS).1) ∧ w'.cell? ⟨kS, 1, none⟩ = some (.slice aS (sg zS).2.length cS) ∧ w'.cell? ⟨kS, 2, none⟩ = some (.slice bS (limbs dS).length eS)) (by kernel_rfl) S0 (fun hHeld => ?_)
    refine wpAnyH_take (i := 0) (oi := _) (v := ?v0) rfl (by kernel_rfl) (by kernel_rfl) (by kernel_rfl) (fun _ _ _ h => h) (Or.inl ⟨by rfl, ?hy0⟩) (by assumption) ?rest0
    case hy0 => (intro w hSw; (try dsimp only at hSw); go_simp; (all_goals with_reducible rfl))
    try simp only [Act.put, List.setIfInBounds_toArray, List.set_cons_zero, List.set_cons_succ, List.getElem_toArray, List.getElem_cons_zero]
    refine wpAnyH_take (i := 1) (oi := _) (v := ?v1) rfl (by kernel_rfl) (by kernel_rfl) (by kernel_rfl) (fun _ _ _ h => h) (Or.inl ⟨by rfl, ?hy1⟩) (by assumption) ?rest1
    case hy1 => (intro w hSw; (try dsimp only at hSw); go_simp; (all_goals with_reducible rfl))
    try simp only [Act.put, List.setIfInBounds_toArray, List.set_cons_zero, List.set_cons_succ, List.getElem_toArray, List.getElem_cons_zero, List.getElem_cons_succ]
    refine wpAnyH_ready (rs := [2]) (by kernel_rfl) (by simp) ?_
    refine AllReadyH.cons (o := _) rfl (fun K hK => ?_) AllReadyH.nil
    go_simp
    go_at_call 12; refine (q_sign _ _ _ _ _ _ sT _ (QT.below (bx0.drew) (Nat.le_refl _)) hsT.out).mono ?_; rintro e v1 ⟨rfl, hq1⟩; have f1 := (bx0.drew).trans (hq1.mono (bx0.drew).size)
    go_wp2_with fail
    refine hK.out _ _ ⟨(KT.below f1 (Nat.le_refl _)).1.1, (KT.below f1 (Nat.le_refl _)).1.2.1, (KT.below f1 (Nat.le_refl _)).1.2.2, (KR.below f1 (Nat.le_refl _)).1.1, (KR.below f1 (Nat.le_refl _)).1.2.1, (KR.below f1 (Nat.le_refl _)).1.2.2, (KS.below f1 (Nat.le_refl _)).1.1, (KS.below f1 (Nat.le_refl _)).1.2.1, (KS.below f1 (Nat.le_refl _)).1.2.2⟩ (fun hHeld => ?_)
    clear hK K
    try simp only [Act.put, List.setIfInBounds_toArray, List.set_cons_zero, List.set_cons_succ, List.getElem_toArray, List.getElem_cons_zero, List.getElem_cons_succ]
    refine wpAnyH_take (i := 3) (oi := _) (v := ?v3) rfl (by kernel_rfl) (by kernel_rfl) (by kernel_rfl) (fun _ _ _ h => h) (Or.inl ⟨by rfl, ?hy3⟩) (by assumption) ?rest3
    case hy3 => (intro w hSw; (try dsimp only at hSw); go_simp; (all_goals with_reducible rfl))
    try simp only [Act.put, List.setIfInBounds_toArray, List.set_cons_zero, List.set_cons_succ, List.getElem_toArray, List.getElem_cons_zero, List.getElem_cons_succ]
    refine wpAnyH_take (i := 4) (oi := _) (v := ?v4) rfl (by kernel_rfl) (by kernel_rfl) (by kernel_rfl) (fun _ _ _ h => h) (Or.inl ⟨by rfl, ?hy4⟩) (by assumption) ?rest4
    case hy4 => (intro w hSw; (try dsimp only at hSw); go_simp; (all_goals with_reducible rfl))
    try simp only [Act.put, List.setIfInBounds_toArray, List.set_cons_zero, List.set_cons_succ, List.getElem_toArray, List.getElem_cons_zero, List.getElem_cons_succ]
    refine wpAnyH_take (i := 5) (oi := _) (v := ?v5) rfl (by kernel_rfl) (by kernel_rfl) (by kernel_rfl) (fun _ _ _ h => h) (Or.inl ⟨by rfl, ?hy5⟩) (by assumption) ?rest5
    case hy5 => (intro w hSw; (try dsimp only at hSw); go_simp; (all_goals with_reducible rfl))
    try simp only [Act.put, List.setIfInBounds_toArray, List.set_cons_zero, List.set_cons_succ, List.getElem_toArray, List.getElem_cons_zero, List.getElem_cons_succ]
    refine wpAnyH_take (i := 6) (oi := _) (v := ?v6) rfl (by kernel_rfl) (by kernel_rfl) (by kernel_rfl) (fun _ _ _ h => h) (Or.inl ⟨by rfl, ?hy6⟩) (by assumption) ?rest6
    case hy6 => (intro w hSw; (try dsimp only at hSw); go_simp; (all_goals with_reducible rfl))
    try simp only [Act.put, List.setIfInBounds_toArray, List.set_cons_zero, List.set_cons_succ, List.getElem_toArray, List.getElem_cons_zero, List.getElem_cons_succ]
    refine wpAnyH_take (i := 7) (oi := _) (v := ?v7) rfl (by kernel_rfl) (by kernel_rfl) (by kernel_rfl) (fun _ _ _ h => h) (Or.inl ⟨by rfl, ?hy7⟩) (by assumption) ?rest7
    case hy7 => (intro w hSw; (try dsimp only at hSw); go_simp; (all_goals with_reducible rfl))
    try simp only [Act.put, List.setIfInBounds_toArray, List.set_cons_zero, List.set_cons_succ, List.getElem_toArray, List.getElem_cons_zero, List.getElem_cons_succ]
    refine wpAnyH_take (i := 8) (oi := _) (v := ?v8) rfl (by kernel_rfl) (by kernel_rfl) (by kernel_rfl) (fun _ _ _ h => h) (Or.inl ⟨by rfl, ?hy8⟩) (by assumption) ?rest8
    case hy8 => (intro w hSw; (try dsimp only at hSw); go_simp; (all_goals with_reducible rfl))
    try simp only [Act.put, List.setIfInBounds_toArray, List.set_cons_zero, List.set_cons_succ, List.getElem_toArray, List.getElem_cons_zero, List.getElem_cons_succ]
    refine wpAnyH_take (i := 9) (oi := _) (v := undef) rfl (by kernel_rfl) (by kernel_rfl) (by kernel_rfl) (fun _ _ _ h => h) (Or.inr ⟨by rfl, rfl⟩) (by assumption) ?_
    try simp only [Act.put, List.setIfInBounds_toArray, List.set_cons_zero, List.set_cons_succ, List.getElem_toArray, List.getElem_cons_zero, List.getElem_cons_succ]
    refine wpAnyH_take (i := 10) (oi := _) (v := undef) rfl (by kernel_rfl) (by kernel_rfl) (by kernel_rfl) (fun _ _ _ h => h) (Or.inr ⟨by rfl, rfl⟩) (by assumption) ?_
    try simp only [Act.put, List.setIfInBounds_toArray, List.set_cons_zero, List.set_cons_succ, List.getElem_toArray, List.getElem_cons_zero, List.getElem_cons_succ]
    refine wpAnyH_take (i := 11) (oi := _) (v := undef) rfl (by kernel_rfl) (by kernel_rfl) (by kernel_rfl) (fun _ _ _ h => h) (Or.inr ⟨by rfl, rfl⟩) (by assumption) ?_
    try simp only [Act.put, List.setIfInBounds_toArray, List.set_cons_zero, List.set_cons_succ, List.getElem_toArray, List.getElem_cons_zero, List.getElem_cons_succ]
    refine wpAnyH_take (i := 12) (oi := _) (v := undef) rfl (by kernel_rfl) (by kernel_rfl) (by kernel_rfl) (fun _ _ _ h => h) (Or.inr ⟨by rfl, rfl⟩) (by assumption) ?_
    try simp only [Act.put, List.setIfInBounds_toArray, List.set_cons_zero, List.set_cons_succ, List.getElem_toArray, List.getElem_cons_zero, List.getElem_cons_succ]
    refine wpAnyH_take (i := 13) (oi := _) (v := ?v13) rfl (by kernel_rfl) (by kernel_rfl) (by kernel_rfl) (fun _ _ _ h => h) (Or.inl ⟨by rfl, ?hy13⟩) (by assumption) ?rest13
    case hy13 => (intro w hSw; (try dsimp only at hSw); go_simp; (all_goals with_reducible rfl))
    try simp only [Act.put, List.setIfInBounds_toArray, List.set_cons_zero, List.set_cons_succ, List.getElem_toArray, List.getElem_cons_zero, List.getElem_cons_succ]
    refine wpAnyH_take (i := 14) (oi := _) (v := ?v14) rfl (by kernel_rfl) (by kernel_rfl) (by kernel_rfl) (fun _ _ _ h => h) (Or.inl ⟨by rfl, ?hy14⟩) (by assumption) ?rest14
    case hy14 => (intro w hSw; (try dsimp only at hSw); go_simp; (all_goals with_reducible rfl))
    try simp only [Act.put, List.setIfInBounds_toArray, List.set_cons_zero, List.set_cons_succ, List.getElem_toArray, List.getElem_cons_zero, List.getElem_cons_succ]
    refine wpAnyH_take (i := 15) (oi := _) (v := ?v15) rfl (by kernel_rfl) (by kernel_rfl) (by kernel_rfl) (fun _ _ _ h => h) (Or.inl ⟨by rfl, ?hy15⟩) (by assumption) ?rest15
    case hy15 => (intro w hSw; (try dsimp only at hSw); go_simp; (all_goals with_reducible rfl))
    try simp only [Act.put, List.setIfInBounds_toArray, List.set_cons_zero, List.set_cons_succ, List.getElem_toArray, List.getElem_cons_zero, List.getElem_cons_succ]
    refine wpAnyH_take (i := 16) (oi := _) (v := ?v16) rfl (by kernel_rfl) (by kernel_rfl) (by kernel_rfl) (fun _ _ _ h => h) (Or.inl ⟨by rfl, ?hy16⟩) (by assumption) ?rest16
    case hy16 => (intro w hSw; (try dsimp only at hSw); go_simp; (all_goals with_reducible rfl))
    try simp only [Act.put, List.setIfInBounds_toArray, List.set_cons_zero, List.set_cons_succ, List.getElem_toArray, List.getElem_cons_zero, List.getElem_cons_succ]
    refine wpAnyH_take (i := 17) (oi := _) (v := ?v17) rfl (by kernel_rfl) (by kernel_rfl) (by kernel_rfl) (fun _ _ _ h => h) (Or.inl ⟨by rfl, ?hy17⟩) (by assumption) ?rest17
    case hy17 => (intro w hSw; (try dsimp only at hSw); go_simp; (all_goals with_reducible rfl))
    try simp only [Act.put, List.setIfInBounds_toArray, List.set_cons_zero, List.set_cons_succ, List.getElem_toArray, List.getElem_cons_zero, List.getElem_cons_succ]
    refine wpAnyH_take (i := 20) (oi := _) (v := ?v20) rfl (by kernel_rfl) (by kernel_rfl) (by kernel_rfl) (fun _ _ _ h => h) (Or.inl ⟨by rfl, ?hy20⟩) (by assumption) ?rest20
    case hy20 => (intro w hSw; (try dsimp only at hSw); go_simp; (all_goals with_reducible rfl))
    try simp only [Act.put, List.setIfInBounds_toArray, List.set_cons_zero, List.set_cons_succ, List.getElem_toArray, List.getElem_cons_zero, List.getElem_cons_succ]
    refine wpAnyH_take (i := 21) (oi := _) (v := ?v21) rfl (by kernel_rfl) (by kernel_rfl) (by kernel_rfl) (fun _ _ _ h => h) (Or.inl ⟨by rfl, ?hy21⟩) (by assumption) ?rest21
    case hy21 => (intro w hSw; (try dsimp only at hSw); go_simp; (all_goals with_reducible rfl))
    try simp only [Act.put, List.setIfInBounds_toArray, List.set_cons_zero, List.set_cons_succ, List.getElem_toArray, List.getElem_cons_zero, List.getElem_cons_succ]
    refine wpAnyH_ready (rs := [18]) (by kernel_rfl) (by simp) ?_
    refine AllReadyH.cons (o := _) rfl (fun K hK => ?_) AllReadyH.nil
    go_simp
    go_at_call 7; refine (q_cmp _ _ _ _ _ _ _ _ _ _ _ _ _ _ (QR.below (f1) (Nat.le_refl _)) (QS.below (f1) (Nat.le_refl _)) hr1.out).mono ?_; rintro e v2 ⟨rfl, hq2⟩; have f2 := (f1).trans (hq2.mono (f1).size)
    go_wp2_with fail
    refine hK.out _ _ ⟨(KT.below f2 (Nat.le_refl _)).1.1, (KT.below f2 (Nat.le_refl _)).1.2.1, (KT.below f2 (Nat.le_refl _)).1.2.2, (KR.below f2 (Nat.le_refl _)).1.1, (KR.below f2 (Nat.le_refl _)).1.2.1, (KR.below f2 (Nat.le_refl _)).1.2.2, (KS.below f2 (Nat.le_refl _)).1.1, (KS.below f2 (Nat.le_refl _)).1.2.1, (KS.below f2 (Nat.le_refl _)).1.2.2⟩ (fun hHeld => ?_)
    clear hK K
    try simp only [Act.put, List.setIfInBounds_toArray, List.set_cons_zero, List.set_cons_succ, List.getElem_toArray, List.getElem_cons_zero, List.getElem_cons_succ]
    refine wpAnyH_take (i := 19) (oi := _) (v := ?v19) rfl (by kernel_rfl) (by kernel_rfl) (by kernel_rfl) (fun _ _ _ h => h) (Or.inl ⟨by rfl, ?hy19⟩) (by assumption) ?rest19
    case hy19 => (intro w hSw; (try dsimp only at hSw); go_simp; (all_goals with_reducible rfl))
    try simp only [Act.put, List.setIfInBounds_toArray, List.set_cons_zero, List.set_cons_succ, List.getElem_toArray, List.getElem_cons_zero, List.getElem_cons_succ]
    refine wpAnyH_ready (rs := [22]) (by kernel_rfl) (by simp) ?_
    refine AllReadyH.cons (o := _) rfl (fun K hK => ?_) AllReadyH.nil
    go_simp
    go_at_call 8; refine (q_sub _ _ _ _ _ _ _ _ _ _ _ _ _ (QS.below (f2) (Nat.le_refl _)) (QR.below (f2) (Nat.le_refl _)) (Nat.le_trans (len_sum (j := 2) (k := 2) (z2 := -zR) lzS ldR (by rw [sgm_len]; exact lzR) ldS) (by omega)) (Nat.le_trans (len_prod ldS ldR) (by omega))).mono ?_; rintro e v3 ⟨⟨zG, dG, aG, cG, bG, eG, ⟨rfl, QG⟩, EG, mG, nG⟩, hq3⟩; have f3 := (f2).trans (hq3.mono (f2).size)
    go_wp2_with fail
    refine hK.out _ _ ⟨(KT.below f3 (Nat.le_refl _)).1.1, (KT.below f3 (Nat.le_refl _)).1.2.1, (KT.below f3 (Nat.le_refl _)).1.2.2, (KR.below f3 (Nat.le_refl _)).1.1, (KR.below f3 (Nat.le_refl _)).1.2.1, (KR.below f3 (Nat.le_refl _)).1.2.2, (KS.below f3 (Nat.le_refl _)).1.1, (KS.below f3 (Nat.le_refl _)).1.2.1, (KS.below f3 (Nat.le_refl _)).1.2.2⟩ (fun hHeld => ?_)
    clear hK K
    try simp only [Act.put, List.setIfInBounds_toArray, List.set_cons_zero, List.set_cons_succ, List.getElem_toArray, List.getElem_cons_zero, List.getElem_cons_succ]
    refine wpAnyH_take (i := 23) (oi := _) (v := ?v23) rfl (by kernel_rfl) (by kernel_rfl) (by kernel_rfl) (fun _ _ _ h => h) (Or.inl ⟨by rfl, ?hy23⟩) (by assumption) ?rest23
    case hy23 => (intro w hSw; (try dsimp only at hSw); go_simp; (all_goals with_reducible rfl))
    try simp only [Act.put, List.setIfInBounds_toArray, List.set_cons_zero, List.set_cons_succ, List.getElem_toArray, List.getElem_cons_zero, List.getElem_cons_succ]
    refine wpAnyH_take (i := 24) (oi := _) (v := ?v24) rfl (by kernel_rfl) (by kernel_rfl) (by kernel_rfl) (fun _ _ _ h => h) (Or.inl ⟨by rfl, ?hy24⟩) (by assumption) ?rest24
    case hy24 => (intro w hSw; (try dsimp only at hSw); go_simp; (all_goals with_reducible rfl))
    try simp only [Act.put, List.setIfInBounds_toArray, List.set_cons_zero, List.set_cons_succ, List.getElem_toArray, List.getElem_cons_zero, List.getElem_cons_succ]
    refine wpAnyH_ready (rs := [25]) (by kernel_rfl) (by simp) ?_
    refine AllReadyH.cons (o := _) rfl (fun K hK => ?_) AllReadyH.nil
    go_simp
    go_at_call 13; refine (must_yes _ _ _ _ _ _ _ _).mono ?_; rintro e v4 ⟨rfl, hq4⟩; have f4 := (f3).trans (hq4.mono (f3).size)
    go_wp2_with fail
    refine hK.out _ _ ⟨(KT.below f4 (Nat.le_refl _)).1.1, (KT.below f4 (Nat.le_refl _)).1.2.1, (KT.below f4 (Nat.le_refl _)).1.2.2, (KR.below f4 (Nat.le_refl _)).1.1, (KR.below f4 (Nat.le_refl _)).1.2.1, (KR.below f4 (Nat.le_refl _)).1.2.2, (KS.below f4 (Nat.le_refl _)).1.1, (KS.below f4 (Nat.le_refl _)).1.2.1, (KS.below f4 (Nat.le_refl _)).1.2.2⟩ (fun hHeld => ?_)
    clear hK K
    try simp only [Act.put, List.setIfInBounds_toArray, List.set_cons_zero, List.set_cons_succ, List.getElem_toArray, List.getElem_cons_zero, List.getElem_cons_succ]
    refine wpAnyH_ready (rs := [26]) (by kernel_rfl) (by simp) ?_
    refine AllReadyH.cons (o := _) rfl (fun K hK => ?_) AllReadyH.nil
    go_simp
    go_at_call 12; refine (q_sign _ _ _ _ _ _ (-r1) _ (QG.below hq4 (Nat.le_refl _)) (sgn_back QR.qq QS.qq QG.qq hr1.out EG)).mono ?_; rintro e v5 ⟨rfl, hq5⟩; have f5 := (f4).trans (hq5.mono (f4).size)
    go_wp2_with fail
    refine hK.out _ _ ⟨(KT.below f5 (Nat.le_refl _)).1.1, (KT.below f5 (Nat.le_refl _)).1.2.1, (KT.below f5 (Nat.le_refl _)).1.2.2, (KR.below f5 (Nat.le_refl _)).1.1, (KR.below f5 (Nat.le_refl _)).1.2.1, (KR.below f5 (Nat.le_refl _)).1.2.2, (KS.below f5 (Nat.le_refl _)).1.1, (KS.below f5 (Nat.le_refl _)).1.2.1, (KS.below f5 (Nat.le_refl _)).1.2.2⟩ (fun hHeld => ?_)
    clear hK K
    try simp only [Act.put, List.setIfInBounds_toArray, List.set_cons_zero, List.set_cons_succ, List.getElem_toArray, List.getElem_cons_zero, List.getElem_cons_succ]
    refine wpAnyH_take (i := 27) (oi := _) (v := ?v27) rfl (by kernel_rfl) (by kernel_rfl) (by kernel_rfl) (fun _ _ _ h => h) (Or.inl ⟨by rfl, ?hy27⟩) (by assumption) ?rest27
    case hy27 => (intro w hSw; (try dsimp only at hSw); go_simp; (all_goals with_reducible rfl))
    try simp only [Act.put, List.setIfInBounds_toArray, List.set_cons_zero, List.set_cons_succ, List.getElem_toArray, List.getElem_cons_zero, List.getElem_cons_succ]
    refine wpAnyH_take (i := 28) (oi := _) (v := ?v28) rfl (by kernel_rfl) (by kernel_rfl) (by kernel_rfl) (fun _ _ _ h => h) (Or.inl ⟨by rfl, ?hy28⟩) (by assumption) ?rest28
    case hy28 => (intro w hSw; (try dsimp only at hSw); go_simp; (all_goals with_reducible rfl))
    try simp only [Act.put, List.setIfInBounds_toArray, List.set_cons_zero, List.set_cons_succ, List.getElem_toArray, List.getElem_cons_zero, List.getElem_cons_succ]
    refine wpAnyH_take (i := 29) (oi := _) (v := ?v29) rfl (by kernel_rfl) (by kernel_rfl) (by kernel_rfl) (fun _ _ _ h => h) (Or.inl ⟨by rfl, ?hy29⟩) (by assumption) ?rest29
    case hy29 => (intro w hSw; (try dsimp only at hSw); go_simp; (all_goals with_reducible rfl))
    try simp only [Act.put, List.setIfInBounds_toArray, List.set_cons_zero, List.set_cons_succ, List.getElem_toArray, List.getElem_cons_zero, List.getElem_cons_succ]
    refine wpAnyH_take (i := 30) (oi := _) (v := ?v30) rfl (by kernel_rfl) (by kernel_rfl) (by kernel_rfl) (fun _ _ _ h => h) (Or.inl ⟨by rfl, ?hy30⟩) (by assumption) ?rest30
    case hy30 => (intro w hSw; (try dsimp only at hSw); go_simp; (all_goals with_reducible rfl))
    try simp only [Act.put, List.setIfInBounds_toArray, List.set_cons_zero, List.set_cons_succ, List.getElem_toArray, List.getElem_cons_zero, List.getElem_cons_succ]
    refine wpAnyH_done (by kernel_rfl) ?_ _
    all_goals (go_wp2; go_ret; exact ⟨by simp, hb0.trans (f5.mono hb0.size)⟩)
  · obtain ⟨⟨xKR0, xKR1, xKR2⟩, -, -, -⟩ := id KR
    obtain ⟨⟨xKS0, xKS1, xKS2⟩, -, -, -⟩ := id KS
    obtain ⟨⟨xKT0, xKT1, xKT2⟩, -, -, -⟩ := id KT
    obtain ⟨⟨xKP0, xKP1, xKP2⟩, -, -, -⟩ := id KP
    go_wp2_with fail
    refine (q_div _ _ _ _ _ _ _ _ _ _ _ _ _ QP QT hT (Nat.le_trans (len_prod lzP ldT) (by omega)) (Nat.le_trans (len_prod ldP lzT) (by omega))).mono ?_
    rintro e w20 ⟨⟨zE, dE, aE, cE, bE, eE, ⟨rfl, QE⟩, EE, mE, nE⟩, hb⟩
    replace QR := QR.below hb (Nat.le_refl _)
    replace QS := QS.below hb (Nat.le_refl _)
    replace QT := QT.below hb (Nat.le_refl _)
    replace KR := KR.below hb (Nat.le_refl _)
    replace KS := KS.below hb (Nat.le_refl _)
    replace KT := KT.below hb (Nat.le_refl _)
    replace QP := QP.below hb (Nat.le_refl _)
    replace KP := KP.below hb (Nat.le_refl _)
    replace hb0 := hb0.trans (hb.mono hb0.size)
    clear hb
    clear mE nE
    obtain ⟨s, hs1, hs2⟩ := div_sign zP zT dT
    rw [hs1] at EE
    obtain ⟨hz, hd⟩ := div_eq QR.qq QT.qq QP.qq QE.qq hT EP.out hs2 EE
    replace hz := hz.symm
    replace hd := hd.symm
    subst hz
    subst hd
    clear EE hs1 hs2 s
    clear xKR0 xKR1 xKR2 xKS0 xKS1 xKS2 xKT0 xKT1 xKT2 xKP0 xKP1 xKP2
    have hb := bel_alloc w20 (.cells #[.bool (sg zR).1, .slice aE (sg zR).2.length cE, .slice bE (limbs dR).length eE] 27)
    have KE : Bq (w20.alloc (.cells #[.bool (sg zR).1, .slice aE (sg zR).2.length cE, .slice bE (limbs dR).length eE] 27)) w20.heap.size aE cE bE eE zR dR := Box3.new w20 _ _ _ _ _ rfl
    replace QR := QR.below hb (Nat.le_refl _)
    replace QS := QS.below hb (Nat.le_refl _)
    replace QT := QT.below hb (Nat.le_refl _)
    replace KR := KR.below hb (Nat.le_refl _)
    replace KS := KS.below hb (Nat.le_refl _)
    replace KT := KT.below hb (Nat.le_refl _)
    replace QP := QP.below hb (Nat.le_refl _)
    replace KP := KP.below hb (Nat.le_refl _)
    replace QE := QE.below hb (Nat.le_refl _)
    replace hb0 := hb0.trans (hb.mono hb0.size)
    clear hb
    obtain ⟨⟨xKR0, xKR1, xKR2⟩, -, -, -⟩ := id KR
    obtain ⟨⟨xKS0, xKS1, xKS2⟩, -, -, -⟩ := id KS
    obtain ⟨⟨xKT0, xKT1, xKT2⟩, -, -, -⟩ := id KT
    obtain ⟨⟨xKP0, xKP1, xKP2⟩, -, -, -⟩ := id KP
    obtain ⟨⟨xKE0, xKE1, xKE2⟩, -, -, -⟩ := id KE
    go_upto_region 16 with fail
    generalize w20.alloc (.cells #[.bool (sg zR).1, .slice aE (sg zR).2.length cE, .slice bE (limbs dR).length eE] 27) = w21 at *
    obtain ⟨kE, hkE⟩ : ∃ b, w20.heap.size = b := ⟨_, rfl⟩
    rw [hkE] at KE ⊢
    clear hkE xKR0 xKR1 xKR2 xKS0 xKS1 xKS2 xKT0 xKT1 xKT2 xKP0 xKP1 xKP2 xKE0 xKE1 xKE2
    obtain ⟨sT, hsT⟩ : ∃ r, sgnZ zT = r := ⟨_, rfl⟩
    have hbne : (sT != 0) = true := by rw [← hsT]; unfold sgnZ; split <;> (try split) <;> simp_all
    replace hsT := Lib.hid hsT
    replace hT := Lib.hid hT
    have bx0 := Below.refl w21.heap.size w21
    have S0 : w21.cell? ⟨kT, 0, none⟩ = some (.bool (sg zT).1) ∧ w21.cell? ⟨kT, 1, none⟩ = some (.slice aT (sg zT).2.length cT) ∧ w21.cell? ⟨kT, 2, none⟩ = some (.slice bT (limbs dT).length eT) ∧ w21.cell? ⟨kE, 0, none⟩ = some (.bool (sg zR).1) ∧ w21.cell? ⟨kE, 1, none⟩ = some (.slice aE (sg zR).2.length cE) ∧ w21.cell? ⟨kE, 2, none⟩ = some (.slice bE (limbs dR).length eE) ∧ w21.cell? ⟨kR, 0, none⟩ = some (.bool (sg zR).1) ∧ w21.cell? ⟨kR, 1, none⟩ = some (.slice aR (sg zR).2.length cR) ∧ w21.cell? ⟨kR, 2, none⟩ = some (.slice bR (limbs dR).length eR) ∧ w21.cell? ⟨kS, 0, none⟩ = some (.bool (sg zS).1) ∧ w21.cell? ⟨kS, 1, none⟩ = some (.slice aS (sg zS).2.length cS) ∧ w21.cell? ⟨kS, 2, none⟩ = some (.slice bS (limbs dS).length eS) := ⟨KT.1.1, KT.1.2.1, KT.1.2.2, KE.1.1, KE.1.2.1, KE.1.2.2, KR.1.1, KR.1.2.1, KR.1.2.2, KS.1.1, KS.1.2.1, KS.1.2.2⟩
    go_region_held3 (fun w' => w'.cell? ⟨kT, 0, none⟩ = some (.bool (sg zT).1) ∧ w'.cell? ⟨kT, 1, none⟩ = some (.slice aT (sg zT).2.length cT) ∧ w'.cell? ⟨kT, 2, none⟩ = some (.slice bT (limbs dT).length eT) ∧ w'.cell? ⟨kE, 0, none⟩ = some (.bool (sg zR).1) ∧ w'.cell? ⟨kE, 1, none⟩ = some (.slice aE (sg zR).2.length cE) ∧ w'.cell? ⟨kE, 2, none⟩ = some (.slice bE (limbs dR).length eE) ∧ w'.cell? ⟨kR, 0, none⟩ = some (.bool (sg zR).1) ∧ w'.cell? ⟨kR, 1, none⟩ = some (.slice aR (sg zR).2.length cR) ∧ w'.cell? ⟨kR, 2, none⟩ = some (.slice bR (limbs dR).length eR) ∧ w'.cell? ⟨kS, 0, none⟩ = some (.bool (sg zS).1) ∧ w'.cell? ⟨kS, 1, none⟩ = some (.slice aS (sg zS).2.length cS) ∧ w'.cell? ⟨kS, 2, none⟩ = some (.slice bS (limbs dS).length eS))
      (first | exact ⟨(KT.below f6 (Nat.le_refl _)).1.1, (KT.below f6 (Nat.le_refl _)).1.2.1, (KT.below f6 (Nat.le_refl _)).1.2.2, (KE.below f6 (Nat.le_refl _)).1.1, (KE.below f6 (Nat.le_refl _)).1.2.1, (KE.below f6 (Nat.le_refl _)).1.2.2, (KR.below f6 (Nat.le_refl _)).1.1, (KR.below f6 (Nat.le_refl _)).1.2.1, (KR.below f6 (Nat.le_refl _)).1.2.2, (KS.below f6 (Nat.le_refl _)).1.1, (KS.below f6 (Nat.le_refl _)).1.2.1, (KS.below f6 (Nat.le_refl _)).1.2.2⟩ | exact ⟨(KT.below f5 (Nat.le_refl _)).1.1, (KT.below f5 (Nat.le_refl _)).1.2.1, (KT.below f5 (Nat.le_refl _)).1.2.2, (KE.below f5 (Nat.le_refl _)).1.1, (KE.below f5 (Nat.le_refl _)).1.2.1, (KE.below f5 (Nat.le_refl _)).1.2.2, (KR.below f5 (Nat.le_refl _)).1.1, (KR.below f5 (Nat.le_refl _)).1.2.1, (KR.below f5 (Nat.le_refl _)).1.2.2, (KS.below f5 (Nat.le_refl _)).1.1, (KS.below f5 (Nat.le_refl _)).1.2.1, (KS.below f5 (Nat.le_refl _)).1.2.2⟩ | exact ⟨(KT.below f4 (Nat.le_refl _)).1.1, (KT.below f4 (Nat.le_refl _)).1.2.1, (KT.below f4 (Nat.le_refl _)).1.2.2, (KE.below f4 (Nat.le_refl _)).1.1, (KE.below f4 (Nat.le_refl _)).1.2.1, (KE.below f4 (Nat.le_refl _)).1.2.2, (KR.below f4 (Nat.le_refl _)).1.1, (KR.below f4 (Nat.le_refl _)).1.2.1, (KR.below f4 (Nat.le_refl _)).1.2.2, (KS.below f4 (Nat.le_refl _)).1.1, (KS.below f4 (Nat.le_refl _)).1.2.1, (KS.below f4 (Nat.le_refl _)).1.2.2⟩ | exact ⟨(KT.below f3 (Nat.le_refl _)).1.1, (KT.below f3 (Nat.le_refl _)).1.2.1, (KT.below f3 (Nat.le_refl _)).1.2.2, (KE.below f3 (Nat.le_refl _)).1.1, (KE.below f3 (Nat.le_refl _)).1.2.1, (KE.below f3 (Nat.le_refl _)).1.2.2, (KR.below f3 (Nat.le_refl _)).1.1, (KR.below f3 (Nat.le_refl _)).1.2.1, (KR.below f3 (Nat.le_refl _)).1.2.2, (KS.below f3 (Nat.le_refl _)).1.1, (KS.below f3 (Nat.le_refl _)).1.2.1, (KS.below f3 (Nat.le_refl _)).1.2.2⟩ | exact ⟨(KT.below f2 (Nat.le_refl _)).1.1, (KT.below f2 (Nat.le_refl _)).1.2.1, (KT.below f2 (Nat.le_refl _)).1.2.2, (KE.below f2 (Nat.le_refl _)).1.1, (KE.below f2 (Nat.le_refl _)).1.2.1, (KE.below f2 (Nat.le_refl _)).1.2.2, (KR.below f2 (Nat.le_refl _)).1.1, (KR.below f2 (Nat.le_refl _)).1.2.1, (KR.below f2 (Nat.le_refl _)).1.2.2, (KS.below f2 (Nat.le_refl _)).1.1, (KS.below f2 (Nat.le_refl _)).1.2.1, (KS.below f2 (Nat.le_refl _)).1.2.2⟩ | exact ⟨(KT.below f1 (Nat.le_refl _)).1.1, (KT.below f1 (Nat.le_refl _)).1.2.1, (KT.below f1 (Nat.le_refl _)).1.2.2, (KE.below f1 (Nat.le_refl _)).1.1, (KE.below f1 (Nat.le_refl _)).1.2.1, (KE.below f1 (Nat.le_refl _)).1.2.2, (KR.below f1 (Nat.le_refl _)).1.1, (KR.below f1 (Nat.le_refl _)).1.2.1, (KR.below f1 (Nat.le_refl _)).1.2.2, (KS.below f1 (Nat.le_refl _)).1.1, (KS.below f1 (Nat.le_refl _)).1.2.1, (KS.below f1 (Nat.le_refl _)).1.2.2⟩ | exact S0)
      (first | (have g6 := f5; go_at_call 12; refine (q_sign _ _ _ _ _ _ (-r1) _ (QG.below hq5 (Nat.le_refl _)) (sgn_back QR.qq QS.qq QG.qq hr1.out EG)).mono ?_; rintro e v6 ⟨rfl, hq6⟩; have f6 := (f5).trans (hq6.mono (f5).size)) | (have g5 := f4; go_at_call 13; refine (must_yes _ _ _ _ _ _ _ _).mono ?_; rintro e v5 ⟨rfl, hq5⟩; have f5 := (f4).trans (hq5.mono (f4).size)) | (have g4 := f3; go_at_call 8; refine (q_sub _ _ _ _ _ _ _ _ _ _ _ _ _ (QS.below (f3) (Nat.le_refl _)) (QR.below (f3) (Nat.le_refl _)) (Nat.le_trans (len_sum (j := 2) (k := 2) (z2 := -zR) lzS ldR (by rw [sgm_len]; exact lzR) ldS) (by omega)) (Nat.le_trans (len_prod ldS ldR) (by omega))).mono ?_; rintro e v4 ⟨⟨zG, dG, aG, cG, bG, eG, ⟨rfl, QG⟩, EG, mG, nG⟩, hq4⟩; have f4 := (f3).trans (hq4.mono (f3).size)) | (have g3 := f2; go_at_call 7; refine (q_cmp _ _ _ _ _ _ _ _ _ _ _ _ _ _ (QR.below (f2) (Nat.le_refl _)) (QS.below (f2) (Nat.le_refl _)) hr1.out).mono ?_; rintro e v3 ⟨rfl, hq3⟩; have f3 := (f2).trans (hq3.mono (f2).size)) | (have g2 := f1; go_at_call 7; refine (q_cmp0 _ _ _ _ _ _ _ _ _ _ _ (QE.below (f1) (Nat.le_refl _)) (QR.below (f1) (Nat.le_refl _))).mono ?_; rintro e v2 ⟨rfl, hq2⟩; have f2 := (f1).trans (hq2.mono (f1).size)) | (go_at_call 12; refine (q_sign _ _ _ _ _ _ sT _ (QT.below (bx0.drew) (Nat.le_refl _)) hsT.out).mono ?_; rintro e v1 ⟨rfl, hq1⟩; have f1 := (bx0.drew).trans (hq1.mono (bx0.drew).size)))
    all_goals (go_wp2; go_ret; exact ⟨by simp, hb0.trans (f6.mono hb0.size)⟩)

theorem own : ownKnob Tryz.prog.godebug = none := by kernel_rfl
theorem laidOut : laidOutB Tryz.prog = true := by kernel_rfl
theorem door_met (os : Os) (args : Array Value) : laidMetH Tryz.prog Rows.fnRatRow.laid ((World.doorLaid Tryz.prog 24 os).forCall (fun _ _ => 0) ⟨#[], args, []⟩).memory :=
  laidMetH_of_parts3 (fuel := 8) (laidMet_of_run' 8 (by kernel_rfl) (by kernel_rfl)) (by kernel_rfl) (by kernel_rfl)
theorem tab_laid {W : World} (h : laidMetH Tryz.prog Rows.fnRatRow.laid W) : Tab W := by
  rw [MakeChecks.laidMetH_plain _ _ _ (by kernel_rfl)] at h
  have h2 : laidMet Tryz.prog (("internal/strconv.uint64pow10", Lib.tabData .u64 Lib.pow10Tab) :: []) W := h.tail.tail
  exact Lib.tabIs_of_head tabG (by kernel_rfl) Tryz.underlying122 Tryz.underlying88 (by kernel_rfl) (by kernel_rfl) h2
set_option maxRecDepth 100000 in
theorem lifted (os : Os) (started : os.Started) (H : Type) (enc : TypeId × Value → H) :
    ReturnsInHanded {} Tryz.checked os 3 .any (fun w args => (Rows.fnRatSpec.pre enc Tryz.prog Tryz.f3 [] false w args ∧ laidMetH Tryz.prog Rows.fnRatRow.laid w) ∧ sizedMet enc Tryz.prog Tryz.f3 (OpenSpec.ofChange Rows.fnRatSpec) false w args)
      (Rows.fnRatSpec.post enc Tryz.prog Tryz.f3 false true false false) := by
  refine returnsInHanded_of_change_and (C := Tryz.checked) (X := fun w _ => laidMetH Tryz.prog Rows.fnRatRow.laid w) (fun _ _ _ hh h => h.of_heap hh) own started (by kernel_rfl) Tryz.func3
    (ChangeSpec.witness_shaped (enc := enc) (C := Tryz.checked) (os := os) (X := fun w _ => laidMetH Tryz.prog Rows.fnRatRow.laid w) false (World.doorLaid Tryz.prog 24 os) #[.slice none 0 0] 8 rfl (World.shaped_of_RefB (by kernel_rfl) (by kernel_rfl)) (by kernel_rfl) (by kernel_rfl) (by kernel_rfl) (door_met os _)) ?_
  intro W base args ds gs before hval0 hW _ _ hL _
  have hval : ∀ (j : Nat) t v, Tryz.f3.params[j]? = some t → args[j]? = some v → Value.okWide Tryz.prog W .any base t v := hval0
  have hW' := hW
  obtain ⟨p, q, hA0, hV, rfl, hfz, hnd⟩ := hW
  have hA : DataW.TrodAll enc Tryz.prog W 0 (fun _ => true) true Tryz.f3.params.toList args.toList ds p := hA0
  rw [Tryz.params3] at hA hval
  obtain ⟨v0, vs0, d0, ds0, p0, q0, hargs, rfl, rfl, h0, r0⟩ := trodAll_cons hA
  obtain ⟨rfl, rfl, rfl⟩ := trodAll_nil r0
  obtain rfl : args = #[v0] := by cases args; simp_all
  obtain ⟨rfl, rfl⟩ := trodVars_none hV
  have k0 := h0
  have lt0 : ∀ x ∈ p0, x.block < W.heap.size := by obtain ⟨m, hm⟩ := k0; exact DataW.trod_lt m _ _ _ hm
  obtain ⟨a0, len0, cap0, rfl⟩ := okWide_slice Tryz.underlying22 (hval 0 22 v0 rfl rfl)
  obtain ⟨xs0, rfl, w0⟩ : ∃ xs : List Int, xs.length = len0 ∧ (RdB W W.heap.size a0 xs ∧ Byt xs ∧ xs.length ≤ cap0 ∧ xs.length ≤ maxLen) := by
    obtain ⟨fuel, hf⟩ := h0
    rcases open_ints Tryz.underlying22 Tryz.underlying5 (by kernel_rfl) hf with ⟨hcs, _⟩ | ⟨x, l, c, zs, hcs, _, hl, hm, hz, _, hcell, hwz⟩
    · simp [Value.cells] at hcs
      obtain ⟨rfl, rfl, rfl⟩ := hcs
      exact ⟨[], rfl, .inl rfl, fun i => by simp, Nat.zero_le _, Nat.zero_le _⟩
    · simp [Value.cells] at hcs
      obtain ⟨rfl, rfl, rfl⟩ := hcs
      have hz' : zs.length = cap0 := by simpa using hz
      have hlt : (zs.take len0).length = len0 := by rw [List.length_take]; omega
      exact ⟨zs.take len0, hlt, rdB_of_cells hcell _, byt_of_wf (fun n hn => hwz n (List.mem_of_mem_take hn)), by omega, by omega⟩
  clear hA0 hval0
  refine (walk a0 cap0 xs0 W (tab_laid hL) w0).mono fun e W' ⟨he, bel⟩ => ?_
  subst he
  exact ⟨_, rfl, _, _, _, [], _, [], hW', trodAll_mk1 (shut_bool Tryz.underlying4 _), (trodAll_cons_mk (Below.trod laidOut (by kernel_rfl) (of_decide_eq_true (by kernel_rfl)) k0 bel lt0) trodAll_mk0), rfl, bel.frame _, fun h => by cases h⟩

theorem over : Rows.fnRatRow.holds Tryz.pinned (OpenSpec.ofChange Rows.fnRatSpec) :=
  OpenClaim.holds_of_wide 3 Tryz.f3 rfl rfl rfl rfl rfl rfl rfl ⟨rfl, rfl, rfl, rfl, rfl⟩ rfl rfl rfl rfl rfl (by kernel_rfl) Tryz.func3 (by kernel_rfl)
    (of_decide_eq_true (by kernel_rfl)) (by unfold Func.isWrapper; first | (rw [if_pos (by decide +kernel)]; kernel_rfl) | (rw [if_neg (by decide +kernel)]; exact ⟨rfl, rfl⟩))
    (fun os started H enc _ => lifted os started H enc)

theorem proved : Rows.FnRatCardSaid :=
  Claim7.holds_tied_plain_at .later [] [.data, .data, .data] true (true, "6684a93498052ff11cfccb47b1228025525bc5437368c84fa834cb2fb456187f") false
    over (fun _ h => by cases h) (by kernel_rfl) (fun _ h => by cases h) fnRat_row_tie rfl ⟨rfl, rfl⟩ (by kernel_rfl) rfl
    (fun f fn hf hfn => by
      obtain rfl : f = 3 := Option.some.inj ((show Tryz.prog.funcNamed Rows.fnRatRow.func = some 3 by kernel_rfl).symm.trans hf) |>.symm
      obtain rfl : fn = Tryz.f3 := (Option.some.inj (Tryz.func3.symm.trans hfn)).symm
      exact ⟨by kernel_rfl, fun j t ht => by
        rw [Tryz.params3] at ht
        have hm : t ∈ [22] := by simpa using Array.mem_of_getElem? ht
        have hall : ([22].all fun u => !Tryz.prog.wantsStandIn u) = true := by kernel_rfl
        exact (show Tryz.prog.wantsStandIn t = false by simpa using List.all_eq_true.1 hall t hm)⟩)
    (by kernel_rfl)
#print axioms proved
end Go.Proofs.YtogkonenejfgmaaGreatDoor.fnRat
