/- The walks of the laws' helpers for fractions (szRat, toRat); a fraction that a caller hands in, opened. The walks of l03Digit, l03Div, NatDiv, NatGcd and NatCut (reference). For every two numbers within the reach. The walks of NatDiv, NatGcd and NatCut (reference). For every two slices within the reach. -/
import Derived.ProofKit
import Derived.OpenShut
import Derived.Lib.SmallJoins
import Derived.Test.YtogkonenejfgmaaGreatDoorM21
import Derived.Test.YtogkonenejfgmaaGreatDoorM04
import Derived.Test.YtogkonenejfgmaaGreatDoorM09
import Derived.Test.YtogkonenejfgmaaGreatDoorM03
namespace Go.Proofs.YtogkonenejfgmaaGreatDoor
open Go.RowKit Go.ChangeShapes Go.WideShapes Go.ChangeAt
theorem Slot.le {w : World} {lo hi : Nat} {a : Option Addr} {cap : Nat} {xs : List Int} (h : Slot w lo hi a cap xs) : xs.length ≤ cap := by
  rcases h.2 with rfl | h
  · exact Nat.zero_le _
  · exact h.1.le
theorem Slot.inn {w : World} {lo hi : Nat} {a : Option Addr} {cap : Nat} {xs : List Int} (h : Slot w lo hi a cap xs) (hl : xs.length ≤ 1099511627776) : In w a cap xs := ⟨h.rd, h.le, hl⟩
theorem Slot.mono {w : World} {lo hi hi2 : Nat} {a : Option Addr} {cap : Nat} {xs : List Int} (h : Slot w lo hi a cap xs) (h1 : hi ≤ hi2) (h2 : hi2 ≤ w.heap.size) : Slot w lo hi2 a cap xs := by
  refine ⟨h2, ?_⟩
  rcases h.2 with h | ⟨h, hp⟩
  · exact .inl h
  · refine .inr ⟨h, fun p e => ?_⟩
    have := hp p e
    omega
theorem Slot.setOut {w : World} {lo hi : Nat} {a : Option Addr} {cap : Nat} {xs : List Int} (h : Slot w lo hi a cap xs) {p : Addr} (hp : p.block < lo) (v : Value) : Slot (w.setCell p v) lo hi a cap xs := by
  refine ⟨by simpa [World.setCell] using h.1, ?_⟩
  rcases h.2 with h | ⟨h, hq⟩
  · exact .inl h
  · exact .inr ⟨own_set h hp v (Nat.le_refl _), hq⟩
end Go.Proofs.YtogkonenejfgmaaGreatDoor
namespace Go.Proofs.YtogkonenejfgmaaGreatDoor
open Go.RowKit
theorem cmpN_le {m n : Nat} (h : m ≤ n) : cmpN m n ≤ 0 := by unfold cmpN; split <;> (try split) <;> omega
theorem cmpN_pos {m n : Nat} (h : n < m) : 0 < cmpN m n := by unfold cmpN; rw [if_neg (by omega), if_neg (by omega)]; omega
theorem cmpN_nonneg {m n : Nat} (h : n ≤ m) : 0 ≤ cmpN m n := by unfold cmpN; rw [if_neg (by omega)]; split <;> omega
theorem Own.set1 {w : World} {g k c : Nat} {a : Option Addr} {xs : List Int} (h : Own w (g + 1) a c xs) (v : Value) : Own (w.setCell ⟨g, k, none⟩ v) (g + 1) a c xs := by
  refine own_same (lo := g + 1) (hi := w.heap.size) h ?_ (fun j h1 h2 => Below.heap_setCell _ _ _ _ (by show j ≠ g; omega))
  intro p hp
  rcases h.cases with ⟨rfl, _⟩ | ⟨q, rfl, h1, h2, _⟩
  · cases hp
  · cases hp; exact ⟨h1, h2⟩
theorem Own.below1 {w w' : World} {g cap : Nat} {xs : List Int} (h : Own w g (some ⟨g, 0, none⟩) cap xs) (hb : Below (g + 1) w w') : Own w' g (some ⟨g, 0, none⟩) cap xs :=
  own_same (lo := g) (hi := g + 1) h (by intro p hp; cases hp; exact ⟨Nat.le_refl _, Nat.lt_succ_self _⟩) (fun k _ h2 => hb.block k h2)
theorem Own.lit1 (w : World) (B : Nat) (x : Int) (hB : B ≤ w.heap.size) : Own (w.alloc (.cells #[.int .i64 x] 3)) B (some ⟨w.heap.size, 0, none⟩) 1 [x] :=
  World.ownsRow_lit w #[.int .i64 x] 1 hB (by unfold maxLen; omega) rfl
set_option maxHeartbeats 1600000 in
theorem l03Digit_any (a b : Option Addr) (ca cb R n : Nat) (w : World) (hx : Rd w a (limbs R)) (hy : Rd w b (limbs n)) (lx : (limbs R).length ≤ 1000) (ly : (limbs n).length ≤ 1000) (hn : 0 < n) (hR : R < 1000000000 * n) :
    Calls Tryz.prog 80 #[.slice a (limbs R).length ca, .slice b (limbs n).length cb] w fun e w' => e = .returned (.int .i64 ((R / n : Nat) : Int)) ∧ Below w.heap.size w w' := by
  have hq0 : R / n ≤ 999999999 := by have := (Nat.div_lt_iff_lt_mul hn).2 hR; omega
  go_enter Tryz.func80, Tryz.ntmps80
  go_wp2
  go_loopw [5, 6, 7] (fun lv hv _ wr => ∃ lo hi : Int, lv = .int .i64 lo ∧ hv = .int .i64 hi ∧ DgInv R n lo hi ∧ Below w.heap.size w wr) (fun lv hv _ _ => (intOf hv - intOf lv).toNat)
  case atStart => exact ⟨0, 999999999, rfl, rfl, ⟨by omega, Int.natCast_nonneg _, show ((R / n : Nat) : Int) ≤ ((999999999 : Nat) : Int) from Int.ofNat_le.2 hq0, by omega⟩, Below.refl _ _⟩
  case round =>
    obtain ⟨lo, hi, rfl, rfl, hinv, hb⟩ := hrel
    obtain ⟨h1, h2, h3, h4⟩ := hinv
    have HI := Lib.hid (show DgInv R n lo hi from ⟨h1, h2, h3, h4⟩)
    by_cases hlt : lo < hi
    · obtain ⟨q, hq⟩ : ∃ q : Nat, (q : Int) = (lo + hi + 1) / 2 := ⟨((lo + hi + 1) / 2).toNat, by omega⟩
      have hq1 : (q : Int) ≤ hi := by omega
      have hq2 : lo < (q : Int) := by omega
      have hql : (limbs q).length ≤ 1 := limbs_len_le.2 (by omega)
      have HQ := Lib.hid hq.symm
      have hmul : (limbs (n * q)).length ≤ (limbs n).length + (limbs q).length := by rw [limbs_len_le, Nat.pow_add]; exact Nat.mul_lt_mul'' (limbs_lt_val n) (limbs_lt_val q)
      clear h2 h3
      go_wp2_with fail
      rw [HQ.out]
      refine (spec_NatOf (q : Int) _ ⟨by omega, by omega⟩).mono ?_
      rintro e w1 ⟨⟨a1, c1, rfl, ho1, _⟩, hb1⟩
      rw [Int.toNat_natCast] at ho1 ⊢
      have hB1 := hb.trans (hb1.mono hb.size)
      go_wp2_with fail
      refine (l02Mul_all _ _ _ _ _ _ _ (hy.below hB1 (Nat.le_refl _)) ho1.rd (by omega) (by omega)).mono ?_
      rintro e w2 ⟨⟨a2, c2, rfl, ho2⟩, hb2⟩
      have hB2 := hB1.trans (hb2.mono hB1.size)
      go_wp2_with fail
      refine (l02Cmp_any _ _ _ _ _ _ _ ho2.rd (hx.below hB2 (Nat.le_refl _)) (by omega) (by omega)).mono ?_
      rintro e w3 ⟨rfl, p, rfl⟩
      have hB3 := Lib.hid (bel_drewN hB2 p)
      clear hb hb1 hb2 hB1 hB2 ho1 ho2 hq
      by_cases hc : n * q ≤ R
      · have hcc := cmpN_le hc
        have HU := Lib.hid (HI.out.up hn hc)
        go_wp2
        go_roundw
        case rel => exact ⟨_, hi, by rw [HQ.out], rfl, HU.out, hB3.out⟩
        case measure => simp only [intOf]; rw [HQ.out]; omega
      · have hcc := cmpN_pos (show R < n * q by omega)
        have HD := Lib.hid (HI.out.down hn hc hq1)
        go_wp2
        go_roundw
        case rel => exact ⟨lo, _, rfl, by rw [HQ.out], HD.out, hB3.out⟩
        case measure => simp only [intOf]; rw [HQ.out]; omega
    · have e : lo = ((R / n : Nat) : Int) := by omega
      subst e
      clear h1 h2 h3
      go_wp2
      go_ret
      exact ⟨rfl, hb⟩
theorem trim_cons (R : Nat) {x : Int} (hx : 0 ≤ x ∧ x < 1000000000) : trimL (x :: limbs R) = limbs (R * 1000000000 + x.toNat) := by
  obtain ⟨h1, h2⟩ := cons_limbs R hx
  rw [trimL_limbs h1, h2]; rfl
set_option maxRecDepth 10000 in
set_option maxHeartbeats 3200000 in
theorem l03Div_big (a b : Option Addr) (ca cb m n : Nat) (w : World) (hx : Rd w a (limbs m)) (hy : Rd w b (limbs n)) (lx : (limbs m).length ≤ 900) (ly : (limbs n).length ≤ 900) (hN : 2 ≤ (limbs n).length) :
    Calls Tryz.prog 70 #[.slice a (limbs m).length ca, .slice b (limbs n).length cb] w fun e w' => (∃ a1 c1 a2 c2, e = .returned (.tuple #[.slice a1 (limbs (m / n)).length c1, .slice a2 (limbs (m % n)).length c2]) ∧ Own w' w.heap.size a1 c1 (limbs (m / n)) ∧ Own w' w.heap.size a2 c2 (limbs (m % n))) ∧ Below w.heap.size w w' := by
  obtain ⟨i0, hi, hz0, hz1, hz2⟩ := info_parts Tryz.infoInt
  have hb1 : (((limbs n).length : Int) == 1) = false := by rw [beq_eq_false_iff_ne]; omega
  have hn : 0 < n := limbs_pos_iff.1 (by omega)
  have HS := Lib.hid (LdInv.start m hn)
  go_enter Tryz.func70, Tryz.ntmps70
  go_wp2_with (at_make; refine wpList_make_full _ rfl _ _ 23 rfl w.heap.size 3 i0 (.int .i64 0) 1 Tryz.underlying23 hi hz0 hz1 .i64 .i64 _ _ (limbs m).length rfl rfl (by omega) (by omega) (by rw [hz2]; omega) (by unfold maxLen; omega) (Nat.le_refl _) ?_)
  intro w1 hown0 hgrow
  have ho1 := Own.made hown0
  have hb1' : Below w.heap.size w w1 := (Below.refl _ _).grown hgrow (Nat.le_refl _) (by intro k h; cases h)
  have hlt1 := ho1.lt.2
  obtain ⟨g, hg⟩ : ∃ g, g = w.heap.size := ⟨_, rfl⟩
  have hgw : w.heap.size ≤ g := by omega
  have hown1 : Own w1 g (some ⟨g, 0, none⟩) (limbs m).length (List.replicate (limbs m).length 0) := by rw [hg]; exact ho1
  rw [← hg] at hlt1 ⊢
  have HO := Lib.hid (hown1.alloc (.cells #[] 3))
  have HE := Lib.hid (Own.empty w1 (g + 1) (by omega))
  have HB := Lib.hid (hb1'.trans ((bel_al w1 (.cells #[] 3)).mono hb1'.size))
  clear hown0 hgrow ho1 hb1' hg hown1
  go_wp2
  go_loopw [9, 10, 11] (fun rv iv _ wr => ∃ (k R : Nat) (out : List Int) (ar : Option Addr) (cr : Nat), iv = .int .i64 ((k : Int) - 1) ∧ rv = .slice ar (limbs R).length cr ∧ k ≤ (limbs m).length ∧ LdInv m n k R out ∧ Own wr g (some ⟨g, 0, none⟩) (limbs m).length out ∧ Own wr (g + 1) ar cr (limbs R) ∧ Below w.heap.size w wr)
    (fun _ iv _ _ => (intOf iv + 1).toNat)
  case atStart => exact ⟨(limbs m).length, 0, _, _, _, by go_num, rfl, Nat.le_refl _, HS.out, HO.out, HE.out, HB.out⟩
  case round =>
    clear HS HO HE HB
    obtain ⟨k, R, out, ar, cr, rfl, rfl, hk, hinv, hout, hrest, hb⟩ := hrel
    have hRn : R < n := hinv.2.2.1
    have hRl := limbs_len_mono (Nat.le_of_lt hRn)
    have hol := Lib.hid hinv.1
    have hgs := hout.lt.2
    by_cases h0 : 0 < k
    · obtain ⟨j, rfl⟩ : ∃ j, k = j + 1 := ⟨k - 1, by omega⟩
      obtain ⟨bx, ox, x, rfl, hbx, h1, hx1⟩ := (hx.below hb (Nat.le_refl _)).at j (by omega)
      have gx := okL_get (limbs_ok m) j
      rw [hx1.out] at gx
      obtain ⟨R1, hR1⟩ : ∃ R1, R1 = R * 1000000000 + x.toNat := ⟨_, rfl⟩
      have hR1n : R1 < 1000000000 * n := by omega
      have htc := trim_cons R gx
      rw [← hR1] at htc
      have HTC := Lib.hid htc
      have hl1 : (limbs R1).length ≤ (limbs n).length + 1 := by
        rw [limbs_len_le, Nat.pow_succ]
        have := limbs_lt_val n
        omega
      have HINV := Lib.hid hinv
      have HR1 := Lib.hid hR1
      have hL1 := Own.lit1 wr (g + 1) x (by omega)
      have hrest1 := hrest.alloc (.cells #[.int .i64 x] 3)
      have hz : g + 1 ≤ (wr.alloc (.cells #[.int .i64 x] 3)).heap.size := by simp; omega
      have hbA := hb.trans ((bel_al wr (.cells #[.int .i64 x] 3)).mono hb.size)
      have hout1 := hout.alloc (.cells #[.int .i64 x] 3)
      rw [show (((j + 1 : Nat) : Int) - 1) = (j : Int) by omega]
      clear htc hinv hR1 hrest hout hb
      go_wp2_with (at_builtin; refine appS _ rfl _ _ rfl (g + 1) (some ⟨wr.heap.size, 0, none⟩) 1 [x] ar cr (limbs R) rfl rfl hL1 hrest1.rd (by simp; omega) hz ?_)
      intro a2 c2 w2 ho2 hb2
      have hlen2 : (x :: limbs R).length = (limbs R).length + 1 := by simp
      have ho2' : Own w2 (g + 1) a2 c2 (x :: limbs R) := ho2
      have hBB := hbA.trans (hb2.mono (by omega))
      have hout2 := hout1.below1 hb2
      have hT := l02Trim_any a2 c2 (x :: limbs R) w2 ho2'.rd (by rw [hlen2]; unfold maxLen; omega) ho2'.le
      rw [hlen2, HTC.out] at hT
      have HT := Lib.hid hT
      have hr2 := ho2'.trimL
      rw [HTC.out] at hr2
      clear hT ho2 ho2' hbA hb2 hout1 hrest1 hL1
      go_wp2_with fail
      refine HT.out.mono ?_
      rintro e w3 ⟨rfl, rfl⟩
      go_wp2_with fail
      refine (l02Cmp_any _ _ _ _ _ _ _ hr2.rd (hy.below hBB (Nat.le_refl _)) (by omega) (by omega)).mono ?_
      rintro e w4 ⟨rfl, p, rfl⟩
      have hz2 : g + 1 ≤ w2.heap.size := by have := hr2.rd; have := hout2.lt.2; omega
      by_cases hlt : R1 < n
      · have HK := Lib.hid (HINV.out.skip (by omega) hx1.out HR1.out hlt)
        have hc := cmpN_lt hlt
        rw [hc]
        have HB := Lib.hid (bel_drewN hBB p)
        go_wp2
        go_roundw
        case rel => exact ⟨j, R1, out, _, _, rfl, rfl, by omega, HK.out, hout2, hr2, HB.out⟩
        case measure => simp [intOf]
      · have hc := cmpN_nonneg (show n ≤ R1 by omega)
        have HW := Lib.hid (bel_drewN hBB p)
        obtain ⟨q, hq⟩ : ∃ q, q = R1 / n := ⟨_, rfl⟩
        obtain ⟨hnx, hq9⟩ := HINV.out.next (by omega) hx1.out HR1.out hq
        have HN := Lib.hid hnx
        have hql : (limbs q).length ≤ 1 := limbs_len_le.2 (by omega)
        have hmul : (limbs (n * q)).length ≤ (limbs n).length + (limbs q).length := by rw [limbs_len_le, Nat.pow_add]; exact Nat.mul_lt_mul'' (limbs_lt_val n) (limbs_lt_val q)
        have hle : n * q ≤ R1 := by rw [hq]; exact Nat.mul_div_le R1 n
        have HM := Lib.hid (show R1 - n * q = R1 % n by rw [hq]; have := Nat.div_add_mod R1 n; omega)
        have HQ := Lib.hid hq.symm
        clear hnx hq
        replace hout2 : Own (w2.drewN p) g (some ⟨g, 0, none⟩) (limbs m).length out := hout2
        replace hr2 : Own (w2.drewN p) (g + 1) a2 c2 (limbs R1) := hr2
        go_wp2_with fail
        refine (l03Digit_any _ _ _ _ _ _ _ hr2.rd (hy.below HW.out (Nat.le_refl _)) (by omega) (by omega) hn hR1n).mono ?_
        rintro e w5 ⟨rfl, hb5⟩
        rw [HQ.out]
        have hB5 := HW.out.trans (hb5.mono HW.out.size)
        have hout5 := hout2.below hb5 (Nat.le_refl _)
        have hr5 := hr2.below hb5 (Nat.le_refl _)
        obtain ⟨ov, ho, _⟩ := hout5.cellAt j (by rw [hol.out]; omega)
        have hfz := hout5.frozenAt j
        have hst := hout5.stored j (q : Int)
        have HST := Lib.hid hst
        have HR5 := Lib.hid (hr5.set1 (k := j) (.int .i64 (q : Int)))
        have HB5 := Lib.hid (hB5.setCell (p := ⟨g, j, none⟩) hgw (.int .i64 (q : Int)))
        have hz5 := hb5.size
        have hz6 : g + 1 ≤ (w5.setCell ⟨g, j, none⟩ (.int .i64 (q : Int))).heap.size := by simp only [World.size_setCell]; have : w2.heap.size ≤ w5.heap.size := hz5; omega
        clear hst hr5 hB5 hb5 hout5 hr2 hout2 hz5
        go_wp2_with fail
        refine (spec_NatOf (q : Int) _ ⟨by omega, by omega⟩).mono ?_
        rintro e w6 ⟨⟨a6, c6, rfl, ho6, _⟩, hb6⟩
        rw [Int.toNat_natCast] at ho6 ⊢
        have hB6 := HB5.out.trans (hb6.mono HB5.out.size)
        have hout6 := HST.out.below hb6 (Nat.le_refl _)
        have hr6 := HR5.out.below hb6 (Nat.le_refl _)
        have hz7 := hb6.size
        go_wp2_with fail
        refine (l02Mul_all _ _ _ _ _ _ _ (hy.below hB6 (Nat.le_refl _)) ho6.rd (by omega) (by omega)).mono ?_
        rintro e w7 ⟨⟨a7, c7, rfl, ho7⟩, hb7⟩
        have hB7 := hB6.trans (hb7.mono hB6.size)
        have hout7 := hout6.below hb7 (Nat.le_refl _)
        have hr7 := hr6.below hb7 (Nat.le_refl _)
        have hz8 := hb7.size
        go_wp2_with fail
        refine (l02Sub_any _ _ _ _ _ _ _ hr7.rd ho7.rd (by omega) hle).mono ?_
        rintro e w8 ⟨⟨a8, c8, rfl, ho8⟩, hb8⟩
        rw [HM.out] at ho8 ⊢
        have HB8 := Lib.hid (hB7.trans (hb8.mono hB7.size))
        have HO8 := Lib.hid (hout7.below hb8 (Nat.le_refl _))
        have HR8 := Lib.hid (ho8.mono (show g + 1 ≤ w7.heap.size by omega))
        clear hB6 hout6 hr6 hB7 hout7 hr7 hb6 hb7 hb8 ho6 ho7 ho8
        go_wp2
        go_roundw
        case rel => exact ⟨j, R1 % n, _, _, _, rfl, rfl, by omega, HN.out, HO8.out, HR8.out, HB8.out⟩
        case measure => simp [intOf]
    · have e : k = 0 := by omega
      subst e
      obtain ⟨hd1, rfl⟩ := hinv.done
      have HD := Lib.hid hd1
      have hT := l02Trim_any (some ⟨g, 0, none⟩) (limbs m).length out wr hout.rd (by unfold maxLen; rw [hol.out]; omega) hout.le
      rw [hol.out, hd1] at hT
      have HT := Lib.hid hT
      have hq := hout.trimL
      rw [hd1] at hq
      have HQ := Lib.hid (hq.mono hgw)
      have HR := Lib.hid (hrest.mono (show w.heap.size ≤ g + 1 by omega))
      clear hT hq hd1 hinv hout hrest
      go_wp2_with fail
      refine HT.out.mono ?_
      rintro e w3 ⟨rfl, rfl⟩
      go_wp2
      go_ret2
      exact ⟨⟨_, _, _, _, rfl, HQ.out, HR.out⟩, hb⟩
set_option maxHeartbeats 1600000 in
theorem l03Div_any (a b : Option Addr) (ca cb m n : Nat) (w : World) (hx : Rd w a (limbs m)) (hy : Rd w b (limbs n)) (lx : (limbs m).length ≤ 900) (ly : (limbs n).length ≤ 900) (hn : 0 < n) :
    Calls Tryz.prog 70 #[.slice a (limbs m).length ca, .slice b (limbs n).length cb] w fun e w' => (∃ a1 c1 a2 c2, e = .returned (.tuple #[.slice a1 (limbs (m / n)).length c1, .slice a2 (limbs (m % n)).length c2]) ∧ Own w' w.heap.size a1 c1 (limbs (m / n)) ∧ Own w' w.heap.size a2 c2 (limbs (m % n))) ∧ Below w.heap.size w w' := by
  by_cases h1 : (limbs n).length = 1
  · have hn1 : n < 1000000000 := by
      have := limbs_lt_val n
      rw [h1] at this
      omega
    have e1 : limbs n = [(n : Int)] := limbs_one ⟨hn, hn1⟩
    have hb1 : (((limbs n).length : Int) == 1) = true := by rw [beq_iff_eq]; omega
    have hr : m % n < n := Nat.mod_lt _ hn
    obtain ⟨bx, ox, x, rfl, hbx, hcx, hgx⟩ := hy.at 0 (by omega)
    have ex : x = (n : Int) := by rw [← hgx.out, e1]; rfl
    subst ex
    have HN1 := Lib.hid hn1
    have hl0 : 0 < (limbs n).length := by omega
    rw [Nat.add_zero] at hcx
    clear e1 hgx hn1 h1
    go_enter Tryz.func70, Tryz.ntmps70
    go_wp2_with fail
    refine (l03Small_any _ _ _ _ _ hx (by omega) hn HN1.out).mono ?_
    rintro e w1 ⟨⟨a1, c1, rfl, ho1⟩, hb1'⟩
    go_wp2_with fail
    refine (spec_NatOf ((m % n : Nat) : Int) _ ⟨by omega, by have := HN1.out; omega⟩).mono ?_
    rintro e w2 ⟨⟨a2, c2, rfl, ho2, hn2⟩, hb2⟩
    rw [Int.toNat_natCast] at ho2 ⊢
    have hB2 := hb1'.trans (hb2.mono hb1'.size)
    have ho3 := ho1.below hb2 (Nat.le_refl _)
    have hz := hb1'.size
    go_wp2
    go_ret2
    exact ⟨⟨_, _, _, _, rfl, ho3, ho2.mono hz⟩, hB2⟩
  · have h0 : 0 < (limbs n).length := limbs_pos_iff.2 hn
    exact l03Div_big a b ca cb m n w hx hy lx ly (by omega)
/-- the result of a division of the reference that is handed on -/
def SDivPost (w : World) (qL rL : List Int) (e : Ending) (w' : World) : Prop :=
  (∃ a c a' c', e = .returned (.tuple #[.slice a qL.length c, .slice a' rL.length c']) ∧ Own w' w.heap.size a c qL ∧ qL.length ≤ 50 ∧ Own w' w.heap.size a' c' rL ∧ rL.length ≤ 50) ∧ Below w.heap.size w w'
theorem sdivPost_nil (w : World) : SDivPost w [] [] (.returned (.tuple #[.slice none 0 0, .slice none 0 0])) w :=
  ⟨⟨none, 0, none, 0, rfl, Own.nil _ _, Nat.zero_le _, Own.nil _ _, Nat.zero_le _⟩, Below.refl _ _⟩
end Go.Proofs.YtogkonenejfgmaaGreatDoor
namespace Go.Proofs.YtogkonenejfgmaaGreatDoor
open Go.RowKit
end Go.Proofs.YtogkonenejfgmaaGreatDoor
