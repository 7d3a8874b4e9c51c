/- The walks of the closures of roundModes and of roundQuotient (program): what is rounded is the quotient, or one more where something is left. -/
import Derived.Test.YtcibccaimjifmaaWRm
import Derived.Test.YtcibccaimjifmaaWEven
import Derived.Test.YtcibccaimjifmaaWNatDiv
import Derived.Test.YtcibccaimjifmaaWIntOk
import Derived.Test.YtcibccaimjifmaaWSigned
import Derived.Test.YtcibccaimjifmaaWAdd
import Derived.Test.YtcibccaimjifmaaWBox
import Derived.Deep.RegionWith
import Derived.Deep.RegionHeld3
import Derived.Deep.DeepCutAuto
import Derived.Test.YtcibccaimjifmaaInt
namespace Go.Proofs.Ytcibccaimjifmaa
open Go.RowKit
set_option linter.unusedVariables false

theorem modes_away0 (w : World) : (Instr.field 74 (.agg #[.string ⟨(rmName 0).toArray⟩, .func (.func 77) #[] #[]]) 1).run Try.prog w = .ok (.func (.func 77) #[] #[]) w := by kernel_rfl
theorem away0 (neg : Bool) (h : Int) (odd : Bool) (w : World) : Calls Try.prog 77 #[.bool neg, .int .i64 h, .bool odd] w fun e w' => (∃ r, e = .returned (.bool r)) ∧ w = w' := by
  go_enter Try.func77, Try.ntmps77
  go_wp2
  all_goals (go_ret; first | exact ⟨.inr rfl, rfl⟩ | exact ⟨.inl rfl, rfl⟩ | exact ⟨⟨_, rfl⟩, rfl⟩ | exact ⟨rfl, rfl⟩ | (refine ⟨⟨true, ?_⟩, rfl⟩; rfl) | (refine ⟨⟨false, ?_⟩, rfl⟩; rfl) | (refine ⟨⟨odd, ?_⟩, rfl⟩; rfl))

theorem modes_away1 (w : World) : (Instr.field 74 (.agg #[.string ⟨(rmName 1).toArray⟩, .func (.func 78) #[] #[]]) 1).run Try.prog w = .ok (.func (.func 78) #[] #[]) w := by kernel_rfl
theorem away1 (neg : Bool) (h : Int) (odd : Bool) (w : World) : Calls Try.prog 78 #[.bool neg, .int .i64 h, .bool odd] w fun e w' => (∃ r, e = .returned (.bool r)) ∧ w = w' := by
  go_enter Try.func78, Try.ntmps78
  go_wp2
  all_goals (go_ret; first | exact ⟨.inr rfl, rfl⟩ | exact ⟨.inl rfl, rfl⟩ | exact ⟨⟨_, rfl⟩, rfl⟩ | exact ⟨rfl, rfl⟩ | (refine ⟨⟨true, ?_⟩, rfl⟩; rfl) | (refine ⟨⟨false, ?_⟩, rfl⟩; rfl) | (refine ⟨⟨odd, ?_⟩, rfl⟩; rfl))

theorem modes_away2 (w : World) : (Instr.field 74 (.agg #[.string ⟨(rmName 2).toArray⟩, .func (.func 79) #[] #[]]) 1).run Try.prog w = .ok (.func (.func 79) #[] #[]) w := by kernel_rfl
theorem away2 (neg : Bool) (h : Int) (odd : Bool) (w : World) : Calls Try.prog 79 #[.bool neg, .int .i64 h, .bool odd] w fun e w' => (∃ r, e = .returned (.bool r)) ∧ w = w' := by
  go_enter Try.func79, Try.ntmps79
  go_wp2
  all_goals (go_ret; first | exact ⟨.inr rfl, rfl⟩ | exact ⟨.inl rfl, rfl⟩ | exact ⟨⟨_, rfl⟩, rfl⟩ | exact ⟨rfl, rfl⟩ | (refine ⟨⟨true, ?_⟩, rfl⟩; rfl) | (refine ⟨⟨false, ?_⟩, rfl⟩; rfl) | (refine ⟨⟨odd, ?_⟩, rfl⟩; rfl))

theorem modes_away3 (w : World) : (Instr.field 74 (.agg #[.string ⟨(rmName 3).toArray⟩, .func (.func 80) #[] #[]]) 1).run Try.prog w = .ok (.func (.func 80) #[] #[]) w := by kernel_rfl
theorem away3 (neg : Bool) (h : Int) (odd : Bool) (w : World) : Calls Try.prog 80 #[.bool neg, .int .i64 h, .bool odd] w fun e w' => (∃ r, e = .returned (.bool r)) ∧ w = w' := by
  go_enter Try.func80, Try.ntmps80
  go_wp2
  all_goals (go_ret; first | exact ⟨.inr rfl, rfl⟩ | exact ⟨.inl rfl, rfl⟩ | exact ⟨⟨_, rfl⟩, rfl⟩ | exact ⟨rfl, rfl⟩ | (refine ⟨⟨true, ?_⟩, rfl⟩; rfl) | (refine ⟨⟨false, ?_⟩, rfl⟩; rfl) | (refine ⟨⟨odd, ?_⟩, rfl⟩; rfl))

theorem modes_away4 (w : World) : (Instr.field 74 (.agg #[.string ⟨(rmName 4).toArray⟩, .func (.func 81) #[] #[]]) 1).run Try.prog w = .ok (.func (.func 81) #[] #[]) w := by kernel_rfl
theorem away4 (neg : Bool) (h : Int) (odd : Bool) (w : World) : Calls Try.prog 81 #[.bool neg, .int .i64 h, .bool odd] w fun e w' => (∃ r, e = .returned (.bool r)) ∧ w = w' := by
  go_enter Try.func81, Try.ntmps81
  go_wp2
  all_goals (go_ret; first | exact ⟨.inr rfl, rfl⟩ | exact ⟨.inl rfl, rfl⟩ | exact ⟨⟨_, rfl⟩, rfl⟩ | exact ⟨rfl, rfl⟩ | (refine ⟨⟨true, ?_⟩, rfl⟩; rfl) | (refine ⟨⟨false, ?_⟩, rfl⟩; rfl) | (refine ⟨⟨odd, ?_⟩, rfl⟩; rfl))

theorem modes_away5 (w : World) : (Instr.field 74 (.agg #[.string ⟨(rmName 5).toArray⟩, .func (.func 82) #[] #[]]) 1).run Try.prog w = .ok (.func (.func 82) #[] #[]) w := by kernel_rfl
theorem away5 (neg : Bool) (h : Int) (odd : Bool) (w : World) : Calls Try.prog 82 #[.bool neg, .int .i64 h, .bool odd] w fun e w' => (∃ r, e = .returned (.bool r)) ∧ w = w' := by
  go_enter Try.func82, Try.ntmps82
  go_wp2
  all_goals (go_ret; first | exact ⟨.inr rfl, rfl⟩ | exact ⟨.inl rfl, rfl⟩ | exact ⟨⟨_, rfl⟩, rfl⟩ | exact ⟨rfl, rfl⟩ | (refine ⟨⟨true, ?_⟩, rfl⟩; rfl) | (refine ⟨⟨false, ?_⟩, rfl⟩; rfl) | (refine ⟨⟨odd, ?_⟩, rfl⟩; rfl))

theorem modes_away6 (w : World) : (Instr.field 74 (.agg #[.string ⟨(rmName 6).toArray⟩, .func (.func 83) #[] #[]]) 1).run Try.prog w = .ok (.func (.func 83) #[] #[]) w := by kernel_rfl
theorem away6 (neg : Bool) (h : Int) (odd : Bool) (w : World) : Calls Try.prog 83 #[.bool neg, .int .i64 h, .bool odd] w fun e w' => (∃ r, e = .returned (.bool r)) ∧ w = w' := by
  go_enter Try.func83, Try.ntmps83
  go_wp2
  all_goals (go_ret; first | exact ⟨.inr rfl, rfl⟩ | exact ⟨.inl rfl, rfl⟩ | exact ⟨⟨_, rfl⟩, rfl⟩ | exact ⟨rfl, rfl⟩ | (refine ⟨⟨true, ?_⟩, rfl⟩; rfl) | (refine ⟨⟨false, ?_⟩, rfl⟩; rfl) | (refine ⟨⟨odd, ?_⟩, rfl⟩; rfl))

theorem Slot.inn2 {w : World} {lo hi : Nat} {a : Option Addr} {c : Nat} {xs : List Int} (h : Slot w lo hi a c xs) (hl : xs.length ≤ 60) : In w a c xs := by
  refine ⟨h.rd, ?_, by omega⟩
  rcases h.2 with rfl | h
  · exact Nat.zero_le _
  · exact h.1.le
theorem in7' {m : Int} (h : 0 ≤ m ∧ m ≤ 6) : m = 0 ∨ m = 1 ∨ m = 2 ∨ m = 3 ∨ m = 4 ∨ m = 5 ∨ m = 6 := by omega
set_option maxRecDepth 100000 in
set_option maxHeartbeats 8000000 in
theorem roundQ (neg : Bool) (a b : Option Addr) (ca cb p n : Nat) (m : Int) (w : World) (hx : In w a ca (limbs p)) (hy : In w b cb (limbs n)) (lp : (limbs p).length ≤ 50) (ln : (limbs n).length ≤ 50) (hn : 0 < n) (hm : 0 ≤ m ∧ m ≤ 6) :
    Calls Try.prog 37 #[.agg #[.bool neg, .slice a (limbs p).length ca], .slice b (limbs n).length cb, .int .i64 m] w fun e w' => (∃ (k : Nat) (a' : Option Addr) (c' : Nat), (k = p / n ∨ (k = p / n + 1 ∧ 0 < p % n)) ∧ e = .returned (.agg #[.bool (neg && decide (0 < (limbs k).length)), .slice a' (limbs k).length c']) ∧ In w' a' c' (limbs k)) ∧ Below w.heap.size w w' := by
  have hA := (bel_alloc w (.cells #[.bool neg, .slice a (limbs p).length ca] 26)).trans ((bel_alloc _ (.cells #[.bool false, .slice none 0 0] 26)).mono (by simp))
  have K1 := (Box2.new w (.bool neg) (.slice a (limbs p).length ca) 26 _ rfl).below (bel_alloc _ (.cells #[.bool false, .slice none 0 0] 26)) (Nat.le_refl _)
  have K2 := Box2.new (w.alloc (.cells #[.bool neg, .slice a (limbs p).length ca] 26)) (.bool false) (.slice none 0 0) 26 _ rfl
  rw [World.size_alloc] at K2
  have hs0 : ((w.alloc (.cells #[.bool neg, .slice a (limbs p).length ca] 26)).alloc (.cells #[.bool false, .slice none 0 0] 26)).heap.size = w.heap.size + 2 := by simp
  have hx1 := hx.below hA (Nat.le_refl _)
  have hy1 := hy.below hA (Nat.le_refl _)
  obtain ⟨hc0, hc1⟩ := K1.1
  have HC0 := Lib.hid hc0
  have HC1 := Lib.hid hc1
  clear hc0 hc1
  go_enter Try.func37, Try.ntmps37
  go_wp2_with fail
  generalize (w.alloc (.cells #[.bool neg, .slice a (limbs p).length ca] 26)).alloc (.cells #[.bool false, .slice none 0 0] 26) = w0 at hA K1 K2 hs0 hx1 hy1 ⊢
  clear HC0 HC1
  refine (natDiv_any _ _ _ _ p n _ hx1.1 hy1.1 (by omega) (by omega) hn).mono ?_
  rintro e w1 ⟨⟨aq, cq, ar, cr, lo, up, lo', up', rfl, sQ, sR, hlo, hlo', -⟩, hb⟩
  have lQ : (limbs (p / n)).length ≤ 50 := Nat.le_trans (limbs_len_mono (Nat.div_le_self p n)) lp
  have lR : (limbs (p % n)).length ≤ 50 := Nat.le_trans (limbs_len_mono (Nat.mod_le p n)) lp
  obtain ⟨Q, hQ⟩ : ∃ Q, p / n = Q := ⟨_, rfl⟩
  obtain ⟨R, hR⟩ : ∃ R, p % n = R := ⟨_, rfl⟩
  rw [hQ] at sQ lQ
  rw [hR] at sR lR
  rw [hQ, hR]
  replace hA := hA.trans (hb.mono hA.size)
  replace K1 := K1.below hb (Nat.le_refl _)
  replace K2 := K2.below hb (Nat.le_refl _)
  replace hy1 := hy1.below hb (Nat.le_refl _)
  have hz1 := hb.size
  have iQ := sQ.inn2 (by omega)
  have iR := sR.inn2 (by omega)
  have bx := Below.refl w1.heap.size w1
  obtain ⟨⟨hc0, hc1⟩, -, -⟩ := K1
  have HQ := Lib.hid hQ
  have HR := Lib.hid hR
  clear hb hQ hR hx1 sR
  go_upto_region 2 with fail
  go_cut [7, 35] (fun t b wx => ∃ bb : Bool, t = .slice aq (limbs Q).length cq ∧ b = .bool bb ∧ (bb = true → 0 < R) ∧ Below w1.heap.size w1 wx)
  case first =>
    rcases Nat.eq_zero_or_pos R with hR0 | hR0
    · have hRl : (limbs R).length = 0 := by rw [hR0]; rfl
      clear hR0
      go_region
      all_goals (go_wp2; go_meet; exact ⟨false, rfl, rfl, (fun h => by cases h), bx.drew⟩)
    · have hRl : 0 < (limbs R).length := limbs_len_pos.2 (by omega)
      have hRd : decide ((0 : Int) < ((limbs R).length : Int)) = true := decide_eq_true (by omega)
      have S0 : w1.cell? ⟨w.heap.size, 0, none⟩ = some (.bool neg) := hc0
      rcases in7' hm with rfl | rfl | rfl | rfl | rfl | rfl | rfl
      all_goals
        have i0 := modes_index0
        have i1 := modes_index1
        have i2 := modes_index2
        have i3 := modes_index3
        have i4 := modes_index4
        have i5 := modes_index5
        have i6 := modes_index6
        have n0 := modes_away0
        have n1 := modes_away1
        have n2 := modes_away2
        have n3 := modes_away3
        have n4 := modes_away4
        have n5 := modes_away5
        have n6 := modes_away6
        go_region_held3 (fun w' => w'.cell? ⟨w.heap.size, 0, none⟩ = some (.bool neg))
          (first | exact z4 | exact z3 | exact z2 | exact z1 | exact S0)
          (first | (have g5 := f4; go_at_call 83; refine (away6 _ _ _ _).mono ?_; rintro e v5 ⟨⟨rr, rfl⟩, rfl⟩; have f5 := f4) | (have g5 := f4; go_at_call 82; refine (away5 _ _ _ _).mono ?_; rintro e v5 ⟨⟨rr, rfl⟩, rfl⟩; have f5 := f4) | (have g5 := f4; go_at_call 81; refine (away4 _ _ _ _).mono ?_; rintro e v5 ⟨⟨rr, rfl⟩, rfl⟩; have f5 := f4) | (have g5 := f4; go_at_call 80; refine (away3 _ _ _ _).mono ?_; rintro e v5 ⟨⟨rr, rfl⟩, rfl⟩; have f5 := f4) | (have g5 := f4; go_at_call 79; refine (away2 _ _ _ _).mono ?_; rintro e v5 ⟨⟨rr, rfl⟩, rfl⟩; have f5 := f4) | (have g5 := f4; go_at_call 78; refine (away1 _ _ _ _).mono ?_; rintro e v5 ⟨⟨rr, rfl⟩, rfl⟩; have f5 := f4) | (have g5 := f4; go_at_call 77; refine (away0 _ _ _ _).mono ?_; rintro e v5 ⟨⟨rr, rfl⟩, rfl⟩; have f5 := f4) | (have g4 := f3; go_at_call 62; refine (impl_NatEven _ _ _ _ (iQ.below f3 (Nat.le_refl _))).mono ?_; rintro e v4 ⟨rfl, hq4⟩; have f4 := f3.trans (hq4.mono f3.size); have z4 := cell_keep f4 hc0 (Nat.le_refl _)) | (have g3 := f2; go_at_call 60; refine (natCmp_any _ _ _ _ (R + R) n _ o2.rd (hy1.1.below f2 (Nat.le_refl _)) (by have := len_add R R; omega) (by omega)).mono ?_; rintro e v3 ⟨rfl, qq, rfl⟩; have f3 := bel_drewN f2 qq; have z3 := cell_keep f3 hc0 (Nat.le_refl _)) | (have g2 := f1; go_at_call 61; refine (natAdd_any _ _ _ _ R R _ (iR.1.below f1 (Nat.le_refl _)) (iR.1.below f1 (Nat.le_refl _)) (by omega) (by omega)).mono ?_; rintro e v2 ⟨⟨a2, c2, rfl, o2⟩, hq2⟩; have f2 := f1.trans (hq2.mono f1.size); have z2 := cell_keep f2 hc0 (Nat.le_refl _)) | (go_at_call 59; refine (roundModes_any _).mono ?_; rintro e v1 ⟨rfl, hq1⟩; have f1 := bx.drew.trans (hq1.mono bx.drew.size); have z1 := cell_keep f1 hc0 (Nat.le_refl _)))
        all_goals (go_wp2; go_meet; exact ⟨rr, rfl, rfl, fun _ => hR0, f4⟩)
  case rest =>
    obtain ⟨bb, rfl, rfl, hbb, hb⟩ := hcut
    replace hc0 := cell_keep hb hc0 (Nat.le_refl _)
    replace K2 := K2.below hb (Nat.le_refl _)
    replace hA := hA.trans (hb.mono hA.size)
    replace sQ := sQ.below hb sQ.1
    replace iQ := iQ.below hb (Nat.le_refl _)
    have hz2 := hb.size
    clear iR hc1 hb bx
    obtain ⟨wv, hwv⟩ : ∃ x : World, x = wc := ⟨_, rfl⟩
    rw [← hwv] at hc0 K2 hA sQ iQ hz2 ⊢
    clear hwv
    cases bb
    · obtain ⟨k, hkk⟩ : ∃ k, k = Q := ⟨_, rfl⟩
      have hk := Lib.hid (show k = p / n ∨ (k = p / n + 1 ∧ 0 < p % n) from .inl (hkk.trans HQ.out.symm))
      subst hkk
      go_wp2_with fail
      refine (signed_any neg aq cq (limbs k) _ (by omega)).mono ?_
      rintro e w5 ⟨rfl, hb5⟩
      replace K2 := K2.below hb5 (Nat.le_refl _)
      replace hA := hA.trans (hb5.mono hA.size)
      replace sQ := sQ.below hb5 sQ.1
      obtain ⟨⟨hr0, hr1⟩, g0, g1⟩ := K2
      obtain ⟨sgn, hsgn⟩ : ∃ b, (neg && decide (0 < (limbs k).length)) = b := ⟨_, rfl⟩
      rw [hsgn]
      have HSG := Lib.hid hsgn
      clear hsgn hc0
      go_wp2
      have hq0 := set2_cell0 (u := .bool sgn) (v := .slice aq (limbs k).length cq) hr0
      have hq1 := set2_cell1 (u := .bool sgn) (v := .slice aq (limbs k).length cq) hr1
      have sQ2 := sQ.wr (((Wr.refl w5 (w.heap.size + 1) (w.heap.size + 2)).set (g := w.heap.size + 1) (k := 0) ⟨Nat.le_refl _, by omega⟩ (.bool sgn)).set (g := w.heap.size + 1) (k := 1) ⟨Nat.le_refl _, by omega⟩ (.slice aq (limbs k).length cq)) (.inr (by omega))
      refine bodyPost_ret (v := .agg #[.bool sgn, .slice aq (limbs k).length cq]) (by simp [results, Try.results37, go_sem, hq0, hq1]) rfl ⟨⟨k, aq, cq, hk.out, by rw [HSG.out], sQ2.inn2 (by omega)⟩, set2_below hA (by omega)⟩
    · have hR0 := hbb rfl
      go_wp2_with fail
      have hlit : Own (wv.alloc (.cells #[.int .i64 1] 3)) wv.heap.size (some ⟨wv.heap.size, 0, none⟩) 1 (limbs 1) := World.ownsRow_lit wv #[.int .i64 1] 1 (Nat.le_refl _) (by unfold maxLen; omega) rfl
      have hal := bel_alloc wv (.cells #[.int .i64 1] 3)
      have hna := natAdd_any aq (some ⟨wv.heap.size, 0, none⟩) cq 1 Q 1 _ (iQ.below hal (Nat.le_refl _)).1 hlit.rd (by omega) (by rw [show (limbs 1).length = 1 from rfl]; omega)
      rw [show (limbs 1).length = 1 from rfl] at hna
      refine hna.mono ?_
      rintro e v6 ⟨⟨a6, c6, rfl, o6⟩, hb6⟩
      have f6 := hal.trans (hb6.mono hal.size)
      have hlen := len_add Q 1
      rw [show (limbs 1).length = 1 from rfl] at hlen
      replace hc0 := cell_keep f6 hc0 (Nat.le_refl _)
      replace K2 := K2.below f6 (Nat.le_refl _)
      replace hA := hA.trans (f6.mono hA.size)
      have hz6 := f6.size
      have sK := Slot.of o6
      obtain ⟨k, hkk⟩ : ∃ k, k = Q + 1 := ⟨_, rfl⟩
      have hk := Lib.hid (show k = p / n ∨ (k = p / n + 1 ∧ 0 < p % n) from .inr ⟨by rw [HQ.out]; exact hkk, by rw [HR.out]; exact hR0⟩)
      rw [← hkk] at sK hlen ⊢
      rw [World.size_alloc] at sK
      clear hkk hlit hal hna hb6 f6 sQ iQ o6
      go_wp2_with fail
      refine (signed_any neg a6 c6 (limbs k) _ (by omega)).mono ?_
      rintro e w5 ⟨rfl, hb5⟩
      replace K2 := K2.below hb5 (Nat.le_refl _)
      replace hA := hA.trans (hb5.mono hA.size)
      replace sK := sK.below hb5 sK.1
      obtain ⟨⟨hr0, hr1⟩, g0, g1⟩ := K2
      obtain ⟨sgn, hsgn⟩ : ∃ b, (neg && decide (0 < (limbs k).length)) = b := ⟨_, rfl⟩
      rw [hsgn]
      have HSG := Lib.hid hsgn
      clear hsgn hc0
      go_wp2
      have hq0 := set2_cell0 (u := .bool sgn) (v := .slice a6 (limbs k).length c6) hr0
      have hq1 := set2_cell1 (u := .bool sgn) (v := .slice a6 (limbs k).length c6) hr1
      have sK2 := sK.wr (((Wr.refl w5 (w.heap.size + 1) (w.heap.size + 2)).set (g := w.heap.size + 1) (k := 0) ⟨Nat.le_refl _, by omega⟩ (.bool sgn)).set (g := w.heap.size + 1) (k := 1) ⟨Nat.le_refl _, by omega⟩ (.slice a6 (limbs k).length c6)) (.inr (by omega))
      refine bodyPost_ret (v := .agg #[.bool sgn, .slice a6 (limbs k).length c6]) (by simp [results, Try.results37, go_sem, hq0, hq1]) rfl ⟨⟨k, a6, c6, hk.out, by rw [HSG.out], sK2.inn2 (by omega)⟩, set2_below hA (by omega)⟩
end Go.Proofs.Ytcibccaimjifmaa
