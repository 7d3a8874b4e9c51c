/- The walk of RatNeg (reference). (Printed by gen_rat2.py.) -/
import Derived.Test.YtoandabopahmhaaWRatApp
import Derived.Test.YtoandabopahmhaaWIntFm
namespace Go.Proofs.Ytoandabopahmhaa
open Go.RowKit
set_option linter.unusedVariables false
set_option linter.unusedSimpArgs false in
set_option maxRecDepth 100000 in
set_option maxHeartbeats 40000000 in
theorem spec_RatNeg (n1 : Bool) (a1 : Option Addr) (c1 : Nat) (xs : List Int) (b1 : Option Addr) (d1 : Nat) (ys : List Int) (w : World) (hx : In w a1 c1 xs) (hy : In w b1 d1 ys) :
    Calls Try.prog 34 #[.agg #[.bool n1, .slice a1 xs.length c1, .slice b1 ys.length d1]] w fun e w' => SRatPost2 w (fRatNeg n1 xs ys) e w' := by
  have hA := ((bel_alloc w (.cells #[.bool n1, .slice a1 xs.length c1, .slice b1 ys.length d1] 31)).trans ((bel_alloc _ (.cells #[.bool false, .slice none 0 0, .slice none 0 0] 31)).mono (by simp)))
  have hzA : w.heap.size + 2 ≤ (World.alloc (World.alloc w (.cells #[.bool n1, .slice a1 xs.length c1, .slice b1 ys.length d1] 31)) (.cells #[.bool false, .slice none 0 0, .slice none 0 0] 31)).heap.size := by simp only [World.size_alloc]; omega
  have Q1 := ((Box3.new w (.bool n1) (.slice a1 xs.length c1) (.slice b1 ys.length d1) 31 (w.heap.size) (by simp)).below (bel_alloc _ (.cells #[.bool false, .slice none 0 0, .slice none 0 0] 31)) (Nat.le_refl _))
  have hR := (Box3.new (World.alloc w (.cells #[.bool n1, .slice a1 xs.length c1, .slice b1 ys.length d1] 31)) (.bool false) (.slice none 0 0) (.slice none 0 0) 31 (w.heap.size + 1) (by simp))
  have HX := Lib.hid (hx.below hA (Nat.le_refl _))
  have HY := Lib.hid (hy.below hA (Nat.le_refl _))
  cases h1 : ratB n1 xs ys
  · have hF0 := Lib.hid (show fRatNeg n1 xs ys = ratZ by unfold fRatNeg; rw [h1]; rfl)
    go_enter Try.func34, Try.ntmps34
    go_wp2_with fail
    refine (spec_RatOk _ _ _ _ _ _ _ _ HX.out HY.out).mono ?_
    rintro e w1 ⟨rfl, hb⟩
    rw [h1]
    have zw1 := hb.size
    replace Q1 := Q1.below hb (Nat.le_refl _)
    replace hR := hR.below hb (Nat.le_refl _)
    replace HX := Lib.hid (HX.out.below hb (Nat.le_refl _))
    replace HY := Lib.hid (HY.out.below hb (Nat.le_refl _))
    have hB := hA.trans (hb.mono hA.size)
    clear hb
    have hRk := hR
    obtain ⟨⟨hrc0, hrc1, hrc2⟩, hrf0, hrf1, hrf2⟩ := hRk
    go_wp2
    refine bodyPost_ret (v := .tuple #[.agg #[.bool false, .slice none 0 0, .slice none 0 0], .bool false]) (by simp [results, Try.results34, go_sem, hrc0, hrc1, hrc2]) rfl ?_
    rw [hF0.out]
    exact sratPost2_zero (set3_below hB (by omega))
  have h1' := h1
  obtain ⟨m, n, rfl, rfl, lm, ln, hn0, -, -, hi, -, -, -⟩ := ratB_elim h1'
  have hF := Lib.hid (show fRatNeg n1 (limbs m) (limbs n) = (((!n1) && decide (0 < (limbs m).length), limbs m, limbs n), true) by unfold fRatNeg; rw [h1]; rfl)
  go_enter Try.func34, Try.ntmps34
  go_wp2_with fail
  refine (spec_RatOk _ _ _ _ _ _ _ _ HX.out HY.out).mono ?_
  rintro e w1 ⟨rfl, hb⟩
  rw [h1]
  have zw1 := hb.size
  replace Q1 := Q1.below hb (Nat.le_refl _)
  replace hR := hR.below hb (Nat.le_refl _)
  replace HX := Lib.hid (HX.out.below hb (Nat.le_refl _))
  replace HY := Lib.hid (HY.out.below hb (Nat.le_refl _))
  have hB := hA.trans (hb.mono hA.size)
  clear hb
  replace hi := Lib.hid hi
  go_upto_region 3 with fail
  have nq0 : w.heap.size + 1 ≠ w.heap.size := by omega
  have hbq : Below w1.heap.size w1 (World.drew w1) := (Below.refl _ _).drew
  go_region_held3 (fun w' => w'.cell? ⟨w.heap.size, 0, none⟩ = some (.bool n1) ∧ w'.cell? ⟨w.heap.size, 1, none⟩ = some (.slice a1 (limbs m).length c1) ∧ w'.cell? ⟨w.heap.size, 2, none⟩ = some (.slice b1 (limbs n).length d1))
    (first | (with_reducible exact ⟨far3 nq0 (cell_keep hbq Q1.1.1 (Nat.le_refl _)), far3 nq0 (cell_keep hbq Q1.1.2.1 (Nat.le_refl _)), far3 nq0 (cell_keep hbq Q1.1.2.2 (Nat.le_refl _))⟩) | (exact ⟨cell_keep hbq Q1.1.1 (Nat.le_refl _), cell_keep hbq Q1.1.2.1 (Nat.le_refl _), cell_keep hbq Q1.1.2.2 (Nat.le_refl _)⟩) | (exact ⟨Q1.1.1, Q1.1.2.1, Q1.1.2.2⟩) | (exact ⟨cell_keep (bel_alloc _ _) (cell_keep hbq Q1.1.1 (Nat.le_refl _)) (Nat.le_refl _), cell_keep (bel_alloc _ _) (cell_keep hbq Q1.1.2.1 (Nat.le_refl _)) (Nat.le_refl _), cell_keep (bel_alloc _ _) (cell_keep hbq Q1.1.2.2 (Nat.le_refl _)) (Nat.le_refl _)⟩) | (exact ⟨cell_keep (bel_alloc _ _) Q1.1.1 (Nat.le_refl _), cell_keep (bel_alloc _ _) Q1.1.2.1 (Nat.le_refl _), cell_keep (bel_alloc _ _) Q1.1.2.2 (Nat.le_refl _)⟩) | go_keep)
    (first | (go_at_call 76; (try (with_reducible show Calls _ _ _ (World.drew (World.alloc _ _)) _; have gq := alloc_empty_drew w1; replace hbq := gq.1; have hO := gq.2.1; have hOn := gq.2.2; clear gq)); refine (spec_IntNeg_n n1 _ _ m _ (HX.out.below hbq (Nat.le_refl _)) hi.out).mono ?_; rintro e qA ⟨⟨e1, g1, rfl, ho1⟩, hq⟩; have zpA := hbq.size; (try (have hlt := (Own.lt hO).2; have hn1 := Own.ne_lo ho1 hlt)); (try replace hO := hO.below hq (Nat.le_refl _)); (try replace ho2 := ho2.below hq (Nat.le_refl _)); have zsA := hq.size; replace hbq := hbq.trans (hq.mono hbq.size); clear hq; (try (have ho12 := And.intro ho1 ho2; have hRq := hR.below hbq (Nat.le_refl _); obtain ⟨⟨hrc0, hrc1, hrc2⟩, hrf0, hrf1, hrf2⟩ := hRq))) | (refine step_app0 _ rfl _ _ rfl _ b1 d1 (limbs n) rfl rfl hO (HY.out.below hbq (Nat.le_refl _)).1 (by omega) ?_; intro e2 g2 qP ho2 hw; have zpP := hbq.size; replace ho1 := ho1.wrne hw hn1; replace hbq := below_wr hbq hw hOn hbq.size; have zsP := hw.size; clear hw hO; (try (have ho12 := And.intro ho1 ho2; have hRq := hR.below hbq (Nat.le_refl _); obtain ⟨⟨hrc0, hrc1, hrc2⟩, hrf0, hrf1, hrf2⟩ := hRq))) | (have hn1 := Own.ne_hi ho1 (Nat.le_refl _); have gq := alloc_empty hbq; have ho1a := ho1.alloc (.cells #[] 3); refine step_app0 _ rfl _ _ rfl _ b1 d1 (limbs n) rfl rfl gq.2.1 (HY.out.below gq.1 (Nat.le_refl _)).1 (by omega) ?_; replace hbq := gq.1; intro e2 g2 qP ho2 hw; have zpP := hbq.size; replace ho1 := ho1a.wrne hw hn1; clear ho1a; replace hbq := below_wr hbq hw gq.2.2 hbq.size; have zsP := hw.size; clear hw gq; (try (have ho12 := And.intro ho1 ho2; have hRq := hR.below hbq (Nat.le_refl _); obtain ⟨⟨hrc0, hrc1, hrc2⟩, hrf0, hrf1, hrf2⟩ := hRq))) | (have gq := alloc_empty_drew w1; refine step_app0 _ rfl _ _ rfl _ b1 d1 (limbs n) rfl rfl gq.2.1 (HY.out.below gq.1 (Nat.le_refl _)).1 (by omega) ?_; replace hbq := gq.1; intro e2 g2 qP ho2 hw; have zpP := hbq.size; replace hbq := below_wr hbq hw gq.2.2 hbq.size; have zsP := hw.size; clear hw gq) | (have gq := alloc_empty (Below.refl w1.heap.size w1); refine step_app0 _ rfl _ _ rfl _ b1 d1 (limbs n) rfl rfl gq.2.1 (HY.out.below gq.1 (Nat.le_refl _)).1 (by omega) ?_; replace hbq := gq.1; intro e2 g2 qP ho2 hw; have zpP := hbq.size; replace hbq := below_wr hbq hw gq.2.2 hbq.size; have zsP := hw.size; clear hw gq))
  all_goals
    go_wp2
    refine bodyPost_ret (v := .tuple #[.agg #[.bool ((!n1) && decide (0 < (limbs m).length)), .slice e1 (limbs m).length g1, .slice e2 (limbs n).length g2], .bool true]) (by simp [results, Try.results34, go_sem, hrc0, hrc1, hrc2]) rfl ?_
    rw [hF.out]
    exact ⟨⟨e1, g1, e2, g2, rfl, set3_own (B0 := w1.heap.size) (ho1.mono (by omega)) (by omega) (by omega), by dsimp only; omega, set3_own (B0 := w1.heap.size) (ho2.mono (by omega)) (by omega) (by omega), by dsimp only; omega⟩, set3_below (hB.trans (hbq.mono hB.size)) (by omega)⟩
end Go.Proofs.Ytoandabopahmhaa
