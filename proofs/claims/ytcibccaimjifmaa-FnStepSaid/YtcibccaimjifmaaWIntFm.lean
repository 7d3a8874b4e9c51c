/- The walks of the exported functions of one or two integers (IntMul, IntSub). Printed by gen_if.py. -/
import Derived.Test.YtcibccaimjifmaaWIntFn
namespace Go.Proofs.Ytcibccaimjifmaa
open Go.RowKit
set_option linter.unusedSimpArgs false in
set_option maxHeartbeats 3200000 in
theorem impl_IntSub (b1 b2 : Bool) (a b : Option Addr) (ca cb : Nat) (xs ys : List Int) (w : World) (hx : In w a ca xs) (hy : In w b cb ys) :
    Calls Try.prog 21 #[.agg #[.bool b1, .slice a xs.length ca], .agg #[.bool b2, .slice b ys.length cb]] w fun e w' => (∃ a' c', e = .returned (.agg #[.bool (fISub b1 xs b2 ys).1, .slice a' (fISub b1 xs b2 ys).2.length c']) ∧ Own w' w.heap.size a' c' (fISub b1 xs b2 ys).2 ∧ (fISub b1 xs b2 ys).2.length ≤ 50) ∧ Below w.heap.size w w' := by
  have hA := (((bel_alloc w (.cells #[.bool b1, .slice a xs.length ca] 26)).trans ((bel_alloc _ (.cells #[.bool b2, .slice b ys.length cb] 26)).mono (by simp))).trans ((bel_alloc _ (.cells #[.bool false, .slice none 0 0] 26)).mono (by simp; omega)))
  have hxA := Lib.hid (hx.below hA (Nat.le_refl _))
  have hyA := Lib.hid (hy.below hA (Nat.le_refl _))
  cases h1 : intB b1 xs
  · have hF0 : fISub b1 xs b2 ys = (false, []) := by unfold fISub; rw [h1]; rfl
    go_enter Try.func21, Try.ntmps21
    go_wp2_with fail
    refine (intsOk_any _ _ _ _ _ _ _ _ _ hxA.out hyA.out).mono ?_
    rintro e w1 ⟨rfl, hb1⟩
    have hbW := hb1
    rw [h1]
    obtain ⟨hc, hf⟩ := bcell hbW
    have hz := hbW.size
    simp only [World.size_alloc] at hz
    have hB := hA.trans (hbW.mono hA.size)
    go_wp2
    refine bodyPost_ret (v := .agg #[.bool false, .slice none 0 0]) (by simp [results, Try.results21, go_sem, hc]) rfl ⟨⟨none, 0, ?_, ?_, ?_⟩, ?_⟩
    · rw [hF0]; rfl
    · rw [hF0]; exact Own.nil _ _
    · rw [hF0]; exact Nat.zero_le _
    · exact (hB.setCell (by dsimp only; omega) _).setCell (by dsimp only; omega) _
  cases h2 : intB b2 ys
  · have hF0 : fISub b1 xs b2 ys = (false, []) := by unfold fISub; rw [h1, h2]; rfl
    go_enter Try.func21, Try.ntmps21
    go_wp2_with fail
    refine (intsOk_any _ _ _ _ _ _ _ _ _ hxA.out hyA.out).mono ?_
    rintro e w1 ⟨rfl, hb1⟩
    have hbW := hb1
    rw [h1]
    rw [h2]
    obtain ⟨hc, hf⟩ := bcell hbW
    have hz := hbW.size
    simp only [World.size_alloc] at hz
    have hB := hA.trans (hbW.mono hA.size)
    go_wp2
    refine bodyPost_ret (v := .agg #[.bool false, .slice none 0 0]) (by simp [results, Try.results21, go_sem, hc]) rfl ⟨⟨none, 0, ?_, ?_, ?_⟩, ?_⟩
    · rw [hF0]; rfl
    · rw [hF0]; exact Own.nil _ _
    · rw [hF0]; exact Nat.zero_le _
    · exact (hB.setCell (by dsimp only; omega) _).setCell (by dsimp only; omega) _
  obtain ⟨m, rfl, hm, hmz, hv1, -⟩ := intB_elim h1
  obtain ⟨n, rfl, hn, hnz, hv2, -⟩ := intB_elim h2
  have hF : fISub b1 (limbs m) b2 (limbs n) = sg (capZ (zOf b1 m + zOf (!b2 && decide (0 < (limbs n).length)) n)) := by unfold fISub; rw [h1, h2, hv1, hv2, zOf_and, ← zOf_neg]; rfl
  go_enter Try.func21, Try.ntmps21
  go_wp2_with fail
  refine (intsOk_any _ _ _ _ _ _ _ _ _ hxA.out hyA.out).mono ?_
  rintro e w1 ⟨rfl, hb1⟩
  have hbW := hb1
  rw [h1]
  rw [h2]
  obtain ⟨hc, hf⟩ := bcell hbW
  have hz := hbW.size
  simp only [World.size_alloc] at hz
  have hB := hA.trans (hbW.mono hA.size)
  have B3 := box3 w (.bool b1) (.slice a (limbs m).length ca) (.bool b2) (.slice b (limbs n).length cb) (.bool false) (.slice none 0 0) 26
  have K0 := Lib.hid (show w1.cell? ⟨w.heap.size, 0, none⟩ = some (.bool b1) ∧ w1.cell? ⟨w.heap.size, 1, none⟩ = some (.slice a (limbs m).length ca) ∧ w1.cell? ⟨w.heap.size + 1, 0, none⟩ = some (.bool b2) ∧ w1.cell? ⟨w.heap.size + 1, 1, none⟩ = some (.slice b (limbs n).length cb) from ⟨((hc w.heap.size 0 (by simp only [World.size_alloc]; omega)).trans B3.1), ((hc w.heap.size 1 (by simp only [World.size_alloc]; omega)).trans B3.2.1), ((hc (w.heap.size + 1) 0 (by simp only [World.size_alloc]; omega)).trans B3.2.2.1), ((hc (w.heap.size + 1) 1 (by simp only [World.size_alloc]; omega)).trans B3.2.2.2.1)⟩)
  have R0 := Lib.hid (show w1.cell? ⟨w.heap.size + 1 + 1, 0, none⟩ = some (.bool false) ∧ w1.cell? ⟨w.heap.size + 1 + 1, 1, none⟩ = some (.slice none 0 0) ∧ w1.frozen? ⟨w.heap.size + 1 + 1, 0, none⟩ = false ∧ w1.frozen? ⟨w.heap.size + 1 + 1, 1, none⟩ = false from ⟨((hc (w.heap.size + 1 + 1) 0 (by simp only [World.size_alloc]; omega)).trans B3.2.2.2.2.1), ((hc (w.heap.size + 1 + 1) 1 (by simp only [World.size_alloc]; omega)).trans B3.2.2.2.2.2), (hf (w.heap.size + 1 + 1) 0 (by simp only [World.size_alloc]; omega)).trans (box_last _ _ _ _ _ (by simp only [World.size_alloc])).2.2.1, (hf (w.heap.size + 1 + 1) 1 (by simp only [World.size_alloc]; omega)).trans (box_last _ _ _ _ _ (by simp only [World.size_alloc])).2.2.2⟩)
  have hxq := Lib.hid (hxA.out.below hbW.drew (Nat.le_refl _))
  have hyq := Lib.hid (hyA.out.below hbW.drew (Nat.le_refl _))
  clear hc hf
  go_wp2_with fail
  go_region_held3 (fun w' => w'.cell? ⟨w.heap.size, 0, none⟩ = some (.bool b1) ∧ w'.cell? ⟨w.heap.size, 1, none⟩ = some (.slice a (limbs m).length ca) ∧ w'.cell? ⟨w.heap.size + 1, 0, none⟩ = some (.bool b2) ∧ w'.cell? ⟨w.heap.size + 1, 1, none⟩ = some (.slice b (limbs n).length cb))
    (first | (exact ⟨(keepS (by omega) k3_0).1, (keepS (by omega) k3_0).2, (keepS (by omega) k3_1).1, (keepS (by omega) k3_1).2⟩) | (exact ⟨k3_0.1, k3_0.2, k3_1.1, k3_1.2⟩) | (exact ⟨k2_0.1, k2_0.2, k2_1.1, k2_1.2⟩) | (exact ⟨k1_0.1, k1_0.2, k1_1.1, k1_1.2⟩) | (exact K0.out) | go_keep)
    (first | (go_at_call 47; refine (intNeg_any _ _ _ _ _ hyq.out).mono ?_; rintro e q1 ⟨⟨a1, c1, rfl, ho1⟩, hq1⟩; have hs1 := hq1.size; have k1_0 := keep2 (b := w.heap.size) (u := .bool b1) (v := .slice a (limbs m).length ca) hq1 (show _ < (w1).heap.size by omega) K0.out.1 K0.out.2.1; have k1_1 := keep2 (b := w.heap.size + 1) (u := .bool b2) (v := .slice b (limbs n).length cb) hq1 (show _ < (w1).heap.size by omega) K0.out.2.2.1 K0.out.2.2.2; have hs1' : (w1).heap.size ≤ q1.heap.size := hs1; have r1 := keep2 (b := w.heap.size + 1 + 1) (u := .bool false) (v := .slice none 0 0) hq1 (show _ < (w1).heap.size by omega) R0.out.1 R0.out.2.1; have f1 := keepf (b := w.heap.size + 1 + 1) hq1 (show _ < (w1).heap.size by omega) R0.out.2.2.1 R0.out.2.2.2) | (go_at_call 46; refine (intAdd_z _ _ _ _ _ _ _ _ _ (hxq.out.below hq1 (Nat.le_refl _)) (ho1.inn (by omega)) (by omega) (by omega)).mono ?_; rintro e q2 ⟨⟨s, k, a2, c2, hk, hk0, hkl, rfl, ho2⟩, hq2⟩; have hs2 := hq2.size; have k2_0 := keep2 hq2 (by omega) k1_0.1 k1_0.2; have k2_1 := keep2 hq2 (by omega) k1_1.1 k1_1.2; have r2 := keep2 hq2 (by omega) r1.1 r1.2; have f2 := keepf hq2 (by omega) f1.1 f1.2) | (go_at_call 45; refine (fitInt_any _ _ _ _ (w.heap.size + 3) _ (ho2.mono (by omega)) (by omega) (by omega)).mono ?_; rintro e q3 ⟨⟨a3, c3, rfl, ho3⟩, hq3⟩; have hs3 := hq3.size; have k3_0 := keep2 hq3 (by omega) k2_0.1 k2_0.2; have k3_1 := keep2 hq3 (by omega) k2_1.1 k2_1.2; have r3 := keep2 hq3 (by omega) r2.1 r2.2; have f3 := keepf hq3 (by omega) f2.1 f2.2; obtain ⟨ra, rb⟩ := r3; obtain ⟨fa, fb⟩ := f3))
  go_wp2
  have hl := capZ_len (zOf s k)
  rw [hk] at hF
  replace hB := ((hB.drew.trans (hq1.mono (show w.heap.size ≤ w1.heap.size by omega))).trans (hq2.mono (by omega))).trans (hq3.mono (by omega))
  refine bodyPost_ret (v := .agg #[.bool (sg (capZ (zOf s k))).1, .slice a3 (sg (capZ (zOf s k))).2.length c3]) (by simp [results, Try.results21, go_sem, ra, rb]) rfl ⟨⟨a3, c3, ?_, ?_, ?_⟩, ?_⟩
  · rw [hF]
  · rw [hF]
    exact own_set (B0 := w.heap.size + 3) (own_set (B := w.heap.size + 3) (B0 := w.heap.size + 3) ho3 (by dsimp only; omega) _ (Nat.le_refl _)) (by dsimp only; omega) _ (by omega)
  · rw [hF]; exact hl
  · exact (hB.setCell (by dsimp only; omega) _).setCell (by dsimp only; omega) _
end Go.Proofs.Ytcibccaimjifmaa
