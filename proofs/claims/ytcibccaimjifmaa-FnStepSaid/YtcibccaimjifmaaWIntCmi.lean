/- The walks of the exported functions of one or two integers (IntCmp). Printed by gen_if.py. -/
import Derived.Test.YtcibccaimjifmaaWIntCmp
namespace Go.Proofs.Ytcibccaimjifmaa
open Go.RowKit
set_option linter.unusedSimpArgs false in
set_option maxHeartbeats 3200000 in
theorem intCmp_any (b1 b2 : Bool) (a b : Option Addr) (ca cb m n : Nat) (w : World) (hx : In w a ca (limbs m)) (hy : In w b cb (limbs n)) (lm : (limbs m).length ≤ 1000) (ln : (limbs n).length ≤ 1000) :
    Calls Try.prog 48 #[.agg #[.bool b1, .slice a (limbs m).length ca], .agg #[.bool b2, .slice b (limbs n).length cb]] w fun e w' => e = .returned (.int .i64 (sgnZ (zOf b1 m - zOf b2 n))) ∧ Below w.heap.size w w' := by
  have hA := ((bel_alloc w (.cells #[.bool b1, .slice a (limbs m).length ca] 26)).trans ((bel_alloc _ (.cells #[.bool b2, .slice b (limbs n).length cb] 26)).mono (by simp)))
  have B2 := box2 w (.bool b1) (.slice a (limbs m).length ca) (.bool b2) (.slice b (limbs n).length cb) 26
  have hzq : w.heap.size + 2 ≤ (World.alloc (World.alloc w (.cells #[.bool b1, .slice a (limbs m).length ca] 26)) (.cells #[.bool b2, .slice b (limbs n).length cb] 26)).heap.size := by simp only [World.size_alloc]; omega
  go_enter Try.func48, Try.ntmps48
  go_wp2_with fail
  obtain ⟨W5, hW5⟩ : ∃ x : World, x = (World.alloc (World.alloc w (.cells #[.bool b1, .slice a (limbs m).length ca] 26)) (.cells #[.bool b2, .slice b (limbs n).length cb] 26)) := ⟨_, rfl⟩
  rw [← hW5] at B2 hA hzq ⊢
  clear hW5
  have K0 := Lib.hid B2
  clear B2
  have hxq := Lib.hid (hx.below hA.drew (Nat.le_refl _))
  have hyq := Lib.hid (hy.below hA.drew (Nat.le_refl _))
  go_region_held3 (fun w' => w'.cell? ⟨w.heap.size, 0, none⟩ = some (.bool b1) ∧ w'.cell? ⟨w.heap.size, 1, none⟩ = some (.slice a (limbs m).length ca) ∧ w'.cell? ⟨w.heap.size + 1, 0, none⟩ = some (.bool b2) ∧ w'.cell? ⟨w.heap.size + 1, 1, none⟩ = some (.slice b (limbs n).length cb))
    (first | (exact ⟨k3_0.1, k3_0.2, k3_1.1, k3_1.2⟩) | (exact ⟨k2_0.1, k2_0.2, k2_1.1, k2_1.2⟩) | (exact ⟨k1_0.1, k1_0.2, k1_1.1, k1_1.2⟩) | (exact K0.out) | go_keep)
    (first | (go_at_call 47; refine (intNeg_any _ _ _ _ _ hyq.out).mono ?_; rintro e q1 ⟨⟨a1, c1, rfl, ho1⟩, hq1⟩; have hs1 := hq1.size; have k1_0 := keep2 (b := w.heap.size) (u := .bool b1) (v := .slice a (limbs m).length ca) hq1 (show _ < (W5).heap.size by omega) K0.out.1 K0.out.2.1; have k1_1 := keep2 (b := w.heap.size + 1) (u := .bool b2) (v := .slice b (limbs n).length cb) hq1 (show _ < (W5).heap.size by omega) K0.out.2.2.1 K0.out.2.2.2; have hs1' : (W5).heap.size ≤ q1.heap.size := hs1) | (go_at_call 46; refine (intAdd_z _ _ _ _ _ _ _ _ _ (hxq.out.below hq1 (Nat.le_refl _)) (ho1.inn (by omega)) (by omega) (by omega)).mono ?_; rintro e q2 ⟨⟨s, k, a2, c2, hk, hk0, hkl, rfl, ho2⟩, hq2⟩; have hs2 := hq2.size; have k2_0 := keep2 hq2 (by omega) k1_0.1 k1_0.2; have k2_1 := keep2 hq2 (by omega) k1_1.1 k1_1.2) | (go_at_call 68; refine (intSign_any _ _ _ _ _ (by omega)).mono ?_; rintro e q3 ⟨rfl, hq3⟩; have hs3 := hq3.size; have k3_0 := keep2 hq3 (by omega) k2_0.1 k2_0.2; have k3_1 := keep2 hq3 (by omega) k2_1.1 k2_1.2))
  go_wp2
  replace hA := ((hA.drew.trans (hq1.mono (show w.heap.size ≤ W5.heap.size by omega))).trans (hq2.mono (by omega))).trans (hq3.mono (by omega))
  go_ret
  refine ⟨?_, hA⟩
  rw [zOf_and, ← zOf_neg] at hk
  rw [show zOf b1 m - zOf b2 n = zOf s k from hk]
  rfl
set_option linter.unusedSimpArgs false in
set_option maxHeartbeats 3200000 in
theorem impl_IntCmp (b1 b2 : Bool) (a b : Option Addr) (ca cb : Nat) (xs ys : List Int) (w : World) (hx : In w a ca xs) (hy : In w b cb ys) :
    Calls Try.prog 22 #[.agg #[.bool b1, .slice a xs.length ca], .agg #[.bool b2, .slice b ys.length cb]] w fun e w' => e = .returned (.int .i64 (fICmp b1 xs b2 ys)) ∧ Below w.heap.size w w' := by
  have hA := ((bel_alloc w (.cells #[.bool b1, .slice a xs.length ca] 26)).trans ((bel_alloc _ (.cells #[.bool b2, .slice b ys.length cb] 26)).mono (by simp)))
  have hxA := Lib.hid (hx.below hA (Nat.le_refl _))
  have hyA := Lib.hid (hy.below hA (Nat.le_refl _))
  cases h1 : intB b1 xs
  · have hF0 : fICmp b1 xs b2 ys = 0 := by unfold fICmp; rw [h1]; rfl
    go_enter Try.func22, Try.ntmps22
    go_wp2_with fail
    refine (intsOk_any _ _ _ _ _ _ _ _ _ hxA.out hyA.out).mono ?_
    rintro e w1 ⟨rfl, hb1⟩
    have hbW := hb1
    rw [h1]
    obtain ⟨hc, hf⟩ := bcell hbW
    have hz := hbW.size
    simp only [World.size_alloc] at hz
    have hB := hA.trans (hbW.mono hA.size)
    go_wp2
    go_ret
    exact ⟨by rw [hF0]; rfl, hB⟩
  cases h2 : intB b2 ys
  · have hF0 : fICmp b1 xs b2 ys = 0 := by unfold fICmp; rw [h1, h2]; rfl
    go_enter Try.func22, Try.ntmps22
    go_wp2_with fail
    refine (intsOk_any _ _ _ _ _ _ _ _ _ hxA.out hyA.out).mono ?_
    rintro e w1 ⟨rfl, hb1⟩
    have hbW := hb1
    rw [h1]
    rw [h2]
    obtain ⟨hc, hf⟩ := bcell hbW
    have hz := hbW.size
    simp only [World.size_alloc] at hz
    have hB := hA.trans (hbW.mono hA.size)
    go_wp2
    go_ret
    exact ⟨by rw [hF0]; rfl, hB⟩
  obtain ⟨m, rfl, hm, hmz, hv1, -⟩ := intB_elim h1
  obtain ⟨n, rfl, hn, hnz, hv2, -⟩ := intB_elim h2
  have hF : fICmp b1 (limbs m) b2 (limbs n) = sgnZ (zOf b1 m - zOf b2 n) := by unfold fICmp; rw [h1, h2, hv1, hv2]; rfl
  rw [hF]
  go_enter Try.func22, Try.ntmps22
  go_wp2_with fail
  refine (intsOk_any _ _ _ _ _ _ _ _ _ hxA.out hyA.out).mono ?_
  rintro e w1 ⟨rfl, hb1⟩
  have hbW := hb1
  rw [h1]
  rw [h2]
  obtain ⟨hc, hf⟩ := bcell hbW
  have hz := hbW.size
  simp only [World.size_alloc] at hz
  have hB := hA.trans (hbW.mono hA.size)
  go_wp2_with fail
  refine (intCmp_any _ _ _ _ _ _ _ _ _ (hxA.out.below hbW (Nat.le_refl _)) (hyA.out.below hbW (Nat.le_refl _)) (by omega) (by omega)).mono ?_
  rintro e w3 ⟨rfl, hq⟩
  replace hbW := hbW.trans (hq.mono hbW.size)
  replace hB := hB.trans (hq.mono hB.size)
  clear hc hf
  obtain ⟨hc, hf⟩ := bcell hbW
  have hz_w3 := hq.size
  go_wp2
  go_ret
  exact ⟨rfl, hB⟩
end Go.Proofs.Ytcibccaimjifmaa
