/- The walks of the exported functions of one or two integers (IntNeg, IntAbs, IntMul, IntAdd). Printed by gen_if.py. -/
import Derived.Test.YtcibccaimjifmaaWIntAdd
namespace Go.Proofs.Ytcibccaimjifmaa
open Go.RowKit
set_option linter.unusedSimpArgs false in
set_option maxHeartbeats 3200000 in
theorem impl_IntAbs (neg : Bool) (a : Option Addr) (c : Nat) (xs : List Int) (w : World) (hx : In w a c xs) :
    Calls Try.prog 20 #[.agg #[.bool neg, .slice a xs.length c]] w fun e w' => (∃ a' c', e = .returned (.agg #[.bool (fAbs neg xs).1, .slice a' (fAbs neg xs).2.length c']) ∧ Own w' w.heap.size a' c' (fAbs neg xs).2 ∧ (fAbs neg xs).2.length ≤ 50) ∧ Below w.heap.size w w' := by
  have hA := ((bel_alloc w (.cells #[.bool neg, .slice a xs.length c] 26)).trans ((bel_alloc _ (.cells #[.bool false, .slice none 0 0] 26)).mono (by simp)))
  have hxA := Lib.hid (hx.below hA (Nat.le_refl _))
  cases h1 : intB neg xs
  · have hF0 : fAbs neg xs = (false, []) := by unfold fAbs; rw [h1]; rfl
    go_enter Try.func20, Try.ntmps20
    go_wp2_with fail
    refine (impl_IntOk _ _ _ _ _ hxA.out).mono ?_
    rintro e w1 ⟨rfl, hb1⟩
    rw [h1]
    have hbW := hb1
    obtain ⟨hc, hf⟩ := bcell hbW
    have hz := hbW.size
    simp only [World.size_alloc] at hz
    have hB := hA.trans (hbW.mono hA.size)
    go_wp2
    refine bodyPost_ret (v := .agg #[.bool false, .slice none 0 0]) (by simp [results, Try.results20, go_sem, hc]) rfl ⟨⟨none, 0, ?_, ?_, ?_⟩, ?_⟩
    · rw [hF0]; rfl
    · rw [hF0]; exact Own.nil _ _
    · rw [hF0]; exact Nat.zero_le _
    · exact (hB.setCell (by dsimp only; omega) _).setCell (by dsimp only; omega) _
  · obtain ⟨n, rfl, hn, hnz, hv, -⟩ := intB_elim h1
    have hF : fAbs neg (limbs n) = (false, limbs n) := by unfold fAbs; rw [if_pos h1, hv, zOf_abs]; exact sg_zOf false n
    go_enter Try.func20, Try.ntmps20
    go_wp2_with fail
    refine (impl_IntOk _ _ _ _ _ hxA.out).mono ?_
    rintro e w1 ⟨rfl, hb1⟩
    rw [h1]
    have hbW := hb1
    obtain ⟨hc, hf⟩ := bcell hbW
    have hz := hbW.size
    simp only [World.size_alloc] at hz
    have hB := hA.trans (hbW.mono hA.size)
    go_wp2_with fail
    refine (natCopy_any _ _ _ _ (hxA.out.below hbW (Nat.le_refl _)).1 (by omega)).mono ?_
    rintro e w3 ⟨⟨a2, c2, rfl, ho2⟩, hq⟩
    replace hbW := hbW.trans (hq.mono hbW.size)
    replace hB := hB.trans (hq.mono hB.size)
    clear hc hf
    obtain ⟨hc, hf⟩ := bcell hbW
    have hz_w3 := hq.size
    go_wp2
    refine bodyPost_ret (v := .agg #[.bool false, .slice a2 (limbs n).length c2]) (by simp [results, Try.results20, go_sem, hc]) rfl ⟨⟨a2, c2, ?_, ?_, ?_⟩, ?_⟩
    · rw [hF]
    · rw [hF]
      exact own_set (B0 := w.heap.size + 2) (own_set (B := w.heap.size + 2) (B0 := w.heap.size + 2) (ho2.mono (by omega)) (by dsimp only; omega) _ (Nat.le_refl _)) (by dsimp only; omega) _ (by omega)
    · rw [hF]; exact hn
    · exact (hB.setCell (by dsimp only; omega) _).setCell (by dsimp only; omega) _
theorem zOf_and (b : Bool) (n : Nat) : zOf (b && decide (0 < (limbs n).length)) n = zOf b n := by
  rw [limbs_len0]
  by_cases h : n = 0
  · subst h; cases b <;> rfl
  · simp [h]
theorem intAdd_z (b1 b2 : Bool) (a b : Option Addr) (ca cb m n : Nat) (w : World) (hx : In w a ca (limbs m)) (hy : In w b cb (limbs n)) (lm : (limbs m).length ≤ 1000) (ln : (limbs n).length ≤ 1000) :
    Calls Try.prog 46 #[.agg #[.bool b1, .slice a (limbs m).length ca], .agg #[.bool b2, .slice b (limbs n).length cb]] w fun e w' => (∃ s k a' c', zOf b1 m + zOf b2 n = zOf s k ∧ (s = true → k ≠ 0) ∧ (limbs k).length ≤ 2001 ∧ e = .returned (.agg #[.bool s, .slice a' (limbs k).length c']) ∧ Own w' w.heap.size a' c' (limbs k)) ∧ Below w.heap.size w w' := by
  refine (intAdd_any b1 b2 a b ca cb m n w hx hy lm ln).mono ?_
  rintro e w' ⟨⟨a', c', rfl, ho⟩, hb⟩
  obtain ⟨s, k, hz, hs, hk⟩ := sg_of (zOf b1 m + zOf b2 n)
  rw [hs] at ho ⊢
  refine ⟨⟨s, k, a', c', hz, hk, ?_, rfl, ho⟩, hb⟩
  have e := congrArg Int.natAbs hz
  rw [zOf_abs] at e
  rw [← e]
  have h1 : (zOf b1 m + zOf b2 n).natAbs ≤ m + n := by have h2 := zOf_abs b1 m; have h3 := zOf_abs b2 n; omega
  have h4 := limbs_len_mono h1
  have := len_add m n
  omega
set_option linter.unusedSimpArgs false in
set_option maxHeartbeats 3200000 in
theorem impl_IntAdd (b1 b2 : Bool) (a b : Option Addr) (ca cb : Nat) (xs ys : List Int) (w : World) (hx : In w a ca xs) (hy : In w b cb ys) :
    Calls Try.prog 29 #[.agg #[.bool b1, .slice a xs.length ca], .agg #[.bool b2, .slice b ys.length cb]] w fun e w' => (∃ a' c', e = .returned (.agg #[.bool (fIAdd b1 xs b2 ys).1, .slice a' (fIAdd b1 xs b2 ys).2.length c']) ∧ Own w' w.heap.size a' c' (fIAdd b1 xs b2 ys).2 ∧ (fIAdd b1 xs b2 ys).2.length ≤ 50) ∧ Below w.heap.size w w' := by
  have hA := (((bel_alloc w (.cells #[.bool b1, .slice a xs.length ca] 26)).trans ((bel_alloc _ (.cells #[.bool b2, .slice b ys.length cb] 26)).mono (by simp))).trans ((bel_alloc _ (.cells #[.bool false, .slice none 0 0] 26)).mono (by simp; omega)))
  have hxA := Lib.hid (hx.below hA (Nat.le_refl _))
  have hyA := Lib.hid (hy.below hA (Nat.le_refl _))
  cases h1 : intB b1 xs
  · have hF0 : fIAdd b1 xs b2 ys = (false, []) := by unfold fIAdd; rw [h1]; rfl
    go_enter Try.func29, Try.ntmps29
    go_wp2_with fail
    refine (intsOk_any _ _ _ _ _ _ _ _ _ hxA.out hyA.out).mono ?_
    rintro e w1 ⟨rfl, hb1⟩
    have hbW := hb1
    rw [h1]
    obtain ⟨hc, hf⟩ := bcell hbW
    have hz := hbW.size
    simp only [World.size_alloc] at hz
    have hB := hA.trans (hbW.mono hA.size)
    go_wp2
    refine bodyPost_ret (v := .agg #[.bool false, .slice none 0 0]) (by simp [results, Try.results29, go_sem, hc]) rfl ⟨⟨none, 0, ?_, ?_, ?_⟩, ?_⟩
    · rw [hF0]; rfl
    · rw [hF0]; exact Own.nil _ _
    · rw [hF0]; exact Nat.zero_le _
    · exact (hB.setCell (by dsimp only; omega) _).setCell (by dsimp only; omega) _
  cases h2 : intB b2 ys
  · have hF0 : fIAdd b1 xs b2 ys = (false, []) := by unfold fIAdd; rw [h1, h2]; rfl
    go_enter Try.func29, Try.ntmps29
    go_wp2_with fail
    refine (intsOk_any _ _ _ _ _ _ _ _ _ hxA.out hyA.out).mono ?_
    rintro e w1 ⟨rfl, hb1⟩
    have hbW := hb1
    rw [h1]
    rw [h2]
    obtain ⟨hc, hf⟩ := bcell hbW
    have hz := hbW.size
    simp only [World.size_alloc] at hz
    have hB := hA.trans (hbW.mono hA.size)
    go_wp2
    refine bodyPost_ret (v := .agg #[.bool false, .slice none 0 0]) (by simp [results, Try.results29, go_sem, hc]) rfl ⟨⟨none, 0, ?_, ?_, ?_⟩, ?_⟩
    · rw [hF0]; rfl
    · rw [hF0]; exact Own.nil _ _
    · rw [hF0]; exact Nat.zero_le _
    · exact (hB.setCell (by dsimp only; omega) _).setCell (by dsimp only; omega) _
  obtain ⟨m, rfl, hm, hmz, hv1, -⟩ := intB_elim h1
  obtain ⟨n, rfl, hn, hnz, hv2, -⟩ := intB_elim h2
  have hF : fIAdd b1 (limbs m) b2 (limbs n) = sg (capZ (zOf b1 m + zOf b2 n)) := by unfold fIAdd; rw [h1, h2, hv1, hv2]; rfl
  go_enter Try.func29, Try.ntmps29
  go_wp2_with fail
  refine (intsOk_any _ _ _ _ _ _ _ _ _ hxA.out hyA.out).mono ?_
  rintro e w1 ⟨rfl, hb1⟩
  have hbW := hb1
  rw [h1]
  rw [h2]
  obtain ⟨hc, hf⟩ := bcell hbW
  have hz := hbW.size
  simp only [World.size_alloc] at hz
  have hB := hA.trans (hbW.mono hA.size)
  go_wp2_with fail
  refine (intAdd_z _ _ _ _ _ _ _ _ _ (hxA.out.below hbW (Nat.le_refl _)) (hyA.out.below hbW (Nat.le_refl _)) (by omega) (by omega)).mono ?_
  rintro e w3 ⟨⟨s, k, a2, c2, hk, hk0, hkl, rfl, ho2⟩, hq⟩
  replace hbW := hbW.trans (hq.mono hbW.size)
  replace hB := hB.trans (hq.mono hB.size)
  clear hc hf
  obtain ⟨hc, hf⟩ := bcell hbW
  have hz_w3 := hq.size
  go_wp2_with fail
  refine (fitInt_any _ _ _ _ (w.heap.size + 3) _ (ho2.mono (by omega)) (by omega) (by omega)).mono ?_
  rintro e w4 ⟨⟨a3, c3, rfl, ho3⟩, hq⟩
  replace hbW := hbW.trans (hq.mono hbW.size)
  replace hB := hB.trans (hq.mono hB.size)
  clear hc hf
  obtain ⟨hc, hf⟩ := bcell hbW
  have hz_w4 := hq.size
  have hl := capZ_len (zOf s k)
  rw [hk] at hF
  go_wp2
  refine bodyPost_ret (v := .agg #[.bool (sg (capZ (zOf s k))).1, .slice a3 (sg (capZ (zOf s k))).2.length c3]) (by simp [results, Try.results29, go_sem, hc]) rfl ⟨⟨a3, c3, ?_, ?_, ?_⟩, ?_⟩
  · rw [hF]
  · rw [hF]
    exact own_set (B0 := w.heap.size + 3) (own_set (B := w.heap.size + 3) (B0 := w.heap.size + 3) ho3 (by dsimp only; omega) _ (Nat.le_refl _)) (by dsimp only; omega) _ (by omega)
  · rw [hF]; exact hl
  · exact (hB.setCell (by dsimp only; omega) _).setCell (by dsimp only; omega) _
set_option linter.unusedSimpArgs false in
set_option maxHeartbeats 3200000 in
theorem spec_IntAdd (b1 b2 : Bool) (a b : Option Addr) (ca cb : Nat) (xs ys : List Int) (w : World) (hx : In w a ca xs) (hy : In w b cb ys) :
    Calls Try.prog 26 #[.agg #[.bool b1, .slice a xs.length ca], .agg #[.bool b2, .slice b ys.length cb]] w fun e w' => (∃ a' c', e = .returned (.agg #[.bool (fIAdd b1 xs b2 ys).1, .slice a' (fIAdd b1 xs b2 ys).2.length c']) ∧ Own w' w.heap.size a' c' (fIAdd b1 xs b2 ys).2 ∧ (fIAdd b1 xs b2 ys).2.length ≤ 50) ∧ Below w.heap.size w w' := by
  have hA := (((bel_alloc w (.cells #[.bool b1, .slice a xs.length ca] 26)).trans ((bel_alloc _ (.cells #[.bool b2, .slice b ys.length cb] 26)).mono (by simp))).trans ((bel_alloc _ (.cells #[.bool false, .slice none 0 0] 26)).mono (by simp; omega)))
  have hxA := Lib.hid (hx.below hA (Nat.le_refl _))
  have hyA := Lib.hid (hy.below hA (Nat.le_refl _))
  cases h1 : intB b1 xs
  · have hF0 : fIAdd b1 xs b2 ys = (false, []) := by unfold fIAdd; rw [h1]; rfl
    go_enter Try.func26, Try.ntmps26
    go_wp2_with fail
    refine (spec_IntOk _ _ _ _ _ hxA.out).mono ?_
    rintro e w1 ⟨rfl, hb1⟩
    rw [h1]
    have hbW := hb1
    obtain ⟨hc, hf⟩ := bcell hbW
    have hz := hbW.size
    simp only [World.size_alloc] at hz
    have hB := hA.trans (hbW.mono hA.size)
    go_wp2
    refine bodyPost_ret (v := .agg #[.bool false, .slice none 0 0]) (by simp [results, Try.results26, go_sem, hc]) rfl ⟨⟨none, 0, ?_, ?_, ?_⟩, ?_⟩
    · rw [hF0]; rfl
    · rw [hF0]; exact Own.nil _ _
    · rw [hF0]; exact Nat.zero_le _
    · exact (hB.setCell (by dsimp only; omega) _).setCell (by dsimp only; omega) _
  cases h2 : intB b2 ys
  · have hF0 : fIAdd b1 xs b2 ys = (false, []) := by unfold fIAdd; rw [h1, h2]; rfl
    go_enter Try.func26, Try.ntmps26
    go_wp2_with fail
    refine (spec_IntOk _ _ _ _ _ hxA.out).mono ?_
    rintro e w1 ⟨rfl, hb1⟩
    rw [h1]
    have hbW := hb1
    have hcf := bcell hb1
    obtain ⟨hc, hf⟩ := hcf
    have hz1 := hb1.size
    simp only [World.size_alloc] at hz1
    go_wp2_with fail
    refine (spec_IntOk _ _ _ _ _ (hyA.out.below hb1 (Nat.le_refl _))).mono ?_
    rintro e w2 ⟨rfl, hb2⟩
    rw [h2]
    replace hbW := hb1.trans (hb2.mono hb1.size)
    clear hc hf
    obtain ⟨hc, hf⟩ := bcell hbW
    have hz := hbW.size
    simp only [World.size_alloc] at hz
    have hB := hA.trans (hbW.mono hA.size)
    go_wp2
    refine bodyPost_ret (v := .agg #[.bool false, .slice none 0 0]) (by simp [results, Try.results26, go_sem, hc]) rfl ⟨⟨none, 0, ?_, ?_, ?_⟩, ?_⟩
    · rw [hF0]; rfl
    · rw [hF0]; exact Own.nil _ _
    · rw [hF0]; exact Nat.zero_le _
    · exact (hB.setCell (by dsimp only; omega) _).setCell (by dsimp only; omega) _
  obtain ⟨m, rfl, hm, hmz, hv1, -⟩ := intB_elim h1
  obtain ⟨n, rfl, hn, hnz, hv2, -⟩ := intB_elim h2
  have hF : fIAdd b1 (limbs m) b2 (limbs n) = sg (capZ (zOf b1 m + zOf b2 n)) := by unfold fIAdd; rw [h1, h2, hv1, hv2]; rfl
  go_enter Try.func26, Try.ntmps26
  go_wp2_with fail
  refine (spec_IntOk _ _ _ _ _ hxA.out).mono ?_
  rintro e w1 ⟨rfl, hb1⟩
  rw [h1]
  have hbW := hb1
  have hcf := bcell hb1
  obtain ⟨hc, hf⟩ := hcf
  have hz1 := hb1.size
  simp only [World.size_alloc] at hz1
  go_wp2_with fail
  refine (spec_IntOk _ _ _ _ _ (hyA.out.below hb1 (Nat.le_refl _))).mono ?_
  rintro e w2 ⟨rfl, hb2⟩
  rw [h2]
  replace hbW := hb1.trans (hb2.mono hb1.size)
  clear hc hf
  obtain ⟨hc, hf⟩ := bcell hbW
  have hz := hbW.size
  simp only [World.size_alloc] at hz
  have hB := hA.trans (hbW.mono hA.size)
  go_wp2_with fail
  refine (l04Add_any _ _ _ _ _ _ _ _ _ (hxA.out.below hbW (Nat.le_refl _)) (hyA.out.below hbW (Nat.le_refl _)) (by omega) (by omega)).mono ?_
  rintro e w3 ⟨⟨a3, c3, rfl, ho3⟩, hq⟩
  replace hbW := hbW.trans (hq.mono hbW.size)
  replace hB := hB.trans (hq.mono hB.size)
  clear hc hf
  obtain ⟨hc, hf⟩ := bcell hbW
  have hz_w3 := hq.size
  have hl := capZ_len (zOf b1 m + zOf b2 n)
  go_wp2
  refine bodyPost_ret (v := .agg #[.bool (sg (capZ (zOf b1 m + zOf b2 n))).1, .slice a3 (sg (capZ (zOf b1 m + zOf b2 n))).2.length c3]) (by simp [results, Try.results26, go_sem, hc]) rfl ⟨⟨a3, c3, ?_, ?_, ?_⟩, ?_⟩
  · rw [hF]
  · rw [hF]
    exact own_set (B0 := w.heap.size + 3) (own_set (B := w.heap.size + 3) (B0 := w.heap.size + 3) (ho3.mono (by omega)) (by dsimp only; omega) _ (Nat.le_refl _)) (by dsimp only; omega) _ (by omega)
  · rw [hF]; exact hl
  · exact (hB.setCell (by dsimp only; omega) _).setCell (by dsimp only; omega) _
end Go.Proofs.Ytcibccaimjifmaa
