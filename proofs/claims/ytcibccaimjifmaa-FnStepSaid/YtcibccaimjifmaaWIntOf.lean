/- The walks of IntOf, IntNum (program and reference). For every argument within the reach. -/
import Derived.Test.YtcibccaimjifmaaWIntFn
import Derived.Test.YtcibccaimjifmaaWNatInt
import Derived.Test.YtcibccaimjifmaaWNatOf
namespace Go.Proofs.Ytcibccaimjifmaa
open Go.RowKit
def fIOf (z : Int) : Bool × List Int := sg z
theorem limbs_min : limbs 9223372036854775808 = [854775808, 223372036, 9] := by
  rw [limbs_pos (by omega), limbs_pos (by omega), limbs_pos (by omega), limbs_zero]
  rfl
theorem fInum_no1 {neg : Bool} {xs : List Int} (h : intB neg xs = false) : fINum neg xs = (0, false) := by unfold fINum; rw [h]; simp
theorem fInum_no2 {neg : Bool} {xs : List Int} (h : (fInt xs).2 = false) : fINum neg xs = (0, false) := by
  unfold fINum
  by_cases hh : intB neg xs = true ∧ nv xs ≤ 9223372036854775807
  · exfalso
    have h1 : natB xs = true := by have := hh.1; unfold intB at this; simp only [Bool.and_eq_true] at this; exact this.1
    unfold fInt at h
    rw [if_pos ⟨h1, by unfold maxN; exact hh.2⟩] at h
    cases h
  · rw [if_neg hh]
theorem fInum_yes {neg : Bool} {xs : List Int} (h : (fInt xs).2 = true) (hi : intB neg xs = true) : fINum neg xs = (if neg then -(fInt xs).1 else (fInt xs).1, true) ∧ 0 ≤ (fInt xs).1 ∧ (fInt xs).1 ≤ 9223372036854775807 := by
  unfold fInt at h ⊢
  by_cases hh : natB xs = true ∧ nv xs ≤ maxN
  · rw [if_pos hh]
    have h2 := hh.2
    unfold maxN at h2
    refine ⟨?_, by simp, by simp; omega⟩
    unfold fINum sv zOf
    rw [if_pos ⟨hi, h2⟩]
  · rw [if_neg hh] at h; cases h
set_option maxHeartbeats 800000 in
theorem impl_IntOf (z : Int) (w : World) (hr : Rng z) :
    Calls Try.prog 23 #[.int .i64 z] w fun e w' => (∃ a' c', e = .returned (.agg #[.bool (fIOf z).1, .slice a' (fIOf z).2.length c']) ∧ Own w' w.heap.size a' c' (fIOf z).2 ∧ (fIOf z).2.length ≤ 50) ∧ Below w.heap.size w w' := by
  have hA := bel_alloc w (.cells #[.bool false, .slice none 0 0] 26)
  obtain ⟨h1, h2⟩ := hr
  by_cases h : z < 0
  · obtain ⟨n, hn⟩ : ∃ n : Nat, n = z.natAbs := ⟨_, rfl⟩
    have hF : fIOf z = (true, limbs n) := by unfold fIOf sg; rw [hn]; simp [h]
    have hz : z = -(n : Int) := by omega
    have hl3 := limbs_small (n := n) (by omega)
    subst hz
    clear hn
    have hw : IntKind.u64.wrap (-IntKind.u64.wrap (-(n : Int))) = (n : Int) := by
      unfold IntKind.wrap
      simp [IntKind.signed, IntKind.bits]
      omega
    go_enter Try.func23, Try.ntmps23
    go_wp2_with fail
    refine (natOf_any n _ (by omega)).mono ?_
    rintro e w1 ⟨⟨a1, c1, rfl, ho1⟩, hb1⟩
    obtain ⟨hc, hf⟩ := bcell hb1
    have hz := hb1.size
    simp only [World.size_alloc] at hz
    have hB := hA.trans (hb1.mono hA.size)
    go_wp2
    refine bodyPost_ret (v := .agg #[.bool true, .slice a1 (limbs n).length c1]) (by simp [results, Try.results23, go_sem, hc]) rfl ⟨⟨a1, c1, ?_, ?_, ?_⟩, ?_⟩
    · rw [hF]
    · rw [hF]
      exact own_set (B0 := w.heap.size + 1) (own_set (B := w.heap.size + 1) (B0 := w.heap.size + 1) (ho1.mono (by simp)) (by dsimp only; omega) _ (Nat.le_refl _)) (by dsimp only; omega) _ (by omega)
    · rw [hF]; dsimp only; omega
    · exact (hB.setCell (by dsimp only; omega) _).setCell (by dsimp only; omega) _
  · obtain ⟨n, rfl⟩ := Int.eq_ofNat_of_zero_le (show 0 ≤ z by omega)
    have hF : fIOf (n : Int) = (false, limbs n) := by unfold fIOf sg; simp
    have hl3 := limbs_small (n := n) (by omega)
    go_enter Try.func23, Try.ntmps23
    go_wp2_with fail
    refine (natOf_any n _ (by omega)).mono ?_
    rintro e w1 ⟨⟨a1, c1, rfl, ho1⟩, hb1⟩
    obtain ⟨hc, hf⟩ := bcell hb1
    have hz := hb1.size
    simp only [World.size_alloc] at hz
    have hB := hA.trans (hb1.mono hA.size)
    go_wp2
    refine bodyPost_ret (v := .agg #[.bool false, .slice a1 (limbs n).length c1]) (by simp [results, Try.results23, go_sem, hc]) rfl ⟨⟨a1, c1, ?_, ?_, ?_⟩, ?_⟩
    · rw [hF]
    · rw [hF]
      exact own_set (B0 := w.heap.size + 1) (own_set (B := w.heap.size + 1) (B0 := w.heap.size + 1) (ho1.mono (by simp)) (by dsimp only; omega) _ (Nat.le_refl _)) (by dsimp only; omega) _ (by omega)
    · rw [hF]; dsimp only; omega
    · exact (hB.setCell (by dsimp only; omega) _).setCell (by dsimp only; omega) _
set_option maxHeartbeats 800000 in
theorem spec_IntOf (z : Int) (w : World) (hr : Rng z) :
    Calls Try.prog 55 #[.int .i64 z] w fun e w' => (∃ a' c', e = .returned (.agg #[.bool (fIOf z).1, .slice a' (fIOf z).2.length c']) ∧ Own w' w.heap.size a' c' (fIOf z).2 ∧ (fIOf z).2.length ≤ 50) ∧ Below w.heap.size w w' := by
  have hA := bel_alloc w (.cells #[.bool false, .slice none 0 0] 26)
  obtain ⟨h1, h2⟩ := hr
  by_cases hmin : z = -9223372036854775808
  · subst hmin
    have hF : fIOf (-9223372036854775808) = (true, [854775808, 223372036, 9]) := by
      unfold fIOf sg
      rw [show (-9223372036854775808 : Int).natAbs = 9223372036854775808 from rfl, limbs_min]; rfl
    have hcap : capL [854775808, 223372036, 9] = [854775808, 223372036, 9] := by rfl
    have hA2 := hA.trans ((bel_alloc _ (.cells #[.int .i64 854775808, .int .i64 223372036, .int .i64 9] 3)).mono (by simp))
    have hin : In (World.alloc (World.alloc w (.cells #[.bool false, .slice none 0 0] 26)) (.cells #[.int .i64 854775808, .int .i64 223372036, .int .i64 9] 3)) (some ⟨w.heap.size + 1, 0, none⟩) 3 [854775808, 223372036, 9] := by
      refine ⟨?_, by simp, by simp⟩
      refine rd_of_cells (zs := [854775808, 223372036, 9]) ?_ 3
      intro i hi
      have hi' : i < 3 := hi
      match i, hi' with
      | 0, _ => exact cell_box _ _ _ _ 0 _ (by simp) rfl
      | 1, _ => exact cell_box _ _ _ _ 1 _ (by simp) rfl
      | 2, _ => exact cell_box _ _ _ _ 2 _ (by simp) rfl
    go_enter Try.func55, Try.ntmps55
    go_wp2_with fail
    refine (l04Make_any true _ _ [854775808, 223372036, 9] _ hin).mono ?_
    rintro e w1 ⟨⟨a1, c1, rfl, ho1⟩, hb1⟩
    rw [hcap] at ho1 ⊢
    obtain ⟨hc, hf⟩ := bcell hb1
    have hz := hb1.size
    simp only [World.size_alloc] at hz
    have hB := hA2.trans (hb1.mono hA2.size)
    have hr0 : w1.cell? ⟨w.heap.size, 0, none⟩ = some (.bool false) := cell_keep hb1 (cell_keep (bel_alloc _ _) (cell_box w _ _ _ 0 _ rfl rfl) (Nat.le_refl _)) (Nat.le_refl _)
    have hr1 : w1.cell? ⟨w.heap.size, 1, none⟩ = some (.slice none 0 0) := cell_keep hb1 (cell_keep (bel_alloc _ _) (cell_box w _ _ _ 1 _ rfl rfl) (Nat.le_refl _)) (Nat.le_refl _)
    go_wp2
    refine bodyPost_ret (v := .agg #[.bool true, .slice a1 3 c1]) (by simp [results, Try.results55, go_sem, hr0, hr1]) rfl ⟨⟨a1, c1, ?_, ?_, ?_⟩, ?_⟩
    · rw [hF]; rfl
    · rw [hF]
      exact own_set (B0 := w.heap.size + 1) (own_set (B := w.heap.size + 1) (B0 := w.heap.size + 1) (ho1.mono (by simp)) (by dsimp only; omega) _ (Nat.le_refl _)) (by dsimp only; omega) _ (by omega)
    · rw [hF]; simp
    · exact (hB.setCell (by dsimp only; omega) _).setCell (by dsimp only; omega) _
  have hcapn : ∀ n, (limbs n).length ≤ 50 → capL (limbs n) = limbs n := by intro n hn; rw [capL_nat]; unfold capV; rw [if_neg (by omega)]
  by_cases h : z < 0
  · obtain ⟨n, hn⟩ : ∃ n : Nat, n = z.natAbs := ⟨_, rfl⟩
    have hF : fIOf z = (true, limbs n) := by unfold fIOf sg; rw [hn]; simp [h]
    have hz : z = -(n : Int) := by omega
    have hl3 := limbs_small (n := n) (by omega)
    subst hz
    clear hn
    have h0 : 0 < n := by omega
    have hmin2 : ((n : Int) == 9223372036854775808) = false := by rw [beq_eq_false_iff_ne]; omega
    have hmin3 : n ≠ 9223372036854775808 := by omega
    have hpos := limbs_len_pos.2 (show n ≠ 0 by omega)
    go_enter Try.func55, Try.ntmps55
    go_wp2_with fail
    refine (spec_NatOf (n : Int) _ ⟨by omega, by omega⟩).mono ?_
    rintro e w1 ⟨⟨a1, c1, rfl, ho1, _⟩, hb1⟩
    rw [Int.toNat_natCast] at ho1 ⊢
    obtain ⟨hc, hf⟩ := bcell hb1
    have hz := hb1.size
    simp only [World.size_alloc] at hz
    have hB := hA.trans (hb1.mono hA.size)
    clear hc hf
    go_wp2_with fail
    refine (l04Make_any true _ _ _ _ (ho1.inn (by omega))).mono ?_
    rintro e w2 ⟨⟨a2, c2, rfl, ho2⟩, hb2⟩
    rw [hcapn n (by omega)] at ho2 ⊢
    have hbW := hb1.trans (hb2.mono hb1.size)
    obtain ⟨hc, hf⟩ := bcell hbW
    replace hB := hB.trans (hb2.mono hB.size)
    go_wp2
    refine bodyPost_ret (v := .agg #[.bool true, .slice a2 (limbs n).length c2]) (by simp [results, Try.results55, go_sem, hc]) rfl ⟨⟨a2, c2, ?_, ?_, ?_⟩, ?_⟩
    · rw [hF]
    · rw [hF]
      exact own_set (B0 := w.heap.size + 1) (own_set (B := w.heap.size + 1) (B0 := w.heap.size + 1) (ho2.mono (by omega)) (by dsimp only; omega) _ (Nat.le_refl _)) (by dsimp only; omega) _ (by omega)
    · rw [hF]; dsimp only; omega
    · exact (hB.setCell (by dsimp only; omega) _).setCell (by dsimp only; omega) _
  · obtain ⟨n, rfl⟩ := Int.eq_ofNat_of_zero_le (show 0 ≤ z by omega)
    have hF : fIOf (n : Int) = (false, limbs n) := by unfold fIOf sg; simp
    have hl3 := limbs_small (n := n) (by omega)
    have hmin2 : ((n : Int) == -9223372036854775808) = false := by rw [beq_eq_false_iff_ne]; omega
    go_enter Try.func55, Try.ntmps55
    go_wp2_with fail
    refine (spec_NatOf (n : Int) _ ⟨by omega, by omega⟩).mono ?_
    rintro e w1 ⟨⟨a1, c1, rfl, ho1, _⟩, hb1⟩
    rw [Int.toNat_natCast] at ho1 ⊢
    obtain ⟨hc, hf⟩ := bcell hb1
    have hz := hb1.size
    simp only [World.size_alloc] at hz
    have hB := hA.trans (hb1.mono hA.size)
    clear hc hf
    go_wp2_with fail
    refine (l04Make_any false _ _ _ _ (ho1.inn (by omega))).mono ?_
    rintro e w2 ⟨⟨a2, c2, rfl, ho2⟩, hb2⟩
    rw [hcapn n (by omega)] at ho2 ⊢
    have hbW := hb1.trans (hb2.mono hb1.size)
    obtain ⟨hc, hf⟩ := bcell hbW
    replace hB := hB.trans (hb2.mono hB.size)
    go_wp2
    refine bodyPost_ret (v := .agg #[.bool false, .slice a2 (limbs n).length c2]) (by simp [results, Try.results55, go_sem, hc]) rfl ⟨⟨a2, c2, ?_, ?_, ?_⟩, ?_⟩
    · rw [hF]
    · rw [hF]
      exact own_set (B0 := w.heap.size + 1) (own_set (B := w.heap.size + 1) (B0 := w.heap.size + 1) (ho2.mono (by omega)) (by dsimp only; omega) _ (Nat.le_refl _)) (by dsimp only; omega) _ (by omega)
    · rw [hF]; dsimp only; omega
    · exact (hB.setCell (by dsimp only; omega) _).setCell (by dsimp only; omega) _
end Go.Proofs.Ytcibccaimjifmaa
