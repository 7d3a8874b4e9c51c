/- The walk of RatSign (reference). (Printed by gen_rat2.py.) -/
import Derived.Test.YtoandabopahmhaaWRatCmpS
namespace Go.Proofs.Ytoandabopahmhaa
open Go.RowKit
set_option linter.unusedVariables false
theorem fRatSign_cmp (n : Bool) (xs ys : List Int) : fRatSign n xs ys = fRatCmp n xs ys false [] [1] := by
  unfold fRatSign fRatCmp
  have h1 : ratB false [] [1] = true := by
    have := ratB_of (neg := false) (m := 0) (n := 1) (by rw [limbs_zero]; simp) (by rw [limbs1]; simp) (by omega) (by simp) (by simp)
    rw [limbs_zero, limbs1] at this; exact this
  rw [h1, Bool.and_true]
  cases h : ratB n xs ys
  · rfl
  · have e1 : nv [1] = 1 := by rw [← limbs1, nv_limbs]
    have e0 : nv [] = 0 := rfl
    have e : zOf n (nv xs * nv [1]) - zOf false (nv [] * nv ys) = sv n xs := by
      rw [e1, e0, Nat.mul_one, Nat.zero_mul]; unfold sv zOf; simp
    rw [e]
set_option linter.unusedSimpArgs false in
set_option maxRecDepth 100000 in
set_option maxHeartbeats 40000000 in
theorem spec_RatSign (n1 : Bool) (a1 : Option Addr) (c1 : Nat) (xs : List Int) (b1 : Option Addr) (d1 : Nat) (ys : List Int) (w : World) (hx : In w a1 c1 xs) (hy : In w b1 d1 ys) :
    Calls Try.prog 22 #[.agg #[.bool n1, .slice a1 xs.length c1, .slice b1 ys.length d1]] w fun e w' => e = .returned (.int .i64 (fRatSign n1 xs ys)) ∧ Below w.heap.size w w' := by
  have hA := (bel_alloc w (.cells #[.bool n1, .slice a1 xs.length c1, .slice b1 ys.length d1] 31))
  have hzA : w.heap.size + 1 ≤ (World.alloc w (.cells #[.bool n1, .slice a1 xs.length c1, .slice b1 ys.length d1] 31)).heap.size := by simp only [World.size_alloc]; omega
  have Q1 := (Box3.new w (.bool n1) (.slice a1 xs.length c1) (.slice b1 ys.length d1) 31 (w.heap.size) (by simp))
  have HX := Lib.hid (hx.below hA (Nat.le_refl _))
  have HY := Lib.hid (hy.below hA (Nat.le_refl _))
  have hF := Lib.hid (show fRatSign n1 xs ys = fRatCmp n1 xs ys false [] [1] from fRatSign_cmp n1 xs ys)
  go_enter Try.func22, Try.ntmps22
  go_wp2_with fail
  obtain ⟨W0, hW0⟩ : ∃ x : World, x = (World.alloc w (.cells #[.bool n1, .slice a1 xs.length c1, .slice b1 ys.length d1] 31)) := ⟨_, rfl⟩
  rw [← hW0] at Q1 hA hzA HX HY ⊢
  clear hW0
  go_wp2_with fail
  have hbq : Below W0.heap.size W0 (World.drew W0) := (Below.refl _ _).drew
  go_region_held3 (fun w' => w'.cell? ⟨w.heap.size, 0, none⟩ = some (.bool n1) ∧ w'.cell? ⟨w.heap.size, 1, none⟩ = some (.slice a1 xs.length c1) ∧ w'.cell? ⟨w.heap.size, 2, none⟩ = some (.slice b1 ys.length d1))
    (first | (exact ⟨cell_keep hbq Q1.1.1 (Nat.le_refl _), cell_keep hbq Q1.1.2.1 (Nat.le_refl _), cell_keep hbq Q1.1.2.2 (Nat.le_refl _)⟩) | (exact ⟨Q1.1.1, Q1.1.2.1, Q1.1.2.2⟩) | go_keep)
    (first | (go_at_call 36; refine (spec_RatCmp n1 a1 c1 xs b1 d1 ys false _ _ [] _ _ [1] _ (HX.out.below hbq (Nat.le_refl _)) (HY.out.below hbq (Nat.le_refl _)) (own_in ho1 (by simp)) (own_in ho2 (by simp))).mono ?_; rintro e qL ⟨rfl, hq⟩; have zpL := hbq.size; have zsL := hq.size; replace hbq := hbq.trans (hq.mono hbq.size); clear hq) | (go_at_call 66; refine (spec_RatZero _).mono ?_; rintro e qA ⟨⟨e1, g1, e2, g2, rfl, ho1, -, ho2, -⟩, hq⟩; have zpA := hbq.size; have zsA := hq.size; replace hbq := hbq.trans (hq.mono hbq.size); clear hq))
  all_goals
    go_wp2
    go_ret
    exact ⟨by rw [hF.out]; rfl, hA.trans (hbq.mono hA.size)⟩
end Go.Proofs.Ytoandabopahmhaa
