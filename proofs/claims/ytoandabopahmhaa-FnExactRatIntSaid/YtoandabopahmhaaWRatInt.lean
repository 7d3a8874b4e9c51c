/- The walk of RatInt (program). (Printed by gen_rat2.py.) -/
import Derived.Test.YtoandabopahmhaaWRatMake
import Derived.Test.YtoandabopahmhaaWIntOf
namespace Go.Proofs.Ytoandabopahmhaa
open Go.RowKit
set_option linter.unusedVariables false
theorem impl_RatMake_F (n1 : Bool) (a1 : Option Addr) (c1 : Nat) (xs : List Int) (n2 : Bool) (a2 : Option Addr) (c2 : Nat) (us : List Int) (w : World) (FX : (Bool × List Int × List Int) × Bool) (hF : FX = fRatMake n1 xs n2 us) (hx : In w a1 c1 xs) (hu : In w a2 c2 us) :
    Calls Try.prog 27 #[.agg #[.bool n1, .slice a1 xs.length c1], .agg #[.bool n2, .slice a2 us.length c2]] w fun e w' => RatPost2 w FX e w' := by
  rw [hF]; exact impl_RatMake _ _ _ _ _ _ _ _ _ hx hu
theorem impl_IntOf_1 (w : World) :
    Calls Try.prog 55 #[.int .i64 1] w fun e w' => (∃ a' c', e = .returned (.agg #[.bool false, .slice a' (limbs 1).length c']) ∧ In w' a' c' (limbs 1)) ∧ Below w.heap.size w w' := by
  refine (impl_IntOf 1 w (by unfold Rng; omega)).mono ?_
  rw [show fIOf 1 = (false, limbs 1) from rfl]
  rintro e w1 ⟨⟨a1, c1, h, ho, hl⟩, hb⟩
  exact ⟨⟨a1, c1, h, ho.inn (by show (limbs 1).length ≤ _; rw [limbs1]; simp)⟩, hb⟩
set_option linter.unusedSimpArgs false in
set_option maxRecDepth 100000 in
set_option maxHeartbeats 40000000 in
theorem impl_RatInt (n1 : Bool) (a1 : Option Addr) (c1 : Nat) (xs : List Int) (w : World) (hx : In w a1 c1 xs) :
    Calls Try.prog 33 #[.agg #[.bool n1, .slice a1 xs.length c1]] w fun e w' => RatPost2 w (fRatInt n1 xs) e w' := by
  have hA := ((bel_alloc w (.cells #[.bool n1, .slice a1 xs.length c1] 29)).trans ((bel_alloc _ (.cells #[.bool false, .slice none 0 0, .slice none 0 0] 31)).mono (by simp)))
  have hzA : w.heap.size + 2 ≤ (World.alloc (World.alloc w (.cells #[.bool n1, .slice a1 xs.length c1] 29)) (.cells #[.bool false, .slice none 0 0, .slice none 0 0] 31)).heap.size := by simp only [World.size_alloc]; omega
  have Q1 := ((Box2.new w (.bool n1) (.slice a1 xs.length c1) 29 (w.heap.size) (by simp)).below (bel_alloc _ (.cells #[.bool false, .slice none 0 0, .slice none 0 0] 31)) (Nat.le_refl _))
  have hR := (Box3.new (World.alloc w (.cells #[.bool n1, .slice a1 xs.length c1] 29)) (.bool false) (.slice none 0 0) (.slice none 0 0) 31 (w.heap.size + 1) (by simp))
  have HX := Lib.hid (hx.below hA (Nat.le_refl _))
  obtain ⟨FX, hFX⟩ : ∃ F, F = fRatMake n1 xs false (limbs 1) := ⟨_, rfl⟩
  have hF := Lib.hid (show fRatInt n1 xs = FX by unfold fRatInt; rw [hFX])
  replace hFX := Lib.hid hFX
  go_enter Try.func33, Try.ntmps33
  go_wp2_with fail
  obtain ⟨W0, hW0⟩ : ∃ x : World, x = (World.alloc (World.alloc w (.cells #[.bool n1, .slice a1 xs.length c1] 29)) (.cells #[.bool false, .slice none 0 0, .slice none 0 0] 31)) := ⟨_, rfl⟩
  rw [← hW0] at Q1 hR hA hzA HX ⊢
  clear hW0
  have hB := hA
  go_wp2_with fail
  have nq0 : w.heap.size + 1 ≠ w.heap.size := by omega
  have hbq : Below W0.heap.size W0 (World.drew W0) := (Below.refl _ _).drew
  go_region_held3 (fun w' => w'.cell? ⟨w.heap.size, 0, none⟩ = some (.bool n1) ∧ w'.cell? ⟨w.heap.size, 1, none⟩ = some (.slice a1 xs.length c1))
    (first | (with_reducible exact ⟨far3 nq0 (cell_keep hbq Q1.1.1 (Nat.le_refl _)), far3 nq0 (cell_keep hbq Q1.1.2 (Nat.le_refl _))⟩) | (exact ⟨cell_keep hbq Q1.1.1 (Nat.le_refl _), cell_keep hbq Q1.1.2 (Nat.le_refl _)⟩) | (exact ⟨Q1.1.1, Q1.1.2⟩) | go_keep)
    (first | (go_at_call 27; refine (impl_RatMake_F n1 a1 c1 xs false _ _ (limbs 1) _ FX hFX.out (HX.out.below hbq (Nat.le_refl _)) ho1).mono ?_; rintro e qL ⟨⟨ea, ga, eb, gb, lo, up, lo2, up2, rfl, s1, l1, s2, l2, k1, k2, hd⟩, hq⟩; have zpL := hbq.size; have zsL := hq.size; replace hbq := hbq.trans (hq.mono hbq.size); clear hq; have hRq := hR.below hbq (Nat.le_refl _); obtain ⟨⟨hrc0, hrc1, hrc2⟩, hrf0, hrf1, hrf2⟩ := hRq) | (go_at_call 55; refine (impl_IntOf_1 _).mono ?_; rintro e qA ⟨⟨e1, g1, rfl, ho1⟩, hq⟩; have zpA := hbq.size; have zsA := hq.size; replace hbq := hbq.trans (hq.mono hbq.size); clear hq))
  all_goals
    go_wp2
    refine bodyPost_ret (v := .tuple #[.agg #[.bool FX.1.1, .slice ea FX.1.2.1.length ga, .slice eb FX.1.2.2.length gb], .bool FX.2]) (by simp [results, Try.results33, go_sem, hrc0, hrc1, hrc2]) rfl ?_
    rw [hF.out]
    exact ⟨⟨ea, ga, eb, gb, lo, up, lo2, up2, rfl, s1.set3 (by omega), l1, s2.set3 (by omega), l2, by omega, by omega, hd⟩, set3_below (hB.trans (hbq.mono hB.size)) (by omega)⟩
end Go.Proofs.Ytoandabopahmhaa
