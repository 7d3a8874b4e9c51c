/- The walk of RatAdd (program). (Printed by gen_rat2.py.) -/
import Derived.Test.YtoandabopahmhaaWRatD
import Derived.Test.YtoandabopahmhaaWIntFn
namespace Go.Proofs.Ytoandabopahmhaa
open Go.RowKit
set_option linter.unusedVariables false
set_option linter.unusedSimpArgs false in
set_option maxRecDepth 100000 in
set_option maxHeartbeats 40000000 in
theorem impl_RatAdd (n1 : Bool) (a1 : Option Addr) (c1 : Nat) (xs : List Int) (b1 : Option Addr) (d1 : Nat) (ys : List Int) (n2 : Bool) (a2 : Option Addr) (c2 : Nat) (us : List Int) (b2 : Option Addr) (d2 : Nat) (vs : List Int) (w : World) (hx : In w a1 c1 xs) (hy : In w b1 d1 ys) (hu : In w a2 c2 us) (hv : In w b2 d2 vs) :
    Calls Try.prog 43 #[.agg #[.bool n1, .slice a1 xs.length c1, .slice b1 ys.length d1], .agg #[.bool n2, .slice a2 us.length c2, .slice b2 vs.length d2]] w fun e w' => RatPost2 w (fRatAdd n1 xs ys n2 us vs) e w' := by
  have hA := (((bel_alloc w (.cells #[.bool n1, .slice a1 xs.length c1, .slice b1 ys.length d1] 31)).trans ((bel_alloc _ (.cells #[.bool n2, .slice a2 us.length c2, .slice b2 vs.length d2] 31)).mono (by simp))).trans ((bel_alloc _ (.cells #[.bool false, .slice none 0 0, .slice none 0 0] 31)).mono (by simp; omega)))
  have hzA : w.heap.size + 3 ≤ (World.alloc (World.alloc (World.alloc w (.cells #[.bool n1, .slice a1 xs.length c1, .slice b1 ys.length d1] 31)) (.cells #[.bool n2, .slice a2 us.length c2, .slice b2 vs.length d2] 31)) (.cells #[.bool false, .slice none 0 0, .slice none 0 0] 31)).heap.size := by simp only [World.size_alloc]; omega
  have Q1 := (((Box3.new w (.bool n1) (.slice a1 xs.length c1) (.slice b1 ys.length d1) 31 (w.heap.size) (by simp)).below (bel_alloc _ (.cells #[.bool n2, .slice a2 us.length c2, .slice b2 vs.length d2] 31)) (Nat.le_refl _)).below (bel_alloc _ (.cells #[.bool false, .slice none 0 0, .slice none 0 0] 31)) (Nat.le_refl _))
  have Q2 := ((Box3.new (World.alloc w (.cells #[.bool n1, .slice a1 xs.length c1, .slice b1 ys.length d1] 31)) (.bool n2) (.slice a2 us.length c2) (.slice b2 vs.length d2) 31 (w.heap.size + 1) (by simp)).below (bel_alloc _ (.cells #[.bool false, .slice none 0 0, .slice none 0 0] 31)) (Nat.le_refl _))
  have hR := (Box3.new (World.alloc (World.alloc w (.cells #[.bool n1, .slice a1 xs.length c1, .slice b1 ys.length d1] 31)) (.cells #[.bool n2, .slice a2 us.length c2, .slice b2 vs.length d2] 31)) (.bool false) (.slice none 0 0) (.slice none 0 0) 31 (w.heap.size + 1 + 1) (by simp))
  have HX := Lib.hid (hx.below hA (Nat.le_refl _))
  have HY := Lib.hid (hy.below hA (Nat.le_refl _))
  have HU := Lib.hid (hu.below hA (Nat.le_refl _))
  have HV := Lib.hid (hv.below hA (Nat.le_refl _))
  cases h1 : ratB n1 xs ys
  · have hF0 := Lib.hid (show fRatAdd n1 xs ys n2 us vs = ratZ by unfold fRatAdd; rw [h1]; rfl)
    go_enter Try.func43, Try.ntmps43
    go_wp2_with fail
    refine (ratsOk_any _ _ _ _ _ _ _ _ _ _ _ _ _ _ _ HX.out HY.out HU.out HV.out).mono ?_
    rintro e w1 ⟨rfl, hb⟩
    rw [h1]
    have zw1 := hb.size
    replace Q1 := Q1.below hb (Nat.le_refl _)
    replace Q2 := Q2.below hb (Nat.le_refl _)
    replace hR := hR.below hb (Nat.le_refl _)
    replace HX := Lib.hid (HX.out.below hb (Nat.le_refl _))
    replace HY := Lib.hid (HY.out.below hb (Nat.le_refl _))
    replace HU := Lib.hid (HU.out.below hb (Nat.le_refl _))
    replace HV := Lib.hid (HV.out.below hb (Nat.le_refl _))
    have hB := hA.trans (hb.mono hA.size)
    clear hb
    have hRk := hR
    obtain ⟨⟨hrc0, hrc1, hrc2⟩, hrf0, hrf1, hrf2⟩ := hRk
    go_wp2
    refine bodyPost_ret (v := .tuple #[.agg #[.bool false, .slice none 0 0, .slice none 0 0], .bool false]) (by simp [results, Try.results43, go_sem, hrc0, hrc1, hrc2]) rfl ?_
    rw [hF0.out]
    exact ratPost2_zero (set3_below hB (by omega))
  cases h2 : ratB n2 us vs
  · have hF0 := Lib.hid (show fRatAdd n1 xs ys n2 us vs = ratZ by unfold fRatAdd; rw [h1, h2]; rfl)
    go_enter Try.func43, Try.ntmps43
    go_wp2_with fail
    refine (ratsOk_any _ _ _ _ _ _ _ _ _ _ _ _ _ _ _ HX.out HY.out HU.out HV.out).mono ?_
    rintro e w1 ⟨rfl, hb⟩
    rw [h1]
    rw [h2]
    have zw1 := hb.size
    replace Q1 := Q1.below hb (Nat.le_refl _)
    replace Q2 := Q2.below hb (Nat.le_refl _)
    replace hR := hR.below hb (Nat.le_refl _)
    replace HX := Lib.hid (HX.out.below hb (Nat.le_refl _))
    replace HY := Lib.hid (HY.out.below hb (Nat.le_refl _))
    replace HU := Lib.hid (HU.out.below hb (Nat.le_refl _))
    replace HV := Lib.hid (HV.out.below hb (Nat.le_refl _))
    have hB := hA.trans (hb.mono hA.size)
    clear hb
    have hRk := hR
    obtain ⟨⟨hrc0, hrc1, hrc2⟩, hrf0, hrf1, hrf2⟩ := hRk
    go_wp2
    refine bodyPost_ret (v := .tuple #[.agg #[.bool false, .slice none 0 0, .slice none 0 0], .bool false]) (by simp [results, Try.results43, go_sem, hrc0, hrc1, hrc2]) rfl ?_
    rw [hF0.out]
    exact ratPost2_zero (set3_below hB (by omega))
  obtain ⟨m, n, rfl, rfl, lm, ln, hn0, -, -, -, -, -, -⟩ := ratB_elim h1
  obtain ⟨k, l, rfl, rfl, lk, ll, hl0, -, -, -, -, -, -⟩ := ratB_elim h2
  have len_ml := len_mul m l
  have len_kn := len_mul k n
  have len_nl := len_mul n l
  have hnl : 0 < n * l := Nat.mul_pos hn0 hl0
  have hzl := zadd_len n1 n2 (p := m * l) (q := k * n) (by omega) (by omega)
  obtain ⟨z, hz⟩ : ∃ z, z = zOf n1 (m * l) + zOf n2 (k * n) := ⟨_, rfl⟩
  rw [← hz] at hzl
  obtain ⟨FX, hFX⟩ : ∃ F, F = low (decide (z < 0)) z.natAbs (n * l) := ⟨_, rfl⟩
  have hF := Lib.hid (show fRatAdd n1 (limbs m) (limbs n) n2 (limbs k) (limbs l) = FX by unfold fRatAdd addZ; rw [h1, h2, nv_limbs, nv_limbs, nv_limbs, nv_limbs, ← hz, hFX]; rfl)
  have hmf : ∀ (fn : Fn) (first cap : Array Value) (w : World), (Instr.makeFunc fn first cap).run Try.prog w = .ok (.func fn first cap) w := fun _ _ _ _ => rfl
  go_enter Try.func43, Try.ntmps43
  go_wp2_with fail
  refine (ratsOk_any _ _ _ _ _ _ _ _ _ _ _ _ _ _ _ HX.out HY.out HU.out HV.out).mono ?_
  rintro e w1 ⟨rfl, hb⟩
  rw [h1]
  rw [h2]
  have zw1 := hb.size
  replace Q1 := Q1.below hb (Nat.le_refl _)
  replace Q2 := Q2.below hb (Nat.le_refl _)
  replace hR := hR.below hb (Nat.le_refl _)
  replace HX := Lib.hid (HX.out.below hb (Nat.le_refl _))
  replace HY := Lib.hid (HY.out.below hb (Nat.le_refl _))
  replace HU := Lib.hid (HU.out.below hb (Nat.le_refl _))
  replace HV := Lib.hid (HV.out.below hb (Nat.le_refl _))
  have hB := hA.trans (hb.mono hA.size)
  clear hb
  replace hFX := Lib.hid hFX
  replace hz := Lib.hid hz
  go_upto_region 3 with fail
  go_cut [6, 7] (fun t u wx => t = Value.func (Fn.func 83) #[.agg #[.bool n1, .slice a1 (limbs m).length c1, .slice b1 (limbs n).length d1]] #[] ∧ u = Value.func (Fn.func 83) #[.agg #[.bool n2, .slice a2 (limbs k).length c2, .slice b2 (limbs l).length d2]] #[] ∧ wx = World.drew w1)
  case first =>
    have hbq : Below w1.heap.size w1 (World.drew w1) := (Below.refl _ _).drew
    go_region_held3 (fun w' => w'.cell? ⟨w.heap.size, 0, none⟩ = some (.bool n1) ∧ w'.cell? ⟨w.heap.size, 1, none⟩ = some (.slice a1 (limbs m).length c1) ∧ w'.cell? ⟨w.heap.size, 2, none⟩ = some (.slice b1 (limbs n).length d1) ∧ w'.cell? ⟨w.heap.size + 1, 0, none⟩ = some (.bool n2) ∧ w'.cell? ⟨w.heap.size + 1, 1, none⟩ = some (.slice a2 (limbs k).length c2) ∧ w'.cell? ⟨w.heap.size + 1, 2, none⟩ = some (.slice b2 (limbs l).length d2))
      (first | (exact ⟨cell_keep hbq Q1.1.1 (Nat.le_refl _), cell_keep hbq Q1.1.2.1 (Nat.le_refl _), cell_keep hbq Q1.1.2.2 (Nat.le_refl _), cell_keep hbq Q2.1.1 (Nat.le_refl _), cell_keep hbq Q2.1.2.1 (Nat.le_refl _), cell_keep hbq Q2.1.2.2 (Nat.le_refl _)⟩) | (exact ⟨Q1.1.1, Q1.1.2.1, Q1.1.2.2, Q2.1.1, Q2.1.2.1, Q2.1.2.2⟩) | go_keep)
      (first | (skip))
    all_goals (go_wp2_with fail; go_meet; exact ⟨rfl, rfl, rfl⟩)
  case rest =>
  obtain ⟨rfl, rfl, hW0⟩ := hcut
  have hb : Below w1.heap.size w1 wc := by rw [hW0]; exact (Below.refl _ _).drew
  obtain ⟨w2, hW⟩ : ∃ x : World, x = wc := ⟨_, rfl⟩
  rw [← hW] at hb ⊢
  clear hW hW0 hmf
  have zw2 := hb.size
  replace Q1 := Q1.below hb (Nat.le_refl _)
  replace Q2 := Q2.below hb (Nat.le_refl _)
  replace hR := hR.below hb (Nat.le_refl _)
  replace HX := Lib.hid (HX.out.below hb (Nat.le_refl _))
  replace HY := Lib.hid (HY.out.below hb (Nat.le_refl _))
  replace HU := Lib.hid (HU.out.below hb (Nat.le_refl _))
  replace HV := Lib.hid (HV.out.below hb (Nat.le_refl _))
  replace hB := hB.trans (hb.mono hB.size)
  clear hb
  go_wp2_with fail
  have nq0 : w.heap.size + 1 + 1 ≠ w.heap.size := by omega
  have nq1 : w.heap.size + 1 + 1 ≠ w.heap.size + 1 := by omega
  have hbq : Below w2.heap.size w2 (World.drew w2) := (Below.refl _ _).drew
  go_region_held3 (fun w' => w'.cell? ⟨w.heap.size, 0, none⟩ = some (.bool n1) ∧ w'.cell? ⟨w.heap.size, 1, none⟩ = some (.slice a1 (limbs m).length c1) ∧ w'.cell? ⟨w.heap.size, 2, none⟩ = some (.slice b1 (limbs n).length d1) ∧ w'.cell? ⟨w.heap.size + 1, 0, none⟩ = some (.bool n2) ∧ w'.cell? ⟨w.heap.size + 1, 1, none⟩ = some (.slice a2 (limbs k).length c2) ∧ w'.cell? ⟨w.heap.size + 1, 2, none⟩ = some (.slice b2 (limbs l).length d2))
    (first | (with_reducible exact ⟨far3 nq0 (cell_keep hbq Q1.1.1 (Nat.le_refl _)), far3 nq0 (cell_keep hbq Q1.1.2.1 (Nat.le_refl _)), far3 nq0 (cell_keep hbq Q1.1.2.2 (Nat.le_refl _)), far3 nq1 (cell_keep hbq Q2.1.1 (Nat.le_refl _)), far3 nq1 (cell_keep hbq Q2.1.2.1 (Nat.le_refl _)), far3 nq1 (cell_keep hbq Q2.1.2.2 (Nat.le_refl _))⟩) | (exact ⟨cell_keep hbq Q1.1.1 (Nat.le_refl _), cell_keep hbq Q1.1.2.1 (Nat.le_refl _), cell_keep hbq Q1.1.2.2 (Nat.le_refl _), cell_keep hbq Q2.1.1 (Nat.le_refl _), cell_keep hbq Q2.1.2.1 (Nat.le_refl _), cell_keep hbq Q2.1.2.2 (Nat.le_refl _)⟩) | (exact ⟨Q1.1.1, Q1.1.2.1, Q1.1.2.2, Q2.1.1, Q2.1.2.1, Q2.1.2.2⟩) | go_keep)
    (first | (go_at_call 70; refine (reduce_z z _ _ _ _ (n * l) _ FX hFX.out ho3.1 ho4.1 (by omega) (by omega) hnl).mono ?_; rintro e qL ⟨⟨ea, ga, eb, gb, lo, up, lo2, up2, rfl, s1, l1, s2, l2, k1, k2, hd⟩, hq⟩; have zpL := hbq.size; have zsL := hq.size; replace hbq := hbq.trans (hq.mono hbq.size); clear hq; have hRq := hR.below hbq (Nat.le_refl _); obtain ⟨⟨hrc0, hrc1, hrc2⟩, hrf0, hrf1, hrf2⟩ := hRq) | (go_at_call 87; refine (intAdd_z2 n1 n2 _ _ _ _ (m * l) (k * n) z _ hz.out ho1 ho2 (by omega) (by omega)).mono ?_; rintro e qC ⟨⟨e3, g3, rfl, ho3⟩, hq⟩; have zpC := hbq.size; (try replace ho4 := ho4.below hq (Nat.le_refl _)); have zsC := hq.size; replace hbq := hbq.trans (hq.mono hbq.size); clear hq) | (go_at_call 84; with_reducible (show Calls _ _ #[Value.slice b1 _ _, Value.slice b2 _ _] _ _); refine (natMul_n b1 b2 d1 d2 n l _ (HY.out.below hbq (Nat.le_refl _)) (HV.out.below hbq (Nat.le_refl _)) (by omega) (by omega)).mono ?_; rintro e qM ⟨⟨e4, g4, rfl, ho4⟩, hq⟩; have zpM := hbq.size; (try replace ho1 := ho1.below hq (Nat.le_refl _)); (try replace ho2 := ho2.below hq (Nat.le_refl _)); (try replace ho3 := ho3.below hq (Nat.le_refl _)); have zsM := hq.size; replace hbq := hbq.trans (hq.mono hbq.size); clear hq) | (go_at_call 83; with_reducible (show Calls _ _ #[Value.agg #[Value.bool n1, _, _], _] _ _); refine (num_any n1 a1 c1 m b1 d1 (limbs n) b2 d2 l _ (HX.out.below hbq (Nat.le_refl _)) (HV.out.below hbq (Nat.le_refl _)) (by omega) (by omega)).mono ?_; rintro e qA ⟨⟨e1, g1, rfl, ho1⟩, hq⟩; have zpA := hbq.size; (try replace ho2 := ho2.below hq (Nat.le_refl _)); (try replace ho4 := ho4.below hq (Nat.le_refl _)); have zsA := hq.size; replace hbq := hbq.trans (hq.mono hbq.size); clear hq) | (go_at_call 83; with_reducible (show Calls _ _ #[Value.agg #[Value.bool n2, _, _], _] _ _); refine (num_any n2 a2 c2 k b2 d2 (limbs l) b1 d1 n _ (HU.out.below hbq (Nat.le_refl _)) (HY.out.below hbq (Nat.le_refl _)) (by omega) (by omega)).mono ?_; rintro e qB ⟨⟨e2, g2, rfl, ho2⟩, hq⟩; have zpB := hbq.size; (try replace ho1 := ho1.below hq (Nat.le_refl _)); (try replace ho4 := ho4.below hq (Nat.le_refl _)); have zsB := hq.size; replace hbq := hbq.trans (hq.mono hbq.size); clear hq))
  all_goals
    go_wp2
    refine bodyPost_ret (v := .tuple #[.agg #[.bool FX.1.1, .slice ea FX.1.2.1.length ga, .slice eb FX.1.2.2.length gb], .bool FX.2]) (by simp [results, Try.results43, go_sem, hrc0, hrc1, hrc2]) rfl ?_
    rw [hF.out]
    exact ⟨⟨ea, ga, eb, gb, lo, up, lo2, up2, rfl, s1.set3 (by omega), l1, s2.set3 (by omega), l2, by omega, by omega, hd⟩, set3_below (hB.trans (hbq.mono hB.size)) (by omega)⟩
end Go.Proofs.Ytoandabopahmhaa
