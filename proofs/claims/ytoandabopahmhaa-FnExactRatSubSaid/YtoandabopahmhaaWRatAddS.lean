/- The walk of RatAdd (reference). (Printed by gen_rat2.py.) -/
import Derived.Test.YtoandabopahmhaaWRatD
namespace Go.Proofs.Ytoandabopahmhaa
open Go.RowKit
set_option linter.unusedVariables false
set_option linter.unusedSimpArgs false in
set_option maxRecDepth 100000 in
set_option maxHeartbeats 40000000 in
theorem spec_RatAdd (n1 : Bool) (a1 : Option Addr) (c1 : Nat) (xs : List Int) (b1 : Option Addr) (d1 : Nat) (ys : List Int) (n2 : Bool) (a2 : Option Addr) (c2 : Nat) (us : List Int) (b2 : Option Addr) (d2 : Nat) (vs : List Int) (w : World) (hx : In w a1 c1 xs) (hy : In w b1 d1 ys) (hu : In w a2 c2 us) (hv : In w b2 d2 vs) :
    Calls Try.prog 42 #[.agg #[.bool n1, .slice a1 xs.length c1, .slice b1 ys.length d1], .agg #[.bool n2, .slice a2 us.length c2, .slice b2 vs.length d2]] w fun e w' => SRatPost2 w (fRatAdd n1 xs ys n2 us vs) e w' := by
  have hA := (((bel_alloc w (.cells #[.bool n1, .slice a1 xs.length c1, .slice b1 ys.length d1] 31)).trans ((bel_alloc _ (.cells #[.bool n2, .slice a2 us.length c2, .slice b2 vs.length d2] 31)).mono (by simp))).trans ((bel_alloc _ (.cells #[.bool false, .slice none 0 0, .slice none 0 0] 31)).mono (by simp; omega)))
  have hzA : w.heap.size + 3 ≤ (World.alloc (World.alloc (World.alloc w (.cells #[.bool n1, .slice a1 xs.length c1, .slice b1 ys.length d1] 31)) (.cells #[.bool n2, .slice a2 us.length c2, .slice b2 vs.length d2] 31)) (.cells #[.bool false, .slice none 0 0, .slice none 0 0] 31)).heap.size := by simp only [World.size_alloc]; omega
  have Q1 := (((Box3.new w (.bool n1) (.slice a1 xs.length c1) (.slice b1 ys.length d1) 31 (w.heap.size) (by simp)).below (bel_alloc _ (.cells #[.bool n2, .slice a2 us.length c2, .slice b2 vs.length d2] 31)) (Nat.le_refl _)).below (bel_alloc _ (.cells #[.bool false, .slice none 0 0, .slice none 0 0] 31)) (Nat.le_refl _))
  have Q2 := ((Box3.new (World.alloc w (.cells #[.bool n1, .slice a1 xs.length c1, .slice b1 ys.length d1] 31)) (.bool n2) (.slice a2 us.length c2) (.slice b2 vs.length d2) 31 (w.heap.size + 1) (by simp)).below (bel_alloc _ (.cells #[.bool false, .slice none 0 0, .slice none 0 0] 31)) (Nat.le_refl _))
  have hR := (Box3.new (World.alloc (World.alloc w (.cells #[.bool n1, .slice a1 xs.length c1, .slice b1 ys.length d1] 31)) (.cells #[.bool n2, .slice a2 us.length c2, .slice b2 vs.length d2] 31)) (.bool false) (.slice none 0 0) (.slice none 0 0) 31 (w.heap.size + 1 + 1) (by simp))
  have HX := Lib.hid (hx.below hA (Nat.le_refl _))
  have HY := Lib.hid (hy.below hA (Nat.le_refl _))
  have HU := Lib.hid (hu.below hA (Nat.le_refl _))
  have HV := Lib.hid (hv.below hA (Nat.le_refl _))
  cases h1 : ratB n1 xs ys
  · have hF0 := Lib.hid (show fRatAdd n1 xs ys n2 us vs = ratZ by unfold fRatAdd; rw [h1]; rfl)
    go_enter Try.func42, Try.ntmps42
    go_wp2_with fail
    refine (spec_RatOk _ _ _ _ _ _ _ _ HX.out HY.out).mono ?_
    rintro e w1 ⟨rfl, hb⟩
    rw [h1]
    have zw1 := hb.size
    replace Q1 := Q1.below hb (Nat.le_refl _)
    replace Q2 := Q2.below hb (Nat.le_refl _)
    replace hR := hR.below hb (Nat.le_refl _)
    replace HX := Lib.hid (HX.out.below hb (Nat.le_refl _))
    replace HY := Lib.hid (HY.out.below hb (Nat.le_refl _))
    replace HU := Lib.hid (HU.out.below hb (Nat.le_refl _))
    replace HV := Lib.hid (HV.out.below hb (Nat.le_refl _))
    have hB := hA.trans (hb.mono hA.size)
    clear hb
    have hRk := hR
    obtain ⟨⟨hrc0, hrc1, hrc2⟩, hrf0, hrf1, hrf2⟩ := hRk
    go_wp2
    refine bodyPost_ret (v := .tuple #[.agg #[.bool false, .slice none 0 0, .slice none 0 0], .bool false]) (by simp [results, Try.results42, go_sem, hrc0, hrc1, hrc2]) rfl ?_
    rw [hF0.out]
    exact sratPost2_zero (set3_below hB (by omega))
  cases h2 : ratB n2 us vs
  · have hF0 := Lib.hid (show fRatAdd n1 xs ys n2 us vs = ratZ by unfold fRatAdd; rw [h1, h2]; rfl)
    go_enter Try.func42, Try.ntmps42
    go_wp2_with fail
    refine (spec_RatOk _ _ _ _ _ _ _ _ HX.out HY.out).mono ?_
    rintro e w1 ⟨rfl, hb⟩
    rw [h1]
    have zw1 := hb.size
    replace Q1 := Q1.below hb (Nat.le_refl _)
    replace Q2 := Q2.below hb (Nat.le_refl _)
    replace hR := hR.below hb (Nat.le_refl _)
    replace HX := Lib.hid (HX.out.below hb (Nat.le_refl _))
    replace HY := Lib.hid (HY.out.below hb (Nat.le_refl _))
    replace HU := Lib.hid (HU.out.below hb (Nat.le_refl _))
    replace HV := Lib.hid (HV.out.below hb (Nat.le_refl _))
    have hB := hA.trans (hb.mono hA.size)
    clear hb
    have Q2k := Q2
    obtain ⟨⟨q2c0, q2c1, q2c2⟩, q2f0, q2f1, q2f2⟩ := Q2k
    go_wp2_with fail
    refine (spec_RatOk _ _ _ _ _ _ _ _ HU.out HV.out).mono ?_
    rintro e w2 ⟨rfl, hb⟩
    rw [h2]
    clear q2c0 q2f0 q2c1 q2f1 q2c2 q2f2
    have zw2 := hb.size
    replace Q1 := Q1.below hb (Nat.le_refl _)
    replace Q2 := Q2.below hb (Nat.le_refl _)
    replace hR := hR.below hb (Nat.le_refl _)
    replace HX := Lib.hid (HX.out.below hb (Nat.le_refl _))
    replace HY := Lib.hid (HY.out.below hb (Nat.le_refl _))
    replace HU := Lib.hid (HU.out.below hb (Nat.le_refl _))
    replace HV := Lib.hid (HV.out.below hb (Nat.le_refl _))
    replace hB := hB.trans (hb.mono hB.size)
    clear hb
    have hRk := hR
    obtain ⟨⟨hrc0, hrc1, hrc2⟩, hrf0, hrf1, hrf2⟩ := hRk
    go_wp2
    refine bodyPost_ret (v := .tuple #[.agg #[.bool false, .slice none 0 0, .slice none 0 0], .bool false]) (by simp [results, Try.results42, go_sem, hrc0, hrc1, hrc2]) rfl ?_
    rw [hF0.out]
    exact sratPost2_zero (set3_below hB (by omega))
  obtain ⟨m, n, rfl, rfl, lm, ln, hn0, -, -, -, -, -, -⟩ := ratB_elim h1
  obtain ⟨k, l, rfl, rfl, lk, ll, hl0, -, -, -, -, -, -⟩ := ratB_elim h2
  have len_ml := len_mul m l
  have len_kn := len_mul k n
  have len_nl := len_mul n l
  have hnl : 0 < n * l := Nat.mul_pos hn0 hl0
  have hzl := zadd_len n1 n2 (p := m * l) (q := k * n) (by omega) (by omega)
  obtain ⟨z, hz⟩ : ∃ z, z = zOf n1 (m * l) + zOf n2 (k * n) := ⟨_, rfl⟩
  rw [← hz] at hzl
  obtain ⟨FX, hFX⟩ : ∃ F, F = low (decide (z < 0)) z.natAbs (n * l) := ⟨_, rfl⟩
  have hF := Lib.hid (show fRatAdd n1 (limbs m) (limbs n) n2 (limbs k) (limbs l) = FX by unfold fRatAdd addZ; rw [h1, h2, nv_limbs, nv_limbs, nv_limbs, nv_limbs, ← hz, hFX]; rfl)
  go_enter Try.func42, Try.ntmps42
  go_wp2_with fail
  refine (spec_RatOk _ _ _ _ _ _ _ _ HX.out HY.out).mono ?_
  rintro e w1 ⟨rfl, hb⟩
  rw [h1]
  have zw1 := hb.size
  replace Q1 := Q1.below hb (Nat.le_refl _)
  replace Q2 := Q2.below hb (Nat.le_refl _)
  replace hR := hR.below hb (Nat.le_refl _)
  replace HX := Lib.hid (HX.out.below hb (Nat.le_refl _))
  replace HY := Lib.hid (HY.out.below hb (Nat.le_refl _))
  replace HU := Lib.hid (HU.out.below hb (Nat.le_refl _))
  replace HV := Lib.hid (HV.out.below hb (Nat.le_refl _))
  have hB := hA.trans (hb.mono hA.size)
  clear hb
  have Q2k := Q2
  obtain ⟨⟨q2c0, q2c1, q2c2⟩, q2f0, q2f1, q2f2⟩ := Q2k
  go_wp2_with fail
  refine (spec_RatOk _ _ _ _ _ _ _ _ HU.out HV.out).mono ?_
  rintro e w2 ⟨rfl, hb⟩
  rw [h2]
  clear q2c0 q2f0 q2c1 q2f1 q2c2 q2f2
  have zw2 := hb.size
  replace Q1 := Q1.below hb (Nat.le_refl _)
  replace Q2 := Q2.below hb (Nat.le_refl _)
  replace hR := hR.below hb (Nat.le_refl _)
  replace HX := Lib.hid (HX.out.below hb (Nat.le_refl _))
  replace HY := Lib.hid (HY.out.below hb (Nat.le_refl _))
  replace HU := Lib.hid (HU.out.below hb (Nat.le_refl _))
  replace HV := Lib.hid (HV.out.below hb (Nat.le_refl _))
  replace hB := hB.trans (hb.mono hB.size)
  clear hb
  replace hFX := Lib.hid hFX
  replace hz := Lib.hid hz
  go_upto_region 3 with fail
  go_cut [6] (fun t wx => ∃ (kb : Nat) (ad : Option Addr) (cp : Nat), t = .pointer (some ⟨kb, 0, none⟩) ∧ wx.cell? ⟨kb, 0, none⟩ = some (.bool (n1 && decide (0 < (limbs (m * l)).length))) ∧ wx.cell? ⟨kb, 1, none⟩ = some (.slice ad (limbs (m * l)).length cp) ∧ In wx ad cp (limbs (m * l)) ∧ Below w2.heap.size w2 wx)
  case first =>
    have np0 : w.heap.size < w2.heap.size := by omega
    have np1 : w.heap.size + 1 < w2.heap.size := by omega
    have hbq : Below w2.heap.size w2 (World.drew w2) := (Below.refl _ _).drew
    go_region_held3 (fun w' => w'.cell? ⟨w.heap.size, 0, none⟩ = some (.bool n1) ∧ w'.cell? ⟨w.heap.size, 1, none⟩ = some (.slice a1 (limbs m).length c1) ∧ w'.cell? ⟨w.heap.size, 2, none⟩ = some (.slice b1 (limbs n).length d1) ∧ w'.cell? ⟨w.heap.size + 1, 0, none⟩ = some (.bool n2) ∧ w'.cell? ⟨w.heap.size + 1, 1, none⟩ = some (.slice a2 (limbs k).length c2) ∧ w'.cell? ⟨w.heap.size + 1, 2, none⟩ = some (.slice b2 (limbs l).length d2))
      (first | (exact ⟨cell_keep hbq Q1.1.1 (Nat.le_refl _), cell_keep hbq Q1.1.2.1 (Nat.le_refl _), cell_keep hbq Q1.1.2.2 (Nat.le_refl _), cell_keep hbq Q2.1.1 (Nat.le_refl _), cell_keep hbq Q2.1.2.1 (Nat.le_refl _), cell_keep hbq Q2.1.2.2 (Nat.le_refl _)⟩) | (exact ⟨Q1.1.1, Q1.1.2.1, Q1.1.2.2, Q2.1.1, Q2.1.2.1, Q2.1.2.2⟩) | (exact ⟨far2 (ne_blk hLn np0) (cell_keep hbq Q1.1.1 (Nat.le_refl _)), far2 (ne_blk hLn np0) (cell_keep hbq Q1.1.2.1 (Nat.le_refl _)), far2 (ne_blk hLn np0) (cell_keep hbq Q1.1.2.2 (Nat.le_refl _)), far2 (ne_blk hLn np1) (cell_keep hbq Q2.1.1 (Nat.le_refl _)), far2 (ne_blk hLn np1) (cell_keep hbq Q2.1.2.1 (Nat.le_refl _)), far2 (ne_blk hLn np1) (cell_keep hbq Q2.1.2.2 (Nat.le_refl _))⟩) | (exact ⟨cell_keep (bel_alloc _ _) (cell_keep hbq Q1.1.1 (Nat.le_refl _)) (Nat.le_refl _), cell_keep (bel_alloc _ _) (cell_keep hbq Q1.1.2.1 (Nat.le_refl _)) (Nat.le_refl _), cell_keep (bel_alloc _ _) (cell_keep hbq Q1.1.2.2 (Nat.le_refl _)) (Nat.le_refl _), cell_keep (bel_alloc _ _) (cell_keep hbq Q2.1.1 (Nat.le_refl _)) (Nat.le_refl _), cell_keep (bel_alloc _ _) (cell_keep hbq Q2.1.2.1 (Nat.le_refl _)) (Nat.le_refl _), cell_keep (bel_alloc _ _) (cell_keep hbq Q2.1.2.2 (Nat.le_refl _)) (Nat.le_refl _)⟩) | (exact ⟨cell_keep (bel_alloc _ _) Q1.1.1 (Nat.le_refl _), cell_keep (bel_alloc _ _) Q1.1.2.1 (Nat.le_refl _), cell_keep (bel_alloc _ _) Q1.1.2.2 (Nat.le_refl _), cell_keep (bel_alloc _ _) Q2.1.1 (Nat.le_refl _), cell_keep (bel_alloc _ _) Q2.1.2.1 (Nat.le_refl _), cell_keep (bel_alloc _ _) Q2.1.2.2 (Nat.le_refl _)⟩) | go_keep)
      (first | (go_at_call 79; (try (with_reducible show Calls _ _ _ (World.alloc _ _) _; have gq := alloc_step2 hbq (.bool false) (.slice none 0 0) 29; replace hbq := gq.1; have hL := gq.2.1; have hLn := gq.2.2; clear gq; replace ho1 := In.alloc ho1 (.cells #[.bool false, .slice none 0 0] 29))); (try have hLt := hL.lt); refine (l04Make_n n1 _ _ (m * l) _ ho1 (by omega)).mono ?_; rintro e qD ⟨⟨e2, g2, rfl, ho2⟩, hq⟩; have zpD := hbq.size; (try replace hL := hL.below hq (Nat.le_refl _)); have zsD := hq.size; replace hbq := hbq.trans (hq.mono hbq.size); clear hq; (try (have hLL := hL; obtain ⟨⟨lc0, lc1⟩, lf0, lf1⟩ := hLL))) | (go_at_call 80; (try (with_reducible show Calls _ _ _ (World.alloc _ _) _; have gq := alloc_step2 hbq (.bool false) (.slice none 0 0) 29; replace hbq := gq.1; have hL := gq.2.1; have hLn := gq.2.2; clear gq)); (try (with_reducible show Calls _ _ _ (World.drew (World.alloc _ _)) _; have gq := alloc_drew2 w2 (.bool false) (.slice none 0 0) 29; replace hbq := gq.1; have hL := gq.2.1; have hLn := gq.2.2; clear gq)); with_reducible (show Calls _ _ #[Value.slice a1 _ _, Value.slice b2 _ _] _ _); refine (l02Mul_n a1 b2 c1 d2 m l _ (HX.out.below hbq (Nat.le_refl _)) (HV.out.below hbq (Nat.le_refl _)) (by omega) (by omega)).mono ?_; rintro e qA ⟨⟨e1, g1, rfl, ho1⟩, hq⟩; have zpA := hbq.size; (try replace hL := hL.below hq (Nat.le_refl _)); have zsA := hq.size; replace hbq := hbq.trans (hq.mono hbq.size); clear hq))
    all_goals (go_wp2_with fail; go_meet; first | (with_reducible exact ⟨_, _, _, rfl, cell_box _ _ _ _ 0 _ rfl rfl, cell_box _ _ _ _ 1 _ rfl rfl, (own_in ho2 (by omega)).alloc _, hbq.trans ((bel_alloc _ _).mono hbq.size)⟩) | (with_reducible exact ⟨_, _, _, rfl, set2_cell0 lc0, set2_cell1 lc1, own_in (set2_own (B := 0) ho2 hLt (Nat.zero_le _)) (by omega), set2_below hbq hLn⟩))
  case rest =>
  obtain ⟨kb1, e3, g3, rfl, v1, y1, i1, hb⟩ := hcut
  obtain ⟨w3, hW⟩ : ∃ x : World, x = wc := ⟨_, rfl⟩
  rw [← hW] at v1 y1 i1 hb ⊢
  clear hW
  replace i1 := Lib.hid i1
  have zw3 := hb.size
  replace Q1 := Q1.below hb (Nat.le_refl _)
  replace Q2 := Q2.below hb (Nat.le_refl _)
  replace hR := hR.below hb (Nat.le_refl _)
  replace HX := Lib.hid (HX.out.below hb (Nat.le_refl _))
  replace HY := Lib.hid (HY.out.below hb (Nat.le_refl _))
  replace HU := Lib.hid (HU.out.below hb (Nat.le_refl _))
  replace HV := Lib.hid (HV.out.below hb (Nat.le_refl _))
  replace hB := hB.trans (hb.mono hB.size)
  clear hb
  go_upto_region 4 with fail
  go_cut [7] (fun t wx => ∃ (kb : Nat) (ad : Option Addr) (cp : Nat), t = .pointer (some ⟨kb, 0, none⟩) ∧ wx.cell? ⟨kb, 0, none⟩ = some (.bool (n2 && decide (0 < (limbs (k * n)).length))) ∧ wx.cell? ⟨kb, 1, none⟩ = some (.slice ad (limbs (k * n)).length cp) ∧ In wx ad cp (limbs (k * n)) ∧ Below w3.heap.size w3 wx)
  case first =>
    have np0 : w.heap.size < w3.heap.size := by omega
    have np1 : w.heap.size + 1 < w3.heap.size := by omega
    have hbq : Below w3.heap.size w3 (World.drew w3) := (Below.refl _ _).drew
    go_region_held3 (fun w' => w'.cell? ⟨w.heap.size, 0, none⟩ = some (.bool n1) ∧ w'.cell? ⟨w.heap.size, 1, none⟩ = some (.slice a1 (limbs m).length c1) ∧ w'.cell? ⟨w.heap.size, 2, none⟩ = some (.slice b1 (limbs n).length d1) ∧ w'.cell? ⟨w.heap.size + 1, 0, none⟩ = some (.bool n2) ∧ w'.cell? ⟨w.heap.size + 1, 1, none⟩ = some (.slice a2 (limbs k).length c2) ∧ w'.cell? ⟨w.heap.size + 1, 2, none⟩ = some (.slice b2 (limbs l).length d2))
      (first | (exact ⟨cell_keep hbq Q1.1.1 (Nat.le_refl _), cell_keep hbq Q1.1.2.1 (Nat.le_refl _), cell_keep hbq Q1.1.2.2 (Nat.le_refl _), cell_keep hbq Q2.1.1 (Nat.le_refl _), cell_keep hbq Q2.1.2.1 (Nat.le_refl _), cell_keep hbq Q2.1.2.2 (Nat.le_refl _)⟩) | (exact ⟨Q1.1.1, Q1.1.2.1, Q1.1.2.2, Q2.1.1, Q2.1.2.1, Q2.1.2.2⟩) | (exact ⟨far2 (ne_blk hLn np0) (cell_keep hbq Q1.1.1 (Nat.le_refl _)), far2 (ne_blk hLn np0) (cell_keep hbq Q1.1.2.1 (Nat.le_refl _)), far2 (ne_blk hLn np0) (cell_keep hbq Q1.1.2.2 (Nat.le_refl _)), far2 (ne_blk hLn np1) (cell_keep hbq Q2.1.1 (Nat.le_refl _)), far2 (ne_blk hLn np1) (cell_keep hbq Q2.1.2.1 (Nat.le_refl _)), far2 (ne_blk hLn np1) (cell_keep hbq Q2.1.2.2 (Nat.le_refl _))⟩) | (exact ⟨cell_keep (bel_alloc _ _) (cell_keep hbq Q1.1.1 (Nat.le_refl _)) (Nat.le_refl _), cell_keep (bel_alloc _ _) (cell_keep hbq Q1.1.2.1 (Nat.le_refl _)) (Nat.le_refl _), cell_keep (bel_alloc _ _) (cell_keep hbq Q1.1.2.2 (Nat.le_refl _)) (Nat.le_refl _), cell_keep (bel_alloc _ _) (cell_keep hbq Q2.1.1 (Nat.le_refl _)) (Nat.le_refl _), cell_keep (bel_alloc _ _) (cell_keep hbq Q2.1.2.1 (Nat.le_refl _)) (Nat.le_refl _), cell_keep (bel_alloc _ _) (cell_keep hbq Q2.1.2.2 (Nat.le_refl _)) (Nat.le_refl _)⟩) | (exact ⟨cell_keep (bel_alloc _ _) Q1.1.1 (Nat.le_refl _), cell_keep (bel_alloc _ _) Q1.1.2.1 (Nat.le_refl _), cell_keep (bel_alloc _ _) Q1.1.2.2 (Nat.le_refl _), cell_keep (bel_alloc _ _) Q2.1.1 (Nat.le_refl _), cell_keep (bel_alloc _ _) Q2.1.2.1 (Nat.le_refl _), cell_keep (bel_alloc _ _) Q2.1.2.2 (Nat.le_refl _)⟩) | go_keep)
      (first | (go_at_call 79; (try (with_reducible show Calls _ _ _ (World.alloc _ _) _; have gq := alloc_step2 hbq (.bool false) (.slice none 0 0) 29; replace hbq := gq.1; have hL := gq.2.1; have hLn := gq.2.2; clear gq; replace ho1 := In.alloc ho1 (.cells #[.bool false, .slice none 0 0] 29))); (try have hLt := hL.lt); refine (l04Make_n n2 _ _ (k * n) _ ho1 (by omega)).mono ?_; rintro e qD ⟨⟨e2, g2, rfl, ho2⟩, hq⟩; have zpD := hbq.size; (try replace hL := hL.below hq (Nat.le_refl _)); have zsD := hq.size; replace hbq := hbq.trans (hq.mono hbq.size); clear hq; (try (have hLL := hL; obtain ⟨⟨lc0, lc1⟩, lf0, lf1⟩ := hLL))) | (go_at_call 80; (try (with_reducible show Calls _ _ _ (World.alloc _ _) _; have gq := alloc_step2 hbq (.bool false) (.slice none 0 0) 29; replace hbq := gq.1; have hL := gq.2.1; have hLn := gq.2.2; clear gq)); (try (with_reducible show Calls _ _ _ (World.drew (World.alloc _ _)) _; have gq := alloc_drew2 w3 (.bool false) (.slice none 0 0) 29; replace hbq := gq.1; have hL := gq.2.1; have hLn := gq.2.2; clear gq)); with_reducible (show Calls _ _ #[Value.slice a2 _ _, Value.slice b1 _ _] _ _); refine (l02Mul_n a2 b1 c2 d1 k n _ (HU.out.below hbq (Nat.le_refl _)) (HY.out.below hbq (Nat.le_refl _)) (by omega) (by omega)).mono ?_; rintro e qA ⟨⟨e1, g1, rfl, ho1⟩, hq⟩; have zpA := hbq.size; (try replace hL := hL.below hq (Nat.le_refl _)); have zsA := hq.size; replace hbq := hbq.trans (hq.mono hbq.size); clear hq))
    all_goals (go_wp2_with fail; go_meet; first | (with_reducible exact ⟨_, _, _, rfl, cell_box _ _ _ _ 0 _ rfl rfl, cell_box _ _ _ _ 1 _ rfl rfl, (own_in ho2 (by omega)).alloc _, hbq.trans ((bel_alloc _ _).mono hbq.size)⟩) | (with_reducible exact ⟨_, _, _, rfl, set2_cell0 lc0, set2_cell1 lc1, own_in (set2_own (B := 0) ho2 hLt (Nat.zero_le _)) (by omega), set2_below hbq hLn⟩))
  case rest =>
  obtain ⟨kb2, e4, g4, rfl, v2, y2, i2, hb⟩ := hcut
  obtain ⟨w4, hW⟩ : ∃ x : World, x = wc := ⟨_, rfl⟩
  rw [← hW] at v2 y2 i2 hb ⊢
  clear hW
  replace i2 := Lib.hid i2
  replace v1 := cell_keep hb v1 (Nat.le_refl _)
  replace y1 := cell_keep hb y1 (Nat.le_refl _)
  replace i1 := Lib.hid (i1.out.below hb (Nat.le_refl _))
  have zw4 := hb.size
  replace Q1 := Q1.below hb (Nat.le_refl _)
  replace Q2 := Q2.below hb (Nat.le_refl _)
  replace hR := hR.below hb (Nat.le_refl _)
  replace HX := Lib.hid (HX.out.below hb (Nat.le_refl _))
  replace HY := Lib.hid (HY.out.below hb (Nat.le_refl _))
  replace HU := Lib.hid (HU.out.below hb (Nat.le_refl _))
  replace HV := Lib.hid (HV.out.below hb (Nat.le_refl _))
  replace hB := hB.trans (hb.mono hB.size)
  clear hb
  go_wp2_with fail
  refine (l04Add_i n1 n2 _ _ _ _ (m * l) (k * n) _ i1.out i2.out (by omega) (by omega)).mono ?_
  rw [← hz.out]
  rintro e w5 ⟨⟨e5, g5, rfl, i5⟩, hb⟩
  clear v1 y1 v2 y2 i1 i2
  replace i5 := Lib.hid i5
  have zw5 := hb.size
  replace Q1 := Q1.below hb (Nat.le_refl _)
  replace Q2 := Q2.below hb (Nat.le_refl _)
  replace hR := hR.below hb (Nat.le_refl _)
  replace HX := Lib.hid (HX.out.below hb (Nat.le_refl _))
  replace HY := Lib.hid (HY.out.below hb (Nat.le_refl _))
  replace HU := Lib.hid (HU.out.below hb (Nat.le_refl _))
  replace HV := Lib.hid (HV.out.below hb (Nat.le_refl _))
  replace hB := hB.trans (hb.mono hB.size)
  clear hb
  go_upto_region 6 with fail
  have hb := bel_alloc w5 (.cells #[.bool (decide (z < 0)), .slice e5 (limbs z.natAbs).length g5] 29)
  have v5 : (World.alloc w5 (.cells #[.bool (decide (z < 0)), .slice e5 (limbs z.natAbs).length g5] 29)).cell? ⟨w5.heap.size, 0, none⟩ = some (.bool (decide (z < 0))) := cell_box _ _ _ _ 0 _ rfl rfl
  have y5 : (World.alloc w5 (.cells #[.bool (decide (z < 0)), .slice e5 (limbs z.natAbs).length g5] 29)).cell? ⟨w5.heap.size, 1, none⟩ = some (.slice e5 (limbs z.natAbs).length g5) := cell_box _ _ _ _ 1 _ rfl rfl
  replace i5 := Lib.hid (i5.out.below hb (Nat.le_refl _))
  obtain ⟨w6, hW⟩ : ∃ x : World, x = World.alloc w5 (.cells #[.bool (decide (z < 0)), .slice e5 (limbs z.natAbs).length g5] 29) := ⟨_, rfl⟩
  rw [← hW] at v5 y5 i5 hb ⊢
  clear hW
  have zw6 := hb.size
  replace Q1 := Q1.below hb (Nat.le_refl _)
  replace Q2 := Q2.below hb (Nat.le_refl _)
  replace hR := hR.below hb (Nat.le_refl _)
  replace HX := Lib.hid (HX.out.below hb (Nat.le_refl _))
  replace HY := Lib.hid (HY.out.below hb (Nat.le_refl _))
  replace HU := Lib.hid (HU.out.below hb (Nat.le_refl _))
  replace HV := Lib.hid (HV.out.below hb (Nat.le_refl _))
  replace hB := hB.trans (hb.mono hB.size)
  clear hb
  go_wp2_with fail
  have nq0 : w.heap.size + 1 + 1 ≠ w.heap.size := by omega
  have nq1 : w.heap.size + 1 + 1 ≠ w.heap.size + 1 := by omega
  have nq2 : w.heap.size + 1 + 1 ≠ w5.heap.size := by omega
  have hbq : Below w6.heap.size w6 (World.drew w6) := (Below.refl _ _).drew
  go_region_held3 (fun w' => w'.cell? ⟨w.heap.size, 0, none⟩ = some (.bool n1) ∧ w'.cell? ⟨w.heap.size, 1, none⟩ = some (.slice a1 (limbs m).length c1) ∧ w'.cell? ⟨w.heap.size, 2, none⟩ = some (.slice b1 (limbs n).length d1) ∧ w'.cell? ⟨w.heap.size + 1, 0, none⟩ = some (.bool n2) ∧ w'.cell? ⟨w.heap.size + 1, 1, none⟩ = some (.slice a2 (limbs k).length c2) ∧ w'.cell? ⟨w.heap.size + 1, 2, none⟩ = some (.slice b2 (limbs l).length d2) ∧ w'.cell? ⟨w5.heap.size, 0, none⟩ = some (.bool (decide (z < 0))) ∧ w'.cell? ⟨w5.heap.size, 1, none⟩ = some (.slice e5 (limbs z.natAbs).length g5))
    (first | (with_reducible exact ⟨far3 nq0 (cell_keep hbq Q1.1.1 (Nat.le_refl _)), far3 nq0 (cell_keep hbq Q1.1.2.1 (Nat.le_refl _)), far3 nq0 (cell_keep hbq Q1.1.2.2 (Nat.le_refl _)), far3 nq1 (cell_keep hbq Q2.1.1 (Nat.le_refl _)), far3 nq1 (cell_keep hbq Q2.1.2.1 (Nat.le_refl _)), far3 nq1 (cell_keep hbq Q2.1.2.2 (Nat.le_refl _)), far3 nq2 (cell_keep hbq v5 (Nat.le_refl _)), far3 nq2 (cell_keep hbq y5 (Nat.le_refl _))⟩) | (exact ⟨cell_keep hbq Q1.1.1 (Nat.le_refl _), cell_keep hbq Q1.1.2.1 (Nat.le_refl _), cell_keep hbq Q1.1.2.2 (Nat.le_refl _), cell_keep hbq Q2.1.1 (Nat.le_refl _), cell_keep hbq Q2.1.2.1 (Nat.le_refl _), cell_keep hbq Q2.1.2.2 (Nat.le_refl _), cell_keep hbq v5 (Nat.le_refl _), cell_keep hbq y5 (Nat.le_refl _)⟩) | (exact ⟨Q1.1.1, Q1.1.2.1, Q1.1.2.2, Q2.1.1, Q2.1.2.1, Q2.1.2.2, v5, y5⟩) | go_keep)
    (first | (go_at_call 68; refine (low_F (decide (z < 0)) _ _ z.natAbs _ _ (n * l) _ FX hFX.out (i5.out.below hbq (Nat.le_refl _)) ho2 (by omega) (by omega) hnl).mono ?_; rintro e qL ⟨⟨ea, ga, eb, gb, rfl, s1, l1, s2, l2⟩, hq⟩; have zpL := hbq.size; have zsL := hq.size; replace hbq := hbq.trans (hq.mono hbq.size); clear hq; have hRq := hR.below hbq (Nat.le_refl _); obtain ⟨⟨hrc0, hrc1, hrc2⟩, hrf0, hrf1, hrf2⟩ := hRq) | (go_at_call 80; with_reducible (show Calls _ _ #[Value.slice b1 _ _, Value.slice b2 _ _] _ _); refine (l02Mul_n b1 b2 d1 d2 n l _ (HY.out.below hbq (Nat.le_refl _)) (HV.out.below hbq (Nat.le_refl _)) (by omega) (by omega)).mono ?_; rintro e qB ⟨⟨e2, g2, rfl, ho2⟩, hq⟩; have zpB := hbq.size; have zsB := hq.size; replace hbq := hbq.trans (hq.mono hbq.size); clear hq))
  all_goals
    go_wp2
    refine bodyPost_ret (v := .tuple #[.agg #[.bool FX.1.1, .slice ea FX.1.2.1.length ga, .slice eb FX.1.2.2.length gb], .bool FX.2]) (by simp [results, Try.results42, go_sem, hrc0, hrc1, hrc2]) rfl ?_
    rw [hF.out]
    exact ⟨⟨ea, ga, eb, gb, rfl, set3_own s1 (by omega) (by omega), l1, set3_own s2 (by omega) (by omega), l2⟩, set3_below (hB.trans (hbq.mono hB.size)) (by omega)⟩
end Go.Proofs.Ytoandabopahmhaa
