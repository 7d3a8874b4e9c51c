/- A fraction is read from its text. Plain law, no program's step. The walk of RatAdd (program). (Printed by gen_rat2.py.) -/
import Derived.Test.YtogkonenejfgmaaGreatDoorM21
import Derived.Test.YtogkonenejfgmaaGreatDoorM35
import Derived.Test.YtogkonenejfgmaaGreatDoorM26
import Derived.Test.YtogkonenejfgmaaGreatDoorM13
namespace Go.Proofs.YtogkonenejfgmaaGreatDoor
open Go.Lib (decDigits itoa)
theorem fStrInt_itoa (x : Int) (hx : (decDigits x.natAbs).length ≤ 450) : fStrInt (itoa x) = (sg x, true) := by
  unfold itoa
  by_cases h0 : x < 0
  · rw [if_pos h0]
    have h1 : fTextNat (45 :: decDigits x.natAbs).tail = (limbs x.natAbs, true) := by
      show fTextNat (decDigits x.natAbs) = _
      rw [fTextNat_yes (numB_dec _ hx), dv_dec]
    rw [fStrInt_neg_yes rfl (by rw [h1]) (by rw [h1]; exact limbs_len_pos.2 (by omega)), h1]
    unfold sg; rw [decide_eq_true h0]
  · rw [if_neg h0, show x.toNat = x.natAbs by omega]
    have h1 : fTextNat (decDigits x.natAbs) = (limbs x.natAbs, true) := by rw [fTextNat_yes (numB_dec _ hx), dv_dec]
    rw [fStrInt_yes ?_ (by rw [h1]), h1]
    · unfold sg; rw [decide_eq_false h0]
    · have hd := digs_dec x.natAbs
      intro hh
      cases hl : decDigits x.natAbs with
      | nil => rw [hl] at hh; simp at hh
      | cons c r =>
        rw [hl] at hh hd
        have h45 : c = 45 := by simpa using hh
        have := hd c (by simp)
        rw [h45] at this
        revert this; decide
theorem not47 {l : List UInt8} (h : l.filter (isSep ⟨#[47]⟩) = []) : ∀ i, i < l.length → l.getD i 0 ≠ 47 := by
  intro i hi e
  rw [List.filter_eq_nil_iff] at h
  have hm : l.getD i 0 ∈ l := by
    rw [List.getD_eq_getElem?_getD, List.getElem?_eq_getElem hi]; exact List.getElem_mem hi
  have := h _ hm
  rw [e] at this
  exact this (by decide)
theorem cut_is1 {s : ByteArray} (h : s.data.toList.filter (isSep ⟨#[47]⟩) = []) : fCutAt s ⟨#[47]⟩ = [s] := by
  have hc := fCutAt_count s ⟨#[47]⟩
  rw [h] at hc
  have hj := fJoin_cut s 47
  match hL : fCutAt s ⟨#[47]⟩, hc with
  | [p], _ =>
    rw [hL] at hj
    have hp : fJoin [p] ⟨#[47]⟩ = p := by
      unfold fJoin lst
      rw [show [p].map (fun x => x.data.toList) = [p.data.toList] from rfl, Lib.join_one]
    rw [hp] at hj
    rw [hj]
theorem cut_is2 {A B : List UInt8} (hA : A.filter (isSep ⟨#[47]⟩) = []) (hB : B.filter (isSep ⟨#[47]⟩) = []) : fCutAt (tx (A ++ 47 :: B)) ⟨#[47]⟩ = [tx A, tx B] := by
  have hc := fCutAt_count (tx (A ++ 47 :: B)) ⟨#[47]⟩
  rw [tx_list, List.filter_append, hA, List.filter_cons_of_pos (by decide), hB] at hc
  have hj := fJoin_cut (tx (A ++ 47 :: B)) 47
  match hL : fCutAt (tx (A ++ 47 :: B)) ⟨#[47]⟩, hc with
  | [p, q], _ =>
    rw [hL] at hj
    have hp : (fJoin [p, q] ⟨#[47]⟩).data.toList = p.data.toList ++ 47 :: q.data.toList := by
      unfold fJoin lst
      show Lib.join [p.data.toList, q.data.toList] [47] = _
      rw [show [p.data.toList, q.data.toList] = [p.data.toList] ++ [q.data.toList] from rfl, join_snoc _ _ (by simp), Lib.join_one]
      simp
    rw [hj, tx_list] at hp
    have hlen : p.data.toList.length = A.length := by
      have e1 : (A ++ 47 :: B).getD p.data.toList.length 0 = 47 := by
        rw [hp, List.getD_eq_getElem?_getD, List.getElem?_append_right (Nat.le_refl _)]; simp
      have hbound : p.data.toList.length < (A ++ 47 :: B).length := by rw [hp]; simp
      by_cases h1 : p.data.toList.length < A.length
      · rw [List.getD_eq_getElem?_getD, List.getElem?_append_left h1, ← List.getD_eq_getElem?_getD] at e1
        exact absurd e1 (not47 hA _ h1)
      · by_cases h2 : p.data.toList.length = A.length
        · exact h2
        · exfalso
          rw [List.getD_eq_getElem?_getD, List.getElem?_append_right (by omega)] at e1
          obtain ⟨j, hj2⟩ : ∃ j, p.data.toList.length - A.length = j + 1 := ⟨p.data.toList.length - A.length - 1, by omega⟩
          rw [hj2, List.getElem?_cons_succ, ← List.getD_eq_getElem?_getD] at e1
          have hjb : j < B.length := by rw [List.length_append, List.length_cons] at hbound; omega
          exact not47 hB j hjb e1
    have hs := List.append_inj hp hlen.symm
    have h1 : p = tx A := by rw [hs.1]; exact (tx_of p).symm
    have h2 : q = tx B := by
      have := hs.2
      simp only [List.cons.injEq, true_and] at this
      rw [this]; exact (tx_of q).symm
    rw [h1, h2]
theorem dec_filter (n : Nat) : (decDigits n).filter (isSep ⟨#[47]⟩) = [] := by
  rw [List.filter_eq_nil_iff]
  intro c hc
  have h := digs_dec n c hc
  unfold isSep
  rw [decide_eq_true_iff]
  intro e
  have e2 : c = 47 := by simpa using e
  subst e2; revert h; decide
theorem itoa_filter47 (z : Int) : (itoa z).filter (isSep ⟨#[47]⟩) = [] := by
  unfold itoa
  by_cases h : z < 0
  · rw [if_pos h, List.filter_cons_of_neg (by decide), dec_filter]
  · rw [if_neg h, dec_filter]
theorem fIntStr_sg {x : Int} (h : intB (sg x).1 (sg x).2 = true) : fIntStr (sg x).1 (sg x).2 = itoa x := by
  unfold fIntStr
  rw [h]
  show (if decide (x < 0) = true then 45 :: natTxt (limbs x.natAbs) else natTxt (limbs x.natAbs)) = itoa x
  rw [natTxt_limbs]
  unfold itoa
  by_cases h0 : x < 0
  · rw [if_pos (decide_eq_true h0), if_pos h0]
  · rw [if_neg (by simpa using h0), if_neg h0]
    have : x.natAbs = x.toNat := by omega
    rw [this]
theorem text_rat {z : Int} {d : Nat} (hB : ratB (sg z).1 (sg z).2 (limbs d) = true) (hi : intB (sg z).1 (sg z).2 = true) (hz : (decDigits z.natAbs).length ≤ 450) (hd : (decDigits d).length ≤ 450) :
    fTextRat (tx (fRatText (sg z).1 (sg z).2 (limbs d))) = (((sg z).1, (sg z).2, limbs d), true) := by
  unfold fRatText
  rw [if_pos hB, nv_limbs, fIntStr_sg hi]
  by_cases h1 : d = 1
  · subst h1
    rw [if_pos rfl]
    unfold fTextRat
    rw [cut_is1 (by rw [tx_list]; exact itoa_filter47 z)]
    dsimp only
    rw [tx_list, fStrInt_itoa z hz]
    dsimp only
    rw [limbs1] at hB ⊢
    rw [hB]; rfl
  · rw [if_neg h1, natTxt_limbs]
    unfold fTextRat
    rw [cut_is2 (itoa_filter47 z) (dec_filter d)]
    dsimp only
    rw [tx_list, tx_list, fStrInt_itoa z hz, fTextNat_yes (numB_dec _ hd), dv_dec]
    dsimp only
    have hne : decide (limbs d = [1]) = false := by
      rw [decide_eq_false_iff_not]
      intro e
      rw [← limbs1] at e
      exact h1 (limbs_inj e)
    rw [hB, hne]; rfl
end Go.Proofs.YtogkonenejfgmaaGreatDoor
namespace Go.Proofs.YtogkonenejfgmaaGreatDoor
open Go.RowKit
set_option linter.unusedVariables false
set_option linter.unusedSimpArgs false in
set_option maxRecDepth 100000 in
set_option maxHeartbeats 40000000 in
theorem impl_RatAdd (n1 : Bool) (a1 : Option Addr) (c1 : Nat) (xs : List Int) (b1 : Option Addr) (d1 : Nat) (ys : List Int) (n2 : Bool) (a2 : Option Addr) (c2 : Nat) (us : List Int) (b2 : Option Addr) (d2 : Nat) (vs : List Int) (w : World) (hx : In w a1 c1 xs) (hy : In w b1 d1 ys) (hu : In w a2 c2 us) (hv : In w b2 d2 vs) :
    Calls Tryz.prog 5 #[.agg #[.bool n1, .slice a1 xs.length c1, .slice b1 ys.length d1], .agg #[.bool n2, .slice a2 us.length c2, .slice b2 vs.length d2]] w fun e w' => RatPost2 w (fRatAdd n1 xs ys n2 us vs) e w' := by
  have hA := (((bel_alloc w (.cells #[.bool n1, .slice a1 xs.length c1, .slice b1 ys.length d1] 27)).trans ((bel_alloc _ (.cells #[.bool n2, .slice a2 us.length c2, .slice b2 vs.length d2] 27)).mono (by simp))).trans ((bel_alloc _ (.cells #[.bool false, .slice none 0 0, .slice none 0 0] 27)).mono (by simp; omega)))
  have hzA : w.heap.size + 3 ≤ (World.alloc (World.alloc (World.alloc w (.cells #[.bool n1, .slice a1 xs.length c1, .slice b1 ys.length d1] 27)) (.cells #[.bool n2, .slice a2 us.length c2, .slice b2 vs.length d2] 27)) (.cells #[.bool false, .slice none 0 0, .slice none 0 0] 27)).heap.size := by simp only [World.size_alloc]; omega
  have Q1 := (((Box3.new w (.bool n1) (.slice a1 xs.length c1) (.slice b1 ys.length d1) 27 (w.heap.size) (by simp)).below (bel_alloc _ (.cells #[.bool n2, .slice a2 us.length c2, .slice b2 vs.length d2] 27)) (Nat.le_refl _)).below (bel_alloc _ (.cells #[.bool false, .slice none 0 0, .slice none 0 0] 27)) (Nat.le_refl _))
  have Q2 := ((Box3.new (World.alloc w (.cells #[.bool n1, .slice a1 xs.length c1, .slice b1 ys.length d1] 27)) (.bool n2) (.slice a2 us.length c2) (.slice b2 vs.length d2) 27 (w.heap.size + 1) (by simp)).below (bel_alloc _ (.cells #[.bool false, .slice none 0 0, .slice none 0 0] 27)) (Nat.le_refl _))
  have hR := (Box3.new (World.alloc (World.alloc w (.cells #[.bool n1, .slice a1 xs.length c1, .slice b1 ys.length d1] 27)) (.cells #[.bool n2, .slice a2 us.length c2, .slice b2 vs.length d2] 27)) (.bool false) (.slice none 0 0) (.slice none 0 0) 27 (w.heap.size + 1 + 1) (by simp))
  have HX := Lib.hid (hx.below hA (Nat.le_refl _))
  have HY := Lib.hid (hy.below hA (Nat.le_refl _))
  have HU := Lib.hid (hu.below hA (Nat.le_refl _))
  have HV := Lib.hid (hv.below hA (Nat.le_refl _))
  cases h1 : ratB n1 xs ys
  · have hF0 := Lib.hid (show fRatAdd n1 xs ys n2 us vs = ratZ by unfold fRatAdd; rw [h1]; rfl)
    go_enter Tryz.func5, Tryz.ntmps5
    go_wp2_with fail
    refine (ratsOk_any _ _ _ _ _ _ _ _ _ _ _ _ _ _ _ HX.out HY.out HU.out HV.out).mono ?_
    rintro e w1 ⟨rfl, hb⟩
    rw [h1]
    have zw1 := hb.size
    replace Q1 := Q1.below hb (Nat.le_refl _)
    replace Q2 := Q2.below hb (Nat.le_refl _)
    replace hR := hR.below hb (Nat.le_refl _)
    replace HX := Lib.hid (HX.out.below hb (Nat.le_refl _))
    replace HY := Lib.hid (HY.out.below hb (Nat.le_refl _))
    replace HU := Lib.hid (HU.out.below hb (Nat.le_refl _))
    replace HV := Lib.hid (HV.out.below hb (Nat.le_refl _))
    have hB := hA.trans (hb.mono hA.size)
    clear hb
    have hRk := hR
    obtain ⟨⟨hrc0, hrc1, hrc2⟩, hrf0, hrf1, hrf2⟩ := hRk
    go_wp2
    refine bodyPost_ret (v := .tuple #[.agg #[.bool false, .slice none 0 0, .slice none 0 0], .bool false]) (by simp [results, Tryz.results5, go_sem, hrc0, hrc1, hrc2]) rfl ?_
    rw [hF0.out]
    exact ratPost2_zero (set3_below hB (by omega))
  cases h2 : ratB n2 us vs
  · have hF0 := Lib.hid (show fRatAdd n1 xs ys n2 us vs = ratZ by unfold fRatAdd; rw [h1, h2]; rfl)
    go_enter Tryz.func5, Tryz.ntmps5
    go_wp2_with fail
    refine (ratsOk_any _ _ _ _ _ _ _ _ _ _ _ _ _ _ _ HX.out HY.out HU.out HV.out).mono ?_
    rintro e w1 ⟨rfl, hb⟩
    rw [h1]
    rw [h2]
    have zw1 := hb.size
    replace Q1 := Q1.below hb (Nat.le_refl _)
    replace Q2 := Q2.below hb (Nat.le_refl _)
    replace hR := hR.below hb (Nat.le_refl _)
    replace HX := Lib.hid (HX.out.below hb (Nat.le_refl _))
    replace HY := Lib.hid (HY.out.below hb (Nat.le_refl _))
    replace HU := Lib.hid (HU.out.below hb (Nat.le_refl _))
    replace HV := Lib.hid (HV.out.below hb (Nat.le_refl _))
    have hB := hA.trans (hb.mono hA.size)
    clear hb
    have hRk := hR
    obtain ⟨⟨hrc0, hrc1, hrc2⟩, hrf0, hrf1, hrf2⟩ := hRk
    go_wp2
    refine bodyPost_ret (v := .tuple #[.agg #[.bool false, .slice none 0 0, .slice none 0 0], .bool false]) (by simp [results, Tryz.results5, go_sem, hrc0, hrc1, hrc2]) rfl ?_
    rw [hF0.out]
    exact ratPost2_zero (set3_below hB (by omega))
  obtain ⟨m, n, rfl, rfl, lm, ln, hn0, -, -, -, -, -, -⟩ := ratB_elim h1
  obtain ⟨k, l, rfl, rfl, lk, ll, hl0, -, -, -, -, -, -⟩ := ratB_elim h2
  have len_ml := len_mul m l
  have len_kn := len_mul k n
  have len_nl := len_mul n l
  have hnl : 0 < n * l := Nat.mul_pos hn0 hl0
  have hzl := zadd_len n1 n2 (p := m * l) (q := k * n) (by omega) (by omega)
  obtain ⟨z, hz⟩ : ∃ z, z = zOf n1 (m * l) + zOf n2 (k * n) := ⟨_, rfl⟩
  rw [← hz] at hzl
  obtain ⟨FX, hFX⟩ : ∃ F, F = low (decide (z < 0)) z.natAbs (n * l) := ⟨_, rfl⟩
  have hF := Lib.hid (show fRatAdd n1 (limbs m) (limbs n) n2 (limbs k) (limbs l) = FX by unfold fRatAdd addZ; rw [h1, h2, nv_limbs, nv_limbs, nv_limbs, nv_limbs, ← hz, hFX]; rfl)
  have hmf : ∀ (fn : Fn) (first cap : Array Value) (w : World), (Instr.makeFunc fn first cap).run Tryz.prog w = .ok (.func fn first cap) w := fun _ _ _ _ => rfl
  go_enter Tryz.func5, Tryz.ntmps5
  go_wp2_with fail
  refine (ratsOk_any _ _ _ _ _ _ _ _ _ _ _ _ _ _ _ HX.out HY.out HU.out HV.out).mono ?_
  rintro e w1 ⟨rfl, hb⟩
  rw [h1]
  rw [h2]
  have zw1 := hb.size
  replace Q1 := Q1.below hb (Nat.le_refl _)
  replace Q2 := Q2.below hb (Nat.le_refl _)
  replace hR := hR.below hb (Nat.le_refl _)
  replace HX := Lib.hid (HX.out.below hb (Nat.le_refl _))
  replace HY := Lib.hid (HY.out.below hb (Nat.le_refl _))
  replace HU := Lib.hid (HU.out.below hb (Nat.le_refl _))
  replace HV := Lib.hid (HV.out.below hb (Nat.le_refl _))
  have hB := hA.trans (hb.mono hA.size)
  clear hb
  replace hFX := Lib.hid hFX
  replace hz := Lib.hid hz
  go_upto_region 3 with fail
  go_cut [6, 7] (fun t u wx => t = Value.func (Fn.func 17) #[.agg #[.bool n1, .slice a1 (limbs m).length c1, .slice b1 (limbs n).length d1]] #[] ∧ u = Value.func (Fn.func 17) #[.agg #[.bool n2, .slice a2 (limbs k).length c2, .slice b2 (limbs l).length d2]] #[] ∧ wx = World.drew w1)
  case first =>
    have hbq : Below w1.heap.size w1 (World.drew w1) := (Below.refl _ _).drew
    go_region_held3 (fun w' => w'.cell? ⟨w.heap.size, 0, none⟩ = some (.bool n1) ∧ w'.cell? ⟨w.heap.size, 1, none⟩ = some (.slice a1 (limbs m).length c1) ∧ w'.cell? ⟨w.heap.size, 2, none⟩ = some (.slice b1 (limbs n).length d1) ∧ w'.cell? ⟨w.heap.size + 1, 0, none⟩ = some (.bool n2) ∧ w'.cell? ⟨w.heap.size + 1, 1, none⟩ = some (.slice a2 (limbs k).length c2) ∧ w'.cell? ⟨w.heap.size + 1, 2, none⟩ = some (.slice b2 (limbs l).length d2))
      (first | (exact ⟨cell_keep hbq Q1.1.1 (Nat.le_refl _), cell_keep hbq Q1.1.2.1 (Nat.le_refl _), cell_keep hbq Q1.1.2.2 (Nat.le_refl _), cell_keep hbq Q2.1.1 (Nat.le_refl _), cell_keep hbq Q2.1.2.1 (Nat.le_refl _), cell_keep hbq Q2.1.2.2 (Nat.le_refl _)⟩) | (exact ⟨Q1.1.1, Q1.1.2.1, Q1.1.2.2, Q2.1.1, Q2.1.2.1, Q2.1.2.2⟩) | go_keep)
      (first | (skip))
    all_goals (go_wp2_with fail; go_meet; exact ⟨rfl, rfl, rfl⟩)
  case rest =>
  obtain ⟨rfl, rfl, hW0⟩ := hcut
  have hb : Below w1.heap.size w1 wc := by rw [hW0]; exact (Below.refl _ _).drew
  obtain ⟨w2, hW⟩ : ∃ x : World, x = wc := ⟨_, rfl⟩
  rw [← hW] at hb ⊢
  clear hW hW0 hmf
  have zw2 := hb.size
  replace Q1 := Q1.below hb (Nat.le_refl _)
  replace Q2 := Q2.below hb (Nat.le_refl _)
  replace hR := hR.below hb (Nat.le_refl _)
  replace HX := Lib.hid (HX.out.below hb (Nat.le_refl _))
  replace HY := Lib.hid (HY.out.below hb (Nat.le_refl _))
  replace HU := Lib.hid (HU.out.below hb (Nat.le_refl _))
  replace HV := Lib.hid (HV.out.below hb (Nat.le_refl _))
  replace hB := hB.trans (hb.mono hB.size)
  clear hb
  go_wp2_with fail
  have nq0 : w.heap.size + 1 + 1 ≠ w.heap.size := by omega
  have nq1 : w.heap.size + 1 + 1 ≠ w.heap.size + 1 := by omega
  have hbq : Below w2.heap.size w2 (World.drew w2) := (Below.refl _ _).drew
  go_region_held3 (fun w' => w'.cell? ⟨w.heap.size, 0, none⟩ = some (.bool n1) ∧ w'.cell? ⟨w.heap.size, 1, none⟩ = some (.slice a1 (limbs m).length c1) ∧ w'.cell? ⟨w.heap.size, 2, none⟩ = some (.slice b1 (limbs n).length d1) ∧ w'.cell? ⟨w.heap.size + 1, 0, none⟩ = some (.bool n2) ∧ w'.cell? ⟨w.heap.size + 1, 1, none⟩ = some (.slice a2 (limbs k).length c2) ∧ w'.cell? ⟨w.heap.size + 1, 2, none⟩ = some (.slice b2 (limbs l).length d2))
    (first | (with_reducible exact ⟨far3 nq0 (cell_keep hbq Q1.1.1 (Nat.le_refl _)), far3 nq0 (cell_keep hbq Q1.1.2.1 (Nat.le_refl _)), far3 nq0 (cell_keep hbq Q1.1.2.2 (Nat.le_refl _)), far3 nq1 (cell_keep hbq Q2.1.1 (Nat.le_refl _)), far3 nq1 (cell_keep hbq Q2.1.2.1 (Nat.le_refl _)), far3 nq1 (cell_keep hbq Q2.1.2.2 (Nat.le_refl _))⟩) | (exact ⟨cell_keep hbq Q1.1.1 (Nat.le_refl _), cell_keep hbq Q1.1.2.1 (Nat.le_refl _), cell_keep hbq Q1.1.2.2 (Nat.le_refl _), cell_keep hbq Q2.1.1 (Nat.le_refl _), cell_keep hbq Q2.1.2.1 (Nat.le_refl _), cell_keep hbq Q2.1.2.2 (Nat.le_refl _)⟩) | (exact ⟨Q1.1.1, Q1.1.2.1, Q1.1.2.2, Q2.1.1, Q2.1.2.1, Q2.1.2.2⟩) | go_keep)
    (first | (go_at_call 18; refine (reduce_z z _ _ _ _ (n * l) _ FX hFX.out ho3.1 ho4.1 (by omega) (by omega) hnl).mono ?_; rintro e qL ⟨⟨ea, ga, eb, gb, lo, up, lo2, up2, rfl, s1, l1, s2, l2, k1, k2, hd⟩, hq⟩; have zpL := hbq.size; have zsL := hq.size; replace hbq := hbq.trans (hq.mono hbq.size); clear hq; have hRq := hR.below hbq (Nat.le_refl _); obtain ⟨⟨hrc0, hrc1, hrc2⟩, hrf0, hrf1, hrf2⟩ := hRq) | (go_at_call 19; refine (intAdd_z2 n1 n2 _ _ _ _ (m * l) (k * n) z _ hz.out ho1 ho2 (by omega) (by omega)).mono ?_; rintro e qC ⟨⟨e3, g3, rfl, ho3⟩, hq⟩; have zpC := hbq.size; (try replace ho4 := ho4.below hq (Nat.le_refl _)); have zsC := hq.size; replace hbq := hbq.trans (hq.mono hbq.size); clear hq) | (go_at_call 20; with_reducible (show Calls _ _ #[Value.slice b1 _ _, Value.slice b2 _ _] _ _); refine (natMul_n b1 b2 d1 d2 n l _ (HY.out.below hbq (Nat.le_refl _)) (HV.out.below hbq (Nat.le_refl _)) (by omega) (by omega)).mono ?_; rintro e qM ⟨⟨e4, g4, rfl, ho4⟩, hq⟩; have zpM := hbq.size; (try replace ho1 := ho1.below hq (Nat.le_refl _)); (try replace ho2 := ho2.below hq (Nat.le_refl _)); (try replace ho3 := ho3.below hq (Nat.le_refl _)); have zsM := hq.size; replace hbq := hbq.trans (hq.mono hbq.size); clear hq) | (go_at_call 17; with_reducible (show Calls _ _ #[Value.agg #[Value.bool n1, _, _], _] _ _); refine (num_any n1 a1 c1 m b1 d1 (limbs n) b2 d2 l _ (HX.out.below hbq (Nat.le_refl _)) (HV.out.below hbq (Nat.le_refl _)) (by omega) (by omega)).mono ?_; rintro e qA ⟨⟨e1, g1, rfl, ho1⟩, hq⟩; have zpA := hbq.size; (try replace ho2 := ho2.below hq (Nat.le_refl _)); (try replace ho4 := ho4.below hq (Nat.le_refl _)); have zsA := hq.size; replace hbq := hbq.trans (hq.mono hbq.size); clear hq) | (go_at_call 17; with_reducible (show Calls _ _ #[Value.agg #[Value.bool n2, _, _], _] _ _); refine (num_any n2 a2 c2 k b2 d2 (limbs l) b1 d1 n _ (HU.out.below hbq (Nat.le_refl _)) (HY.out.below hbq (Nat.le_refl _)) (by omega) (by omega)).mono ?_; rintro e qB ⟨⟨e2, g2, rfl, ho2⟩, hq⟩; have zpB := hbq.size; (try replace ho1 := ho1.below hq (Nat.le_refl _)); (try replace ho4 := ho4.below hq (Nat.le_refl _)); have zsB := hq.size; replace hbq := hbq.trans (hq.mono hbq.size); clear hq))
  all_goals
    go_wp2
    refine bodyPost_ret (v := .tuple #[.agg #[.bool FX.1.1, .slice ea FX.1.2.1.length ga, .slice eb FX.1.2.2.length gb], .bool FX.2]) (by simp [results, Tryz.results5, go_sem, hrc0, hrc1, hrc2]) rfl ?_
    rw [hF.out]
    exact ⟨⟨ea, ga, eb, gb, lo, up, lo2, up2, rfl, s1.set3 (by omega), l1, s2.set3 (by omega), l2, by omega, by omega, hd⟩, set3_below (hB.trans (hbq.mono hB.size)) (by omega)⟩
end Go.Proofs.YtogkonenejfgmaaGreatDoor
