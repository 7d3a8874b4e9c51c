/- The walks of the draws of fractions: l05Draw, MakeRats. -/
import Derived.Deep.RegionWith
import Derived.Deep.DeepCutAuto
import Derived.Test.YtogkonenejfgmaaGreatDoorM14
import Derived.Test.YtogkonenejfgmaaGreatDoorM21
import Derived.Test.YtogkonenejfgmaaGreatDoorM25
import Derived.Test.YtogkonenejfgmaaGreatDoorM26
namespace Go.Proofs.YtogkonenejfgmaaGreatDoor
open Go.RowKit
set_option linter.unusedVariables false
theorem Box3.wr {W W1 : World} {lo hi r : Nat} {u v z : Value} (h : Box3 W r u v z) (hw : Wr W W1 lo hi) (hd : r < lo ∨ hi ≤ r) : Box3 W1 r u v z := by
  have hlt := h.lt
  obtain ⟨⟨h0, h1, h2⟩, f0, f1, f2⟩ := h
  exact ⟨⟨cell_keep_wr hw h0 hd, cell_keep_wr hw h1 hd, cell_keep_wr hw h2 hd⟩, (hw.frozen (p := ⟨r, 0, none⟩) hlt hd).trans f0, (hw.frozen (p := ⟨r, 1, none⟩) hlt hd).trans f1, (hw.frozen (p := ⟨r, 2, none⟩) hlt hd).trans f2⟩
theorem Box3.keep {W W1 : World} {C r : Nat} {u v z : Value} (h : Box3 W r u v z) (hb : Below C W W1) (hC : r < C) : Box3 W1 r u v z := by
  obtain ⟨⟨h0, h1, h2⟩, f0, f1, f2⟩ := h
  exact ⟨⟨(hb.cell (p := ⟨r, 0, none⟩) hC).trans h0, (hb.cell (p := ⟨r, 1, none⟩) hC).trans h1, (hb.cell (p := ⟨r, 2, none⟩) hC).trans h2⟩, (hb.frozen (p := ⟨r, 0, none⟩) hC).trans f0, (hb.frozen (p := ⟨r, 1, none⟩) hC).trans f1, (hb.frozen (p := ⟨r, 2, none⟩) hC).trans f2⟩
theorem Box2.keep {W W1 : World} {C r : Nat} {u v : Value} (h : Box2 W r u v) (hb : Below C W W1) (hC : r < C) : Box2 W1 r u v := by
  obtain ⟨⟨h0, h1⟩, f0, f1⟩ := h
  exact ⟨⟨(hb.cell (p := ⟨r, 0, none⟩) hC).trans h0, (hb.cell (p := ⟨r, 1, none⟩) hC).trans h1⟩, (hb.frozen (p := ⟨r, 0, none⟩) hC).trans f0, (hb.frozen (p := ⟨r, 1, none⟩) hC).trans f1⟩
theorem Slot.inn4 {w : World} {lo hi : Nat} {a : Option Addr} {c : Nat} {xs : List Int} (h : Slot w lo hi a c xs) (hl : xs.length ≤ 60) : In w a c xs := by
  refine ⟨h.rd, ?_, by omega⟩
  rcases h.2 with rfl | h
  · exact Nat.zero_le _
  · exact h.1.le
theorem snoc_limbs {m k : Nat} (h1 : (limbs m).length ≤ 1) (hk : 1 ≤ k ∧ k ≤ 999) : ∃ N, limbs m ++ [(k : Int)] = limbs N ∧ 0 < N ∧ (limbs N).length ≤ 2 := by
  have hc : canon (limbs m ++ [(k : Int)]) := by
    refine ⟨okL_append.2 ⟨limbs_ok m, by intro x hx; simp at hx; omega⟩, ?_⟩
    simp; omega
  have e := canon_limbs hc
  have hl : (limbs m ++ [(k : Int)]).length ≤ 2 := by simp; omega
  refine ⟨(val (limbs m ++ [(k : Int)])).toNat, e, ?_, by rw [← e]; exact hl⟩
  rcases Nat.eq_zero_or_pos (val (limbs m ++ [(k : Int)])).toNat with h | h
  · rw [h, limbs_zero] at e; simp at e
  · exact h
theorem make_low {z : Int} {N : Nat} (hz : (sg z).2.length ≤ 18) (hN : 0 < N) (hl : (limbs N).length ≤ 18) :
    ∃ (y : Int) (d : Nat), fRatMake (sg z).1 (sg z).2 false (limbs N) = (((sg y).1, (sg y).2, limbs d), true) ∧ QQ y d ∧ y.natAbs ≤ z.natAbs ∧ d ≤ N := by
  have hz' : (limbs z.natAbs).length ≤ 18 := hz
  obtain ⟨y, d, h1, h2, h3, h4, h5⟩ := low_ex (neg := (sg z).1) (m := z.natAbs) hN hz' hl
  refine ⟨y, d, ?_, h3, h4, h5⟩
  have hi : intB (sg z).1 (sg z).2 = true := intB_sg (by omega)
  have hj : intB false (limbs N) = true := by unfold intB; rw [natB_of (by omega)]; rfl
  unfold fRatMake
  rw [hi, hj, decide_eq_true (limbs_pos_iff.2 hN)]
  rw [show nv (sg z).2 = z.natAbs from nv_limbs _, nv_limbs, Bool.bne_false]
  exact h1
set_option maxRecDepth 100000 in
set_option maxHeartbeats 6400000 in
theorem draw_rat (B : Nat) (a : Option Addr) (c : Nat) (xs : List Int) (st : Int × Nat) (w : World) (h : Cur w B a c xs st) (hb : Byt xs) (hl : xs.length ≤ 1048576) (hc : xs.length ≤ c) :
    Calls Tryz.prog 15 #[.pointer (some ⟨B, 0, none⟩), .int .i64 2] w fun e w' => ∃ (z : Int) (d : Nat) (a' : Option Addr) (c' : Nat) (b' : Option Addr) (d' : Nat) (s : Int × Nat), e = .returned (.agg #[.bool (sg z).1, .slice a' (sg z).2.length c', .slice b' (limbs d).length d']) ∧ QQ z d ∧ (sg z).2.length ≤ 2 ∧ (limbs d).length ≤ 2 ∧ Own w' w.heap.size a' c' (sg z).2 ∧ Own w' w.heap.size b' d' (limbs d) ∧ Cur w' B a c xs s ∧ Wr w w' B (B + 1) := by
  have HB := Lib.hid hb
  clear hb
  have hB := h.lt
  have h' : Cur (w.alloc (.cells #[.bool false, .slice none 0 0, .slice none 0 0] 27)) B a c xs st := h.below (bel_alloc _ _) (Nat.le_refl _)
  have hwr := Wr.of (bel_alloc w (.cells #[.bool false, .slice none 0 0, .slice none 0 0] 27)) B (B + 1)
  have K := Box3.new w (.bool false) (.slice none 0 0) (.slice none 0 0) 27 _ rfl
  have hs0 : w.heap.size < (w.alloc (.cells #[.bool false, .slice none 0 0, .slice none 0 0] 27)).heap.size := by simp
  clear h
  go_enter Tryz.func15, Tryz.ntmps15
  go_wp2_with fail
  generalize w.alloc (.cells #[.bool false, .slice none 0 0, .slice none 0 0] 27) = W at h' hwr K hs0 ⊢
  refine (draw_int B a c xs st 2 _ h' HB.out hl hc (by omega)).mono ?_
  rintro e w1 ⟨z, a1, c1, s1, rfl, lz, ho1, h1, hw1⟩
  replace hwr := hwr.trans hw1
  replace K := K.wr hw1 (by omega)
  have hs1 := hw1.size
  clear h' hw1
  have hal := bel_alloc w1 (.cells #[.bool (sg z).1, .slice a1 (sg z).2.length c1] 25)
  have K5 := Box2.new w1 (.bool (sg z).1) (.slice a1 (sg z).2.length c1) 25 _ rfl
  replace hwr := hwr.trans (Wr.of hal B (B + 1))
  replace K := K.below hal (Nat.le_refl _)
  replace ho1 := (Slot.of ho1).below hal (Nat.le_refl _)
  replace h1 := h1.below hal (Nat.le_refl _)
  have hsa : w1.heap.size < (w1.alloc (.cells #[.bool (sg z).1, .slice a1 (sg z).2.length c1] 25)).heap.size := by simp
  clear hal
  go_wp2_with fail
  generalize w1.alloc (.cells #[.bool (sg z).1, .slice a1 (sg z).2.length c1] 25) = w2 at K K5 ho1 h1 hwr hsa ⊢
  obtain ⟨b5, hb5⟩ : ∃ b, w1.heap.size = b := ⟨_, rfl⟩
  have hb5a : w.heap.size < b5 := by omega
  have hb5b : b5 < w2.heap.size := by omega
  rw [hb5] at K5 ⊢
  clear hb5
  refine (draw_any B a c xs s1 12 _ h1 HB.out hl hc (by omega)).mono ?_
  rintro e w3 ⟨k, s3, rfl, hk0, hk1, h3, hw3⟩
  replace hwr := hwr.trans hw3
  replace K := K.wr hw3 (by omega)
  replace K5 := K5.wr hw3 (by omega)
  replace ho1 := ho1.wr hw3 (.inr (by omega))
  have hs3 := hw3.size
  clear h1 hw3
  obtain ⟨kn, rfl⟩ := Int.eq_ofNat_of_zero_le hk0
  go_wp2_with fail
  -- TAIL
  obtain ⟨n0, hn0⟩ : ∃ n : Nat, 1 + (kn : Int) = n := ⟨1 + kn, by omega⟩
  rw [hn0]
  have hn01 : 0 < n0 ∧ n0 ≤ 12 := by omega
  clear hn0
  have hof := spec_NatOf (n0 : Int) w3 ⟨by omega, by omega⟩
  rw [Int.toNat_natCast] at hof
  refine hof.mono ?_
  rintro e w4 ⟨⟨a6, c6, rfl, o6, -⟩, hb4⟩
  have ln0 : (limbs n0).length ≤ 1 := limbs_len_le.2 (by omega)
  replace hwr := hwr.trans (Wr.of hb4 B (B + 1))
  replace K := K.below hb4 (Nat.le_refl _)
  replace K5 := K5.below hb4 (Nat.le_refl _)
  replace ho1 := ho1.below hb4 ho1.1
  have h4 := h3.below hb4 (Nat.le_refl _)
  have hs4 := hb4.size
  clear hof hb4 h3
  have hal := bel_alloc w4 (.cells #[.bool false, .slice a6 (limbs n0).length c6] 25)
  have K6 := Box2.new w4 (.bool false) (.slice a6 (limbs n0).length c6) 25 _ rfl
  replace hwr := hwr.trans (Wr.of hal B (B + 1))
  replace K := K.below hal (Nat.le_refl _)
  replace K5 := K5.below hal (Nat.le_refl _)
  replace ho1 := ho1.below hal ho1.1
  replace o6 := o6.below hal (Nat.le_refl _)
  replace h4 := h4.below hal (Nat.le_refl _)
  have hsb : w4.heap.size < (w4.alloc (.cells #[.bool false, .slice a6 (limbs n0).length c6] 25)).heap.size := by simp
  clear hal
  go_wp2_with fail
  generalize w4.alloc (.cells #[.bool false, .slice a6 (limbs n0).length c6] 25) = w5 at K K5 K6 ho1 o6 h4 hwr hsb ⊢
  obtain ⟨b6, hb6⟩ : ∃ b, w4.heap.size = b := ⟨_, rfl⟩
  have hb6a : b5 < b6 := by omega
  rw [hb6] at K6 ⊢
  have hb6s : b6 < w5.heap.size := by omega
  have hb6c : w1.heap.size ≤ b6 := by omega
  clear hb6
  refine (draw_once B a c xs s3 3 _ h4 HB.out hl hc (by omega)).mono ?_
  rintro e w6 ⟨bb, s6, rfl, h6, hw6⟩
  replace hwr := hwr.trans hw6
  replace K := K.wr hw6 (by omega)
  replace K5 := K5.wr hw6 (by omega)
  replace K6 := K6.wr hw6 (by omega)
  replace ho1 := ho1.wr hw6 (.inr (by omega))
  replace o6 := o6.wr hw6 (by omega)
  have hs6 := hw6.size
  clear h4 hw6
  cases bb
  · obtain ⟨N, hN⟩ : ∃ N, n0 = N := ⟨_, rfl⟩
    subst hN
    have hN0 := hn01.1
    have lN : (limbs n0).length ≤ 2 := by omega
    have HT := h6
    have hlo := make_low (show (sg z).2.length ≤ 18 by omega) hN0 (show (limbs n0).length ≤ 18 by omega)
    obtain ⟨y, d, hF, hQ, hy, hd⟩ := hlo
    have hmk := spec_RatMake (sg z).1 a1 c1 (sg z).2 false a6 c6 (limbs n0) w6 (ho1.inn4 (by omega)) (o6.inn (by omega))
    rw [hF] at hmk
    have lyy : (sg y).2.length ≤ 2 := Nat.le_trans (limbs_len_mono hy) lz
    have ldd : (limbs d).length ≤ 2 := Nat.le_trans (limbs_len_mono hd) lN
    clear hF hy hd
    obtain ⟨⟨p0, p1⟩, -, -⟩ := K5
    obtain ⟨⟨q0, q1⟩, -, -⟩ := K6
    go_wp2_with fail
    refine hmk.mono ?_
    rintro e w8 ⟨⟨a8, c8, b8, d8, rfl, o8, -, r8, -⟩, hb8⟩
    dsimp only at o8 r8 ⊢
    replace hwr := hwr.trans (Wr.of hb8 B (B + 1))
    replace K := K.below hb8 (Nat.le_refl _)
    have ht8 := HT.below hb8 (Nat.le_refl _)
    have hs8 := hb8.size
    clear hmk hb8 HT ho1 o6 p0 p1 q0 q1
    have hal := bel_alloc w8 (.cells #[.bool (sg y).1, .slice a8 (sg y).2.length c8, .slice b8 (limbs d).length d8] 27)
    have K7 := Box3.new w8 (.bool (sg y).1) (.slice a8 (sg y).2.length c8) (.slice b8 (limbs d).length d8) 27 _ rfl
    replace hwr := hwr.trans (Wr.of hal B (B + 1))
    replace K := K.below hal (Nat.le_refl _)
    replace o8 := (o8.below hal (Nat.le_refl _)).mono (B' := w.heap.size + 1) (by omega)
    replace r8 := (r8.below hal (Nat.le_refl _)).mono (B' := w.heap.size + 1) (by omega)
    have ht9 := ht8.below hal (Nat.le_refl _)
    obtain ⟨⟨x0, x1, x2⟩, -, -, -⟩ := K7
    obtain ⟨⟨y0, y1, y2⟩, g0, g1, g2⟩ := K
    clear hal ht8
    go_wp2
    have rr0 := set3_cell0 (u := .bool (sg y).1) (v := .slice a8 (sg y).2.length c8) (z := .slice b8 (limbs d).length d8) y0
    have rr1 := set3_cell1 (u := .bool (sg y).1) (v := .slice a8 (sg y).2.length c8) (z := .slice b8 (limbs d).length d8) y1
    have rr2 := set3_cell2 (u := .bool (sg y).1) (v := .slice a8 (sg y).2.length c8) (z := .slice b8 (limbs d).length d8) y2
    refine bodyPost_ret (v := .agg #[.bool (sg y).1, .slice a8 (sg y).2.length c8, .slice b8 (limbs d).length d8]) (by simp [results, Tryz.results15, go_sem, rr0, rr1, rr2]) rfl ⟨y, d, a8, c8, b8, d8, s6, rfl, hQ, lyy, ldd, ?_, ?_, ?_, ?_⟩
    · exact set3_own o8 (by omega) (by omega)
    · exact set3_own r8 (by omega) (by omega)
    · exact ((ht9.set hB 0 _).set hB 1 _).set hB 2 _
    · exact ((hwr.set2 (Nat.le_refl _) 0 _).set2 (Nat.le_refl _) 1 _).set2 (Nat.le_refl _) 2 _
  · go_wp2_with fail
    refine (draw_nat B a c xs s6 1 _ h6 HB.out hl hc (by omega)).mono ?_
    rintro e w7 ⟨m, am, cm, s7, rfl, lm, om, h7, hw7⟩
    replace hwr := hwr.trans hw7
    replace K := K.wr hw7 (by omega)
    replace K5 := K5.wr hw7 (by omega)
    replace K6 := K6.wr hw7 (by omega)
    replace ho1 := ho1.wr hw7 (.inr (by omega))
    have hs7 := hw7.size
    clear h6 hw7 o6
    go_wp2_with fail
    refine (draw_any B a c xs s7 999 _ h7 HB.out hl hc (by omega)).mono ?_
    rintro e wa ⟨k9, s9, rfl, hk90, hk91, ha, hwa⟩
    obtain ⟨kk, rfl⟩ := Int.eq_ofNat_of_zero_le hk90
    obtain ⟨k1, hk1'⟩ : ∃ n : Nat, 1 + (kk : Int) = n := ⟨1 + kk, by omega⟩
    have hk1r : 1 ≤ k1 ∧ k1 ≤ 999 := by omega
    replace hwr := hwr.trans hwa
    replace K := K.wr hwa (by omega)
    replace K5 := K5.wr hwa (by omega)
    replace K6 := K6.wr hwa (by omega)
    replace ho1 := ho1.wr hwa (.inr (by omega))
    replace om := om.wr hwa (by omega)
    have hsA := hwa.size
    obtain ⟨N, hN, hN0, lN⟩ := snoc_limbs lm hk1r
    have HN := Lib.hid hN
    obtain ⟨⟨q0, q1⟩, g60, g61⟩ := K6
    have HQ0 := Lib.hid q0
    have HQ1 := Lib.hid q1
    clear h7 hwa hN q0 q1
    go_wp2_with (at_builtin; refine app1 _ rfl _ _ rfl w6.heap.size am cm (limbs m) (k1 : Int) rfl (by rw [← hk1']; rfl) om (by omega) (by omega) ?_)
    intro ap cp wb oN hbb
    have hNl : (limbs m).length + 1 = (limbs N).length := by have := congrArg List.length HN.out; simpa using this
    rw [HN.out] at oN
    first | rw [HN.out] | rw [List.length_append, List.length_singleton, hNl] | rw [hNl] | simp only [List.length_append, List.length_cons, List.length_nil, Nat.zero_add, hNl]
    clear hNl
    have hw6 : w.heap.size < w6.heap.size := by omega
    replace hwr := hwr.below (hbb.mono (by omega))
    replace K := K.keep hbb hw6
    replace K5 := K5.keep hbb (by omega)
    replace ho1 := ho1.below hbb (by omega)
    have hbt := ha.keep hbb (by omega)
    have q0 := (hbb.cell (p := ⟨b6, 0, none⟩) (by show b6 < _; omega)).trans HQ0.out
    have q1 := (hbb.cell (p := ⟨b6, 1, none⟩) (by show b6 < _; omega)).trans HQ1.out
    replace g60 := (hbb.frozen (p := ⟨b6, 0, none⟩) (by show b6 < _; omega)).trans g60
    replace g61 := (hbb.frozen (p := ⟨b6, 1, none⟩) (by show b6 < _; omega)).trans g61
    have hszb := hbb.size
    have hszc := K5.lt
    clear om ha hbb
    have HT := hbt.set (show B < b6 by omega) 1 (.slice ap (limbs N).length cp)
    have hW6 : Wr wb (wb.setCell ⟨b6, 1, none⟩ (.slice ap (limbs N).length cp)) b6 (b6 + 1) := (Wr.refl wb b6 (b6 + 1)).set (g := b6) (k := 1) ⟨Nat.le_refl _, by omega⟩ _
    have K6 : Box2 (wb.setCell ⟨b6, 1, none⟩ (.slice ap (limbs N).length cp)) b6 (.bool false) (.slice ap (limbs N).length cp) :=
      ⟨⟨(World.cell?_setCell_other _ _ _ _ (addr_ne (by omega))).trans q0, World.cell?_setCell_same _ _ _ q1⟩, by simpa using g60, by simpa using g61⟩
    replace K := K.wr hW6 (.inl (by omega))
    replace K5 := K5.wr hW6 (.inl (by omega))
    replace ho1 := ho1.wr hW6 (.inl (by omega))
    replace hwr := hwr.set2 (g := b6) (by omega) 1 (.slice ap (limbs N).length cp)
    have o6 : Own (wb.setCell ⟨b6, 1, none⟩ (.slice ap (limbs N).length cp)) w6.heap.size ap cp (limbs N) := own_set oN (show b6 < w6.heap.size by omega) _ (Nat.le_refl _)
    have hszd : wb.heap.size ≤ (wb.setCell ⟨b6, 1, none⟩ (.slice ap (limbs N).length cp)).heap.size := hW6.size
    clear hbt hW6 oN
    go_upto_region 5 with fail
    generalize wb.setCell ⟨b6, 1, none⟩ (.slice ap (limbs N).length cp) = wt at HT K K5 K6 ho1 hwr o6 hszd ⊢
    clear q0 q1 g60 g61
    have a6 := ap
    have c6 := cp
    have hlo := make_low (show (sg z).2.length ≤ 18 by omega) hN0 (show (limbs N).length ≤ 18 by omega)
    obtain ⟨y, d, hF, hQ, hy, hd⟩ := hlo
    have hmk := spec_RatMake (sg z).1 a1 c1 (sg z).2 false ap cp (limbs N) wt (ho1.inn4 (by omega)) (o6.inn (by omega))
    rw [hF] at hmk
    have lyy : (sg y).2.length ≤ 2 := Nat.le_trans (limbs_len_mono hy) lz
    have ldd : (limbs d).length ≤ 2 := Nat.le_trans (limbs_len_mono hd) lN
    clear hF hy hd
    obtain ⟨⟨p0, p1⟩, -, -⟩ := K5
    obtain ⟨⟨q0, q1⟩, -, -⟩ := K6
    go_wp2_with fail
    refine hmk.mono ?_
    rintro e w8 ⟨⟨a8, c8, b8, d8, rfl, o8, -, r8, -⟩, hb8⟩
    dsimp only at o8 r8 ⊢
    replace hwr := hwr.trans (Wr.of hb8 B (B + 1))
    replace K := K.below hb8 (Nat.le_refl _)
    have ht8 := HT.below hb8 (Nat.le_refl _)
    have hs8 := hb8.size
    clear hmk hb8 HT ho1 o6 p0 p1 q0 q1
    have hal := bel_alloc w8 (.cells #[.bool (sg y).1, .slice a8 (sg y).2.length c8, .slice b8 (limbs d).length d8] 27)
    have K7 := Box3.new w8 (.bool (sg y).1) (.slice a8 (sg y).2.length c8) (.slice b8 (limbs d).length d8) 27 _ rfl
    replace hwr := hwr.trans (Wr.of hal B (B + 1))
    replace K := K.below hal (Nat.le_refl _)
    replace o8 := (o8.below hal (Nat.le_refl _)).mono (B' := w.heap.size + 1) (by omega)
    replace r8 := (r8.below hal (Nat.le_refl _)).mono (B' := w.heap.size + 1) (by omega)
    have ht9 := ht8.below hal (Nat.le_refl _)
    obtain ⟨⟨x0, x1, x2⟩, -, -, -⟩ := K7
    obtain ⟨⟨y0, y1, y2⟩, g0, g1, g2⟩ := K
    clear hal ht8
    go_wp2
    have rr0 := set3_cell0 (u := .bool (sg y).1) (v := .slice a8 (sg y).2.length c8) (z := .slice b8 (limbs d).length d8) y0
    have rr1 := set3_cell1 (u := .bool (sg y).1) (v := .slice a8 (sg y).2.length c8) (z := .slice b8 (limbs d).length d8) y1
    have rr2 := set3_cell2 (u := .bool (sg y).1) (v := .slice a8 (sg y).2.length c8) (z := .slice b8 (limbs d).length d8) y2
    refine bodyPost_ret (v := .agg #[.bool (sg y).1, .slice a8 (sg y).2.length c8, .slice b8 (limbs d).length d8]) (by simp [results, Tryz.results15, go_sem, rr0, rr1, rr2]) rfl ⟨y, d, a8, c8, b8, d8, s9, rfl, hQ, lyy, ldd, ?_, ?_, ?_, ?_⟩
    · exact set3_own o8 (by omega) (by omega)
    · exact set3_own r8 (by omega) (by omega)
    · exact ((ht9.set hB 0 _).set hB 1 _).set hB 2 _
    · exact ((hwr.set2 (Nat.le_refl _) 0 _).set2 (Nat.le_refl _) 1 _).set2 (Nat.le_refl _) 2 _
end Go.Proofs.YtogkonenejfgmaaGreatDoor
