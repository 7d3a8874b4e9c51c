/- The walks of IntOf, IntNum (program and reference). For every argument within the reach. The walks of the draws of numbers with a sign: l01Once, l04Draw, MakeInt, MakeInts, MakeMode. -/
import Derived.Test.YtogkonenejfgmaaGreatDoorM13
import Derived.Test.YtogkonenejfgmaaGreatDoorM06
namespace Go.Proofs.YtogkonenejfgmaaGreatDoor
open Go.RowKit
def fIOf (z : Int) : Bool × List Int := sg z
theorem limbs_min : limbs 9223372036854775808 = [854775808, 223372036, 9] := by
  rw [limbs_pos (by omega), limbs_pos (by omega), limbs_pos (by omega), limbs_zero]
  rfl
theorem fInum_no1 {neg : Bool} {xs : List Int} (h : intB neg xs = false) : fINum neg xs = (0, false) := by unfold fINum; rw [h]; simp
theorem fInum_no2 {neg : Bool} {xs : List Int} (h : (fInt xs).2 = false) : fINum neg xs = (0, false) := by
  unfold fINum
  by_cases hh : intB neg xs = true ∧ nv xs ≤ 9223372036854775807
  · exfalso
    have h1 : natB xs = true := by have := hh.1; unfold intB at this; simp only [Bool.and_eq_true] at this; exact this.1
    unfold fInt at h
    rw [if_pos ⟨h1, by unfold maxN; exact hh.2⟩] at h
    cases h
  · rw [if_neg hh]
theorem fInum_yes {neg : Bool} {xs : List Int} (h : (fInt xs).2 = true) (hi : intB neg xs = true) : fINum neg xs = (if neg then -(fInt xs).1 else (fInt xs).1, true) ∧ 0 ≤ (fInt xs).1 ∧ (fInt xs).1 ≤ 9223372036854775807 := by
  unfold fInt at h ⊢
  by_cases hh : natB xs = true ∧ nv xs ≤ maxN
  · rw [if_pos hh]
    have h2 := hh.2
    unfold maxN at h2
    refine ⟨?_, by simp, by simp; omega⟩
    unfold fINum sv zOf
    rw [if_pos ⟨hi, h2⟩]
  · rw [if_neg hh] at h; cases h
set_option maxHeartbeats 800000 in
theorem spec_IntOf (z : Int) (w : World) (hr : Rng z) :
    Calls Tryz.prog 53 #[.int .i64 z] w fun e w' => (∃ a' c', e = .returned (.agg #[.bool (fIOf z).1, .slice a' (fIOf z).2.length c']) ∧ Own w' w.heap.size a' c' (fIOf z).2 ∧ (fIOf z).2.length ≤ 50) ∧ Below w.heap.size w w' := by
  have hA := bel_alloc w (.cells #[.bool false, .slice none 0 0] 25)
  obtain ⟨h1, h2⟩ := hr
  by_cases hmin : z = -9223372036854775808
  · subst hmin
    have hF : fIOf (-9223372036854775808) = (true, [854775808, 223372036, 9]) := by
      unfold fIOf sg
      rw [show (-9223372036854775808 : Int).natAbs = 9223372036854775808 from rfl, limbs_min]; rfl
    have hcap : capL [854775808, 223372036, 9] = [854775808, 223372036, 9] := by rfl
    have hA2 := hA.trans ((bel_alloc _ (.cells #[.int .i64 854775808, .int .i64 223372036, .int .i64 9] 3)).mono (by simp))
    have hin : In (World.alloc (World.alloc w (.cells #[.bool false, .slice none 0 0] 25)) (.cells #[.int .i64 854775808, .int .i64 223372036, .int .i64 9] 3)) (some ⟨w.heap.size + 1, 0, none⟩) 3 [854775808, 223372036, 9] := by
      refine ⟨?_, by simp, by simp⟩
      refine rd_of_cells (zs := [854775808, 223372036, 9]) ?_ 3
      intro i hi
      have hi' : i < 3 := hi
      match i, hi' with
      | 0, _ => exact cell_box _ _ _ _ 0 _ (by simp) rfl
      | 1, _ => exact cell_box _ _ _ _ 1 _ (by simp) rfl
      | 2, _ => exact cell_box _ _ _ _ 2 _ (by simp) rfl
    go_enter Tryz.func53, Tryz.ntmps53
    go_wp2_with fail
    refine (l04Make_any true _ _ [854775808, 223372036, 9] _ hin).mono ?_
    rintro e w1 ⟨⟨a1, c1, rfl, ho1⟩, hb1⟩
    rw [hcap] at ho1 ⊢
    obtain ⟨hc, hf⟩ := bcell hb1
    have hz := hb1.size
    simp only [World.size_alloc] at hz
    have hB := hA2.trans (hb1.mono hA2.size)
    have hr0 : w1.cell? ⟨w.heap.size, 0, none⟩ = some (.bool false) := cell_keep hb1 (cell_keep (bel_alloc _ _) (cell_box w _ _ _ 0 _ rfl rfl) (Nat.le_refl _)) (Nat.le_refl _)
    have hr1 : w1.cell? ⟨w.heap.size, 1, none⟩ = some (.slice none 0 0) := cell_keep hb1 (cell_keep (bel_alloc _ _) (cell_box w _ _ _ 1 _ rfl rfl) (Nat.le_refl _)) (Nat.le_refl _)
    go_wp2
    refine bodyPost_ret (v := .agg #[.bool true, .slice a1 3 c1]) (by simp [results, Tryz.results53, go_sem, hr0, hr1]) rfl ⟨⟨a1, c1, ?_, ?_, ?_⟩, ?_⟩
    · rw [hF]; rfl
    · rw [hF]
      exact own_set (B0 := w.heap.size + 1) (own_set (B := w.heap.size + 1) (B0 := w.heap.size + 1) (ho1.mono (by simp)) (by dsimp only; omega) _ (Nat.le_refl _)) (by dsimp only; omega) _ (by omega)
    · rw [hF]; simp
    · exact (hB.setCell (by dsimp only; omega) _).setCell (by dsimp only; omega) _
  have hcapn : ∀ n, (limbs n).length ≤ 50 → capL (limbs n) = limbs n := by intro n hn; rw [capL_nat]; unfold capV; rw [if_neg (by omega)]
  by_cases h : z < 0
  · obtain ⟨n, hn⟩ : ∃ n : Nat, n = z.natAbs := ⟨_, rfl⟩
    have hF : fIOf z = (true, limbs n) := by unfold fIOf sg; rw [hn]; simp [h]
    have hz : z = -(n : Int) := by omega
    have hl3 := limbs_small (n := n) (by omega)
    subst hz
    clear hn
    have h0 : 0 < n := by omega
    have hmin2 : ((n : Int) == 9223372036854775808) = false := by rw [beq_eq_false_iff_ne]; omega
    have hmin3 : n ≠ 9223372036854775808 := by omega
    have hpos := limbs_len_pos.2 (show n ≠ 0 by omega)
    go_enter Tryz.func53, Tryz.ntmps53
    go_wp2_with fail
    refine (spec_NatOf (n : Int) _ ⟨by omega, by omega⟩).mono ?_
    rintro e w1 ⟨⟨a1, c1, rfl, ho1, _⟩, hb1⟩
    rw [Int.toNat_natCast] at ho1 ⊢
    obtain ⟨hc, hf⟩ := bcell hb1
    have hz := hb1.size
    simp only [World.size_alloc] at hz
    have hB := hA.trans (hb1.mono hA.size)
    clear hc hf
    go_wp2_with fail
    refine (l04Make_any true _ _ _ _ (ho1.inn (by omega))).mono ?_
    rintro e w2 ⟨⟨a2, c2, rfl, ho2⟩, hb2⟩
    rw [hcapn n (by omega)] at ho2 ⊢
    have hbW := hb1.trans (hb2.mono hb1.size)
    obtain ⟨hc, hf⟩ := bcell hbW
    replace hB := hB.trans (hb2.mono hB.size)
    go_wp2
    refine bodyPost_ret (v := .agg #[.bool true, .slice a2 (limbs n).length c2]) (by simp [results, Tryz.results53, go_sem, hc]) rfl ⟨⟨a2, c2, ?_, ?_, ?_⟩, ?_⟩
    · rw [hF]
    · rw [hF]
      exact own_set (B0 := w.heap.size + 1) (own_set (B := w.heap.size + 1) (B0 := w.heap.size + 1) (ho2.mono (by omega)) (by dsimp only; omega) _ (Nat.le_refl _)) (by dsimp only; omega) _ (by omega)
    · rw [hF]; dsimp only; omega
    · exact (hB.setCell (by dsimp only; omega) _).setCell (by dsimp only; omega) _
  · obtain ⟨n, rfl⟩ := Int.eq_ofNat_of_zero_le (show 0 ≤ z by omega)
    have hF : fIOf (n : Int) = (false, limbs n) := by unfold fIOf sg; simp
    have hl3 := limbs_small (n := n) (by omega)
    have hmin2 : ((n : Int) == -9223372036854775808) = false := by rw [beq_eq_false_iff_ne]; omega
    go_enter Tryz.func53, Tryz.ntmps53
    go_wp2_with fail
    refine (spec_NatOf (n : Int) _ ⟨by omega, by omega⟩).mono ?_
    rintro e w1 ⟨⟨a1, c1, rfl, ho1, _⟩, hb1⟩
    rw [Int.toNat_natCast] at ho1 ⊢
    obtain ⟨hc, hf⟩ := bcell hb1
    have hz := hb1.size
    simp only [World.size_alloc] at hz
    have hB := hA.trans (hb1.mono hA.size)
    clear hc hf
    go_wp2_with fail
    refine (l04Make_any false _ _ _ _ (ho1.inn (by omega))).mono ?_
    rintro e w2 ⟨⟨a2, c2, rfl, ho2⟩, hb2⟩
    rw [hcapn n (by omega)] at ho2 ⊢
    have hbW := hb1.trans (hb2.mono hb1.size)
    obtain ⟨hc, hf⟩ := bcell hbW
    replace hB := hB.trans (hb2.mono hB.size)
    go_wp2
    refine bodyPost_ret (v := .agg #[.bool false, .slice a2 (limbs n).length c2]) (by simp [results, Tryz.results53, go_sem, hc]) rfl ⟨⟨a2, c2, ?_, ?_, ?_⟩, ?_⟩
    · rw [hF]
    · rw [hF]
      exact own_set (B0 := w.heap.size + 1) (own_set (B := w.heap.size + 1) (B0 := w.heap.size + 1) (ho2.mono (by omega)) (by dsimp only; omega) _ (Nat.le_refl _)) (by dsimp only; omega) _ (by omega)
    · rw [hF]; dsimp only; omega
    · exact (hB.setCell (by dsimp only; omega) _).setCell (by dsimp only; omega) _
end Go.Proofs.YtogkonenejfgmaaGreatDoor
namespace Go.Proofs.YtogkonenejfgmaaGreatDoor
open Go.RowKit
set_option linter.unusedVariables false
theorem draw_once (B : Nat) (a : Option Addr) (c : Nat) (xs : List Int) (st : Int × Nat) (n : Int) (w : World) (h : Cur w B a c xs st) (hb : Byt xs) (hl : xs.length ≤ 1048576) (hc : xs.length ≤ c) (hn : 0 < n ∧ n ≤ 4294967296) :
    Calls Tryz.prog 36 #[.pointer (some ⟨B, 0, none⟩), .int .i64 n] w fun e w' => ∃ (b : Bool) (s : Int × Nat), e = .returned (.bool b) ∧ Cur w' B a c xs s ∧ Wr w w' B (B + 1) := by
  go_enter Tryz.func36, Tryz.ntmps36
  go_wp2_with fail
  refine (draw_any B a c xs st n _ h hb hl hc hn).mono ?_
  rintro e w1 ⟨z, s, rfl, hz0, hz1, h1, hw⟩
  go_wp2
  go_ret
  exact ⟨_, s, rfl, h1, hw⟩
theorem Wr.frozen {w w' : World} {lo hi : Nat} (h : Wr w w' lo hi) {p : Addr} (hp : p.block < w.heap.size) (hd : p.block < lo ∨ hi ≤ p.block) : w'.frozen? p = w.frozen? p := by
  unfold World.frozen?
  rw [h.block _ hp hd]
theorem capL_m {n : Nat} (h : (limbs n).length ≤ 50) : capL (limbs n) = limbs n := by rw [capL_nat]; unfold capV; rw [if_neg (by omega)]
theorem Box2.wr {W W1 : World} {lo hi r : Nat} {u v : Value} (h : Box2 W r u v) (hw : Wr W W1 lo hi) (hd : r < lo ∨ hi ≤ r) : Box2 W1 r u v := by
  have hlt := h.lt
  obtain ⟨⟨h0, h1⟩, f0, f1⟩ := h
  exact ⟨⟨cell_keep_wr hw h0 hd, cell_keep_wr hw h1 hd⟩, (hw.frozen (p := ⟨r, 0, none⟩) hlt hd).trans f0, (hw.frozen (p := ⟨r, 1, none⟩) hlt hd).trans f1⟩
theorem Wr.set2 {w w' : World} {lo hi g : Nat} (h : Wr w w' lo hi) (hg : w.heap.size ≤ g) (k : Nat) (v : Value) : Wr w (w'.setCell ⟨g, k, none⟩ v) lo hi :=
  ⟨h.os, h.tape, h.output, by simp [World.setCell]; exact h.size, fun j hk hj => (Below.heap_setCell _ _ _ _ (by show j ≠ g; omega)).trans (h.block j hk hj)⟩
theorem Cur.set {w : World} {B g : Nat} {a : Option Addr} {c : Nat} {xs : List Int} {st : Int × Nat} (h : Cur w B a c xs st) (hg : B < g) (k : Nat) (v : Value) : Cur (w.setCell ⟨g, k, none⟩ v) B a c xs st :=
  h.keep (C := g) ((Below.refl g w).setCell (Nat.le_refl _) v) hg
set_option maxRecDepth 100000 in
set_option maxHeartbeats 3200000 in
theorem draw_int (B : Nat) (a : Option Addr) (c : Nat) (xs : List Int) (st : Int × Nat) (most : Nat) (w : World) (h : Cur w B a c xs st) (hb : Byt xs) (hl : xs.length ≤ 1048576) (hc : xs.length ≤ c) (hm : 1 ≤ most ∧ most ≤ 10) :
    Calls Tryz.prog 33 #[.pointer (some ⟨B, 0, none⟩), .int .i64 most] w fun e w' => ∃ (z : Int) (a' : Option Addr) (c' : Nat) (s : Int × Nat), e = .returned (.agg #[.bool (sg z).1, .slice a' (sg z).2.length c']) ∧ (sg z).2.length ≤ most ∧ Own w' w.heap.size a' c' (sg z).2 ∧ Cur w' B a c xs s ∧ Wr w w' B (B + 1) := by
  have HB := Lib.hid hb
  clear hb
  have hB := h.lt
  have h' : Cur (w.alloc (.cells #[.bool false, .slice none 0 0] 25)) B a c xs st := h.below (bel_alloc _ _) (Nat.le_refl _)
  have hwr := Wr.of (bel_alloc w (.cells #[.bool false, .slice none 0 0] 25)) B (B + 1)
  have K := Box2.new w (.bool false) (.slice none 0 0) 25 _ rfl
  have hs0 : w.heap.size < (w.alloc (.cells #[.bool false, .slice none 0 0] 25)).heap.size := by simp
  clear h
  go_enter Tryz.func33, Tryz.ntmps33
  go_wp2_with fail
  generalize hW : w.alloc (.cells #[.bool false, .slice none 0 0] 25) = W at h' hwr K hs0 ⊢
  refine (draw_once B a c xs st 3 _ h' HB.out hl hc (by omega)).mono ?_
  rintro e w1 ⟨b, s1, rfl, h1, hw1⟩
  replace hwr := hwr.trans hw1
  replace K := K.wr hw1 (by omega)
  have hs1 := hw1.size
  clear hW h' hw1
  cases b
  · go_wp2_with fail
    refine (draw_once B a c xs s1 2 _ h1 HB.out hl hc (by omega)).mono ?_
    rintro e w2 ⟨neg, s2, rfl, h2, hw2⟩
    replace hwr := hwr.trans hw2
    replace K := K.wr hw2 (by omega)
    have hs2 := hw2.size
    clear h1 hw2
    go_wp2_with fail
    refine (draw_nat B a c xs s2 most _ h2 HB.out hl hc hm.2).mono ?_
    rintro e w3 ⟨m, a3, c3, s3, rfl, hml, ho3, h3, hw3⟩
    replace hwr := hwr.trans hw3
    replace K := K.wr hw3 (by omega)
    have hs3 := hw3.size
    clear h2 hw3
    go_wp2_with fail
    have hmk := l04Make_any neg a3 c3 (limbs m) w3 (ho3.inn (by omega))
    rw [capL_m (show (limbs m).length ≤ 50 by omega)] at hmk
    refine hmk.mono ?_
    rintro e w4 ⟨⟨a4, c4, rfl, ho4⟩, hb4⟩
    replace hwr := hwr.trans (Wr.of hb4 B (B + 1))
    replace K := K.below hb4 (Nat.le_refl _)
    have h4 := h3.below hb4 (Nat.le_refl _)
    have hs4 := hb4.size
    have hsg := sg_zOf neg m
    obtain ⟨g1, hg1⟩ : ∃ g, (neg && decide (0 < (limbs m).length)) = g := ⟨_, rfl⟩
    rw [hg1] at hsg ⊢
    have HG := Lib.hid hsg
    obtain ⟨⟨hx0, hx1⟩, hf0, hf1⟩ := K
    clear hmk h3 hb4 hg1 hsg ho3
    go_wp2
    refine bodyPost_ret (v := .agg #[.bool g1, .slice a4 (limbs m).length c4]) (by simp [results, Tryz.results33, go_sem, hx0, hx1]) rfl ⟨zOf neg m, a4, c4, s3, ?_, ?_, ?_, ?_, ?_⟩
    · rw [HG.out]
    · rw [HG.out]; exact hml
    · rw [HG.out]; exact own_set (own_set ho4 (show w.heap.size < _ by omega) _ (Nat.le_refl _)) (show w.heap.size < _ by omega) _ (by omega)
    · exact (h4.set hB 0 _).set hB 1 _
    · exact (hwr.set2 (Nat.le_refl _) 0 _).set2 (Nat.le_refl _) 1 _
  · go_wp2_with fail
    refine (draw_any B a c xs s1 2001 _ h1 HB.out hl hc (by omega)).mono ?_
    rintro e w2 ⟨z, s2, rfl, hz0, hz1, h2, hw2⟩
    replace hwr := hwr.trans hw2
    replace K := K.wr hw2 (by omega)
    have hs2 := hw2.size
    clear h1 hw2
    go_wp2_with fail
    refine (spec_IntOf (z - 1000) _ ⟨by omega, by omega⟩).mono ?_
    rintro e w3 ⟨⟨a3, c3, rfl, ho3, -⟩, hb3⟩
    have hlen : (sg (z - 1000)).2.length ≤ 1 := by
      show (limbs (z - 1000).natAbs).length ≤ 1
      rw [limbs_len_le]; omega
    rw [show fIOf (z - 1000) = sg (z - 1000) from rfl] at ho3 ⊢
    generalize z - 1000 = y at hlen ho3 ⊢
    replace hwr := hwr.trans (Wr.of hb3 B (B + 1))
    replace K := K.below hb3 (Nat.le_refl _)
    have h3 := h2.below hb3 (Nat.le_refl _)
    have hs3 := hb3.size
    obtain ⟨⟨hx0, hx1⟩, hf0, hf1⟩ := K
    clear h2 hb3
    go_wp2
    refine bodyPost_ret (v := .agg #[.bool (sg y).1, .slice a3 (sg y).2.length c3]) (by simp [results, Tryz.results33, go_sem, hx0, hx1]) rfl ⟨y, a3, c3, s2, rfl, by omega, ?_, ?_, ?_⟩
    · exact own_set (own_set ho3 (show w.heap.size < _ by omega) _ (Nat.le_refl _)) (show w.heap.size < _ by omega) _ (by omega)
    · exact (h3.set hB 0 _).set hB 1 _
    · exact (hwr.set2 (Nat.le_refl _) 0 _).set2 (Nat.le_refl _) 1 _
end Go.Proofs.YtogkonenejfgmaaGreatDoor
