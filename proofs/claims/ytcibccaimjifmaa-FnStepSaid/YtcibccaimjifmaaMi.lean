/- The walks of the draws of numbers with a sign: l01Once, l04Draw, MakeInt, MakeInts, MakeMode. -/
import Derived.Test.YtcibccaimjifmaaMk
import Derived.Test.YtcibccaimjifmaaWIntOf
namespace Go.Proofs.Ytcibccaimjifmaa
open Go.RowKit
set_option linter.unusedVariables false
theorem draw_once (B : Nat) (a : Option Addr) (c : Nat) (xs : List Int) (st : Int × Nat) (n : Int) (w : World) (h : Cur w B a c xs st) (hb : Byt xs) (hl : xs.length ≤ 1048576) (hc : xs.length ≤ c) (hn : 0 < n ∧ n ≤ 4294967296) :
    Calls Try.prog 54 #[.pointer (some ⟨B, 0, none⟩), .int .i64 n] w fun e w' => ∃ (b : Bool) (s : Int × Nat), e = .returned (.bool b) ∧ Cur w' B a c xs s ∧ Wr w w' B (B + 1) := by
  go_enter Try.func54, Try.ntmps54
  go_wp2_with fail
  refine (draw_any B a c xs st n _ h hb hl hc hn).mono ?_
  rintro e w1 ⟨z, s, rfl, hz0, hz1, h1, hw⟩
  go_wp2
  go_ret
  exact ⟨_, s, rfl, h1, hw⟩
theorem Wr.frozen {w w' : World} {lo hi : Nat} (h : Wr w w' lo hi) {p : Addr} (hp : p.block < w.heap.size) (hd : p.block < lo ∨ hi ≤ p.block) : w'.frozen? p = w.frozen? p := by
  unfold World.frozen?
  rw [h.block _ hp hd]
theorem capL_m {n : Nat} (h : (limbs n).length ≤ 50) : capL (limbs n) = limbs n := by rw [capL_nat]; unfold capV; rw [if_neg (by omega)]
theorem Box2.wr {W W1 : World} {lo hi r : Nat} {u v : Value} (h : Box2 W r u v) (hw : Wr W W1 lo hi) (hd : r < lo ∨ hi ≤ r) : Box2 W1 r u v := by
  have hlt := h.lt
  obtain ⟨⟨h0, h1⟩, f0, f1⟩ := h
  exact ⟨⟨cell_keep_wr hw h0 hd, cell_keep_wr hw h1 hd⟩, (hw.frozen (p := ⟨r, 0, none⟩) hlt hd).trans f0, (hw.frozen (p := ⟨r, 1, none⟩) hlt hd).trans f1⟩
theorem Wr.set2 {w w' : World} {lo hi g : Nat} (h : Wr w w' lo hi) (hg : w.heap.size ≤ g) (k : Nat) (v : Value) : Wr w (w'.setCell ⟨g, k, none⟩ v) lo hi :=
  ⟨h.os, h.tape, h.output, by simp [World.setCell]; exact h.size, fun j hk hj => (Below.heap_setCell _ _ _ _ (by show j ≠ g; omega)).trans (h.block j hk hj)⟩
theorem Cur.set {w : World} {B g : Nat} {a : Option Addr} {c : Nat} {xs : List Int} {st : Int × Nat} (h : Cur w B a c xs st) (hg : B < g) (k : Nat) (v : Value) : Cur (w.setCell ⟨g, k, none⟩ v) B a c xs st :=
  h.keep (C := g) ((Below.refl g w).setCell (Nat.le_refl _) v) hg
set_option maxRecDepth 100000 in
set_option maxHeartbeats 3200000 in
theorem draw_int (B : Nat) (a : Option Addr) (c : Nat) (xs : List Int) (st : Int × Nat) (most : Nat) (w : World) (h : Cur w B a c xs st) (hb : Byt xs) (hl : xs.length ≤ 1048576) (hc : xs.length ≤ c) (hm : 1 ≤ most ∧ most ≤ 10) :
    Calls Try.prog 34 #[.pointer (some ⟨B, 0, none⟩), .int .i64 most] w fun e w' => ∃ (z : Int) (a' : Option Addr) (c' : Nat) (s : Int × Nat), e = .returned (.agg #[.bool (sg z).1, .slice a' (sg z).2.length c']) ∧ (sg z).2.length ≤ most ∧ Own w' w.heap.size a' c' (sg z).2 ∧ Cur w' B a c xs s ∧ Wr w w' B (B + 1) := by
  have HB := Lib.hid hb
  clear hb
  have hB := h.lt
  have h' : Cur (w.alloc (.cells #[.bool false, .slice none 0 0] 26)) B a c xs st := h.below (bel_alloc _ _) (Nat.le_refl _)
  have hwr := Wr.of (bel_alloc w (.cells #[.bool false, .slice none 0 0] 26)) B (B + 1)
  have K := Box2.new w (.bool false) (.slice none 0 0) 26 _ rfl
  have hs0 : w.heap.size < (w.alloc (.cells #[.bool false, .slice none 0 0] 26)).heap.size := by simp
  clear h
  go_enter Try.func34, Try.ntmps34
  go_wp2_with fail
  generalize hW : w.alloc (.cells #[.bool false, .slice none 0 0] 26) = W at h' hwr K hs0 ⊢
  refine (draw_once B a c xs st 3 _ h' HB.out hl hc (by omega)).mono ?_
  rintro e w1 ⟨b, s1, rfl, h1, hw1⟩
  replace hwr := hwr.trans hw1
  replace K := K.wr hw1 (by omega)
  have hs1 := hw1.size
  clear hW h' hw1
  cases b
  · go_wp2_with fail
    refine (draw_once B a c xs s1 2 _ h1 HB.out hl hc (by omega)).mono ?_
    rintro e w2 ⟨neg, s2, rfl, h2, hw2⟩
    replace hwr := hwr.trans hw2
    replace K := K.wr hw2 (by omega)
    have hs2 := hw2.size
    clear h1 hw2
    go_wp2_with fail
    refine (draw_nat B a c xs s2 most _ h2 HB.out hl hc hm.2).mono ?_
    rintro e w3 ⟨m, a3, c3, s3, rfl, hml, ho3, h3, hw3⟩
    replace hwr := hwr.trans hw3
    replace K := K.wr hw3 (by omega)
    have hs3 := hw3.size
    clear h2 hw3
    go_wp2_with fail
    have hmk := l04Make_any neg a3 c3 (limbs m) w3 (ho3.inn (by omega))
    rw [capL_m (show (limbs m).length ≤ 50 by omega)] at hmk
    refine hmk.mono ?_
    rintro e w4 ⟨⟨a4, c4, rfl, ho4⟩, hb4⟩
    replace hwr := hwr.trans (Wr.of hb4 B (B + 1))
    replace K := K.below hb4 (Nat.le_refl _)
    have h4 := h3.below hb4 (Nat.le_refl _)
    have hs4 := hb4.size
    have hsg := sg_zOf neg m
    obtain ⟨g1, hg1⟩ : ∃ g, (neg && decide (0 < (limbs m).length)) = g := ⟨_, rfl⟩
    rw [hg1] at hsg ⊢
    have HG := Lib.hid hsg
    obtain ⟨⟨hx0, hx1⟩, hf0, hf1⟩ := K
    clear hmk h3 hb4 hg1 hsg ho3
    go_wp2
    refine bodyPost_ret (v := .agg #[.bool g1, .slice a4 (limbs m).length c4]) (by simp [results, Try.results34, go_sem, hx0, hx1]) rfl ⟨zOf neg m, a4, c4, s3, ?_, ?_, ?_, ?_, ?_⟩
    · rw [HG.out]
    · rw [HG.out]; exact hml
    · rw [HG.out]; exact own_set (own_set ho4 (show w.heap.size < _ by omega) _ (Nat.le_refl _)) (show w.heap.size < _ by omega) _ (by omega)
    · exact (h4.set hB 0 _).set hB 1 _
    · exact (hwr.set2 (Nat.le_refl _) 0 _).set2 (Nat.le_refl _) 1 _
  · go_wp2_with fail
    refine (draw_any B a c xs s1 2001 _ h1 HB.out hl hc (by omega)).mono ?_
    rintro e w2 ⟨z, s2, rfl, hz0, hz1, h2, hw2⟩
    replace hwr := hwr.trans hw2
    replace K := K.wr hw2 (by omega)
    have hs2 := hw2.size
    clear h1 hw2
    go_wp2_with fail
    refine (spec_IntOf (z - 1000) _ ⟨by omega, by omega⟩).mono ?_
    rintro e w3 ⟨⟨a3, c3, rfl, ho3, -⟩, hb3⟩
    have hlen : (sg (z - 1000)).2.length ≤ 1 := by
      show (limbs (z - 1000).natAbs).length ≤ 1
      rw [limbs_len_le]; omega
    rw [show fIOf (z - 1000) = sg (z - 1000) from rfl] at ho3 ⊢
    generalize z - 1000 = y at hlen ho3 ⊢
    replace hwr := hwr.trans (Wr.of hb3 B (B + 1))
    replace K := K.below hb3 (Nat.le_refl _)
    have h3 := h2.below hb3 (Nat.le_refl _)
    have hs3 := hb3.size
    obtain ⟨⟨hx0, hx1⟩, hf0, hf1⟩ := K
    clear h2 hb3
    go_wp2
    refine bodyPost_ret (v := .agg #[.bool (sg y).1, .slice a3 (sg y).2.length c3]) (by simp [results, Try.results34, go_sem, hx0, hx1]) rfl ⟨y, a3, c3, s2, rfl, by omega, ?_, ?_, ?_⟩
    · exact own_set (own_set ho3 (show w.heap.size < _ by omega) _ (Nat.le_refl _)) (show w.heap.size < _ by omega) _ (by omega)
    · exact (h3.set hB 0 _).set hB 1 _
    · exact (hwr.set2 (Nat.le_refl _) 0 _).set2 (Nat.le_refl _) 1 _
set_option maxRecDepth 100000 in
set_option maxHeartbeats 3200000 in
theorem draw_mode (a : Option Addr) (c : Nat) (xs : List Int) (w : World) (hr : RdB w w.heap.size a xs) (hb : Byt xs) (hl : xs.length ≤ 1048576) (hc : xs.length ≤ c) :
    Calls Try.prog 16 #[.slice a xs.length c] w fun e w' => (∃ m : Int, e = .returned (.int .i64 m) ∧ 0 ≤ m ∧ m ≤ 6) ∧ Below w.heap.size w w' := by
  have hg := hashF_rng xs hl
  obtain ⟨hg0, hg1⟩ := hg
  have HB := Lib.hid hb
  clear hb
  go_enter Try.func16, Try.ntmps16
  go_wp2_with fail
  refine (draw_new a c xs _ hr HB.out hl hc).mono ?_
  rintro e w1 ⟨rfl, k1, hb1⟩
  have k1' := k1
  obtain ⟨⟨⟨h0, h1, h2⟩, f0, f1, f2⟩, -, -, -⟩ := k1'
  go_wp2_with fail
  have k2 := k1.seed (hashF xs + 13) ⟨by omega, by omega⟩
  refine (draw_any _ a c xs _ 7 _ k2 HB.out hl hc (by omega)).mono ?_
  rintro e w2 ⟨z, s, rfl, hz0, hz1, k3, hw⟩
  have hb2 := below_wr (hb1.setCell (p := ⟨w.heap.size, 2, none⟩) (Nat.le_refl _) (.int .i64 (hashF xs + 13))) hw (Nat.le_refl _) (by simpa using hb1.size)
  go_wp2
  go_ret
  exact ⟨⟨z, rfl, hz0, by omega⟩, hb2⟩
set_option maxRecDepth 100000 in
set_option maxHeartbeats 3200000 in
theorem draw_one (a : Option Addr) (c : Nat) (xs : List Int) (w : World) (hr : RdB w w.heap.size a xs) (hb : Byt xs) (hl : xs.length ≤ 1048576) (hc : xs.length ≤ c) :
    Calls Try.prog 14 #[.slice a xs.length c] w fun e w' => (∃ (x : Int) (a1 : Option Addr) (c1 : Nat), e = .returned (.agg #[.bool (sg x).1, .slice a1 (sg x).2.length c1]) ∧ (sg x).2.length ≤ 3 ∧ In w' a1 c1 (sg x).2) ∧ Below w.heap.size w w' := by
  have hg := hashF_rng xs hl
  obtain ⟨hg0, hg1⟩ := hg
  have HB := Lib.hid hb
  clear hb
  have hA := bel_alloc w (.cells #[.bool false, .slice none 0 0] 26)
  have K1 := Box2.new w (.bool false) (.slice none 0 0) 26 _ rfl
  have hs0 : (w.alloc (.cells #[.bool false, .slice none 0 0] 26)).heap.size = w.heap.size + 1 := by simp
  go_enter Try.func14, Try.ntmps14
  go_wp2_with fail
  generalize hW : w.alloc (.cells #[.bool false, .slice none 0 0] 26) = W at hA K1 hs0 ⊢
  refine (draw_new a c xs _ ((hr.below hA (Nat.le_refl _)).mono hA.size) HB.out hl hc).mono ?_
  rintro e w1 ⟨rfl, k1, hb1⟩
  replace hA := hA.trans (hb1.mono hA.size)
  replace K1 := K1.below hb1 (Nat.le_refl _)
  have hs1 := k1.lt
  rw [hs0] at k1 hs1 ⊢
  clear hW hb1 hr
  have k1' := k1
  obtain ⟨⟨⟨h0, h1, h2⟩, f0, f1, f2⟩, -, -, -⟩ := k1'
  go_wp2_with fail
  have k2 := k1.seed (hashF xs + 5) ⟨by omega, by omega⟩
  have hw0 := (Wr.refl w1 (w.heap.size + 1) (w.heap.size + 2)).set (g := w.heap.size + 1) (k := 2) ⟨Nat.le_refl _, by omega⟩ (.int .i64 (hashF xs + 5))
  refine (draw_int (w.heap.size + 1) a c xs _ 3 _ k2 HB.out hl hc (by omega)).mono ?_
  rintro e w2 ⟨x, a1, c1, s2, rfl, lx, ho1, k3, hw2⟩
  have hw3 := hw0.trans hw2
  replace hA := below_wr hA hw3 (by omega) hA.size
  replace K1 := K1.wr hw3 (by omega)
  obtain ⟨⟨hr0, hr1⟩, g0, g1⟩ := K1
  have hso : w.heap.size + 1 < (w1.setCell ⟨w.heap.size + 1, 2, none⟩ (.int .i64 (hashF xs + 5))).heap.size := by simpa using hs1
  go_wp2
  have hq0 := set2_cell0 (u := .bool (sg x).1) (v := .slice a1 (sg x).2.length c1) hr0
  have hq1 := set2_cell1 (u := .bool (sg x).1) (v := .slice a1 (sg x).2.length c1) hr1
  refine bodyPost_ret (v := .agg #[.bool (sg x).1, .slice a1 (sg x).2.length c1]) (by simp [results, Try.results14, go_sem, hq0, hq1]) rfl ⟨⟨x, a1, c1, rfl, lx, ?_⟩, set2_below hA (by omega)⟩
  exact (set2_own ho1 (by omega) (Nat.le_refl _)).inn (by omega)
end Go.Proofs.Ytcibccaimjifmaa
