/- The walks of the draws of whole numbers: l01Once, l01Pick, l02Nat, MakeNats. The walks of signed, fitInt, intNeg (program) and l04Make (reference). For every slice within the reach. -/
import Derived.Test.YtogkonenejfgmaaGreatDoorM05
import Derived.Test.YtogkonenejfgmaaGreatDoorM03
import Derived.Test.YtogkonenejfgmaaGreatDoorM04
namespace Go.Proofs.YtogkonenejfgmaaGreatDoor
open Go.RowKit
set_option linter.unusedVariables false
theorem Own.wr {w w' : World} {lo l2 h2 : Nat} {a : Option Addr} {cap : Nat} {xs : List Int} (h : Own w lo a cap xs) (hw : Wr w w' l2 h2) (hd : h2 ≤ lo) : Own w' lo a cap xs := by
  refine own_same (hi := w.heap.size) h ?_ (fun k hk1 hk2 => hw.block k hk2 (.inr (by omega)))
  intro p hp
  rcases h.cases with ⟨rfl, _⟩ | ⟨g, rfl, h1, h2, _⟩
  · cases hp
  · cases hp; exact ⟨h1, h2⟩
theorem Cur.lt {w : World} {B : Nat} {a : Option Addr} {c : Nat} {xs : List Int} {st : Int × Nat} (h : Cur w B a c xs st) : B < w.heap.size := h.box.lt
theorem Cur.keep {w w' : World} {B C : Nat} {a : Option Addr} {c : Nat} {xs : List Int} {st : Int × Nat} (h : Cur w B a c xs st) (hb : Below C w w') (hC : B < C) : Cur w' B a c xs st := by
  obtain ⟨⟨⟨h0, h1, h2⟩, f0, f1, f2⟩, hr, hi, hg⟩ := h
  exact ⟨⟨⟨(hb.cell (p := ⟨B, 0, none⟩) hC).trans h0, (hb.cell (p := ⟨B, 1, none⟩) hC).trans h1, (hb.cell (p := ⟨B, 2, none⟩) hC).trans h2⟩,
    (hb.frozen (p := ⟨B, 0, none⟩) hC).trans f0, (hb.frozen (p := ⟨B, 1, none⟩) hC).trans f1, (hb.frozen (p := ⟨B, 2, none⟩) hC).trans f2⟩, hr.below hb (by omega), hi, hg⟩
theorem Wr.below {w w1 w' : World} {lo hi : Nat} (h : Wr w w1 lo hi) (hb : Below w.heap.size w1 w') : Wr w w' lo hi :=
  ⟨hb.os.trans h.os, hb.tape.trans h.tape, hb.output.trans h.output, Nat.le_trans h.size hb.size, fun k hk hd => (hb.block k hk).trans (h.block k hk hd)⟩
/-- l01Below, the value unknown -/
theorem draw_any (B : Nat) (a : Option Addr) (c : Nat) (xs : List Int) (st : Int × Nat) (n : Int) (w : World) (h : Cur w B a c xs st) (hb : Byt xs) (hl : xs.length ≤ 1048576) (hc : xs.length ≤ c) (hn : 0 < n ∧ n ≤ 4294967296) :
    Calls Tryz.prog 35 #[.pointer (some ⟨B, 0, none⟩), .int .i64 n] w fun e w' => ∃ (z : Int) (s : Int × Nat), e = .returned (.int .i64 z) ∧ 0 ≤ z ∧ z < n ∧ Cur w' B a c xs s ∧ Wr w w' B (B + 1) := by
  refine (draw_below B a c xs st n w h hb hl hc hn).mono ?_
  rintro e w' ⟨rfl, h1, h2⟩
  have := below_rng xs n st hn.1
  exact ⟨_, _, rfl, this.1, this.2, h1, h2⟩
set_option maxHeartbeats 800000 in
theorem draw_pick (B : Nat) (a : Option Addr) (c : Nat) (xs : List Int) (st : Int × Nat) (la : Option Addr) (lc : Nat) (ys : List Int) (w : World) (h : Cur w B a c xs st) (hb : Byt xs) (hl : xs.length ≤ 1048576) (hc : xs.length ≤ c)
    (hy : Own w (B + 1) la lc ys) (hn : 0 < ys.length ∧ ys.length ≤ 256) :
    Calls Tryz.prog 56 #[.pointer (some ⟨B, 0, none⟩), .slice la ys.length lc] w fun e w' => ∃ (k : Nat) (s : Int × Nat), k < ys.length ∧ e = .returned (.int .i64 (ys.getD k 0)) ∧ Cur w' B a c xs s ∧ Wr w w' B (B + 1) := by
  obtain ⟨hn0, hn1⟩ := hn
  go_enter Tryz.func56, Tryz.ntmps56
  go_wp2_with fail
  refine (draw_any B a c xs st ys.length _ h hb hl hc (by omega)).mono ?_
  rintro e w1 ⟨z, s, rfl, hz0, hz1, h1, hw⟩
  obtain ⟨k, rfl⟩ := Int.eq_ofNat_of_zero_le hz0
  have hk : k < ys.length := by omega
  obtain ⟨b, off, x, rfl, hbs, hcell, hx⟩ := (hy.wr hw (Nat.le_refl _)).rd.at k hk
  go_wp2
  go_ret
  exact ⟨k, s, hk, by show Ending.returned (Value.int .i64 x) = _; rw [hx.out], h1, hw⟩
set_option maxRecDepth 100000 in
set_option maxHeartbeats 3200000 in
theorem draw_nat (B : Nat) (a : Option Addr) (c : Nat) (xs : List Int) (st : Int × Nat) (most : Nat) (w : World) (h : Cur w B a c xs st) (hb : Byt xs) (hl : xs.length ≤ 1048576) (hc : xs.length ≤ c) (hm : most ≤ 10) :
    Calls Tryz.prog 37 #[.pointer (some ⟨B, 0, none⟩), .int .i64 most] w fun e w' => ∃ (m : Nat) (a' : Option Addr) (c' : Nat) (s : Int × Nat), e = .returned (.slice a' (limbs m).length c') ∧ (limbs m).length ≤ most ∧ Own w' w.heap.size a' c' (limbs m) ∧ Cur w' B a c xs s ∧ Wr w w' B (B + 1) := by
  have HB := Lib.hid hb
  clear hb
  have ho := Lib.hid (Own.empty w w.heap.size (Nat.le_refl _))
  have hB := h.lt
  have h' : Cur (w.alloc (.cells #[] 3)) B a c xs st := h.below (bel_alloc _ _) (Nat.le_refl _)
  have hwr := Wr.of (bel_alloc w (.cells #[] 3)) B (B + 1)
  clear h
  go_enter Tryz.func37, Tryz.ntmps37
  go_wp2_with fail
  refine (draw_any B a c xs st (most + 1) _ h' HB.out hl hc (by omega)).mono ?_
  rintro e w1 ⟨z, s, rfl, hz0, hz1, h1, hw⟩
  have hwr1 := hwr.trans hw
  have ho1 := Lib.hid (ho.out.wr hw (by omega))
  clear ho hwr hw h'
  go_wp2_with fail
  go_loopw [5, 6] (fun v x wr => ∃ (n : Nat) (zs : List Int) (la : Option Addr) (lc : Nat) (s : Int × Nat), n + zs.length ≤ most ∧ x = .int .i64 n ∧ v = .slice la zs.length lc ∧ okL zs ∧ Own wr w.heap.size la lc zs ∧ Cur wr B a c xs s ∧ Wr w wr B (B + 1)) (fun _ x _ => (intOf x).toNat)
  case atStart =>
    obtain ⟨n, rfl⟩ := Int.eq_ofNat_of_zero_le hz0
    exact ⟨n, [], _, _, s, by simp; omega, rfl, rfl, okL_nil, ho1.out, h1, hwr1⟩
  case round =>
    clear h1 ho1 hwr1
    obtain ⟨n, zs, la, lc, s, hn, rfl, rfl, hok, hown, hcur, hwr⟩ := hrel
    have hsz := hwr.size
    have HK := Lib.hid hok
    clear hok
    by_cases h0 : 0 < n
    · go_wp2_with fail
      refine (draw_any B a c xs s 1000000000 _ hcur HB.out hl hc (by omega)).mono ?_
      rintro e w2 ⟨y1, s2, rfl, hy10, hy11, h2, hw2⟩
      have hwr2 := hwr.trans hw2
      replace hown := hown.wr hw2 (by omega)
      clear hwr hw2 hcur
      go_wp2_with fail
      refine (draw_any B a c xs s2 1000000000 _ h2 HB.out hl hc (by omega)).mono ?_
      rintro e w3 ⟨y2, s3, rfl, hy20, hy21, h3, hw3⟩
      have hwr3 := hwr2.trans hw3
      replace hown := hown.wr hw3 (by omega)
      clear hwr2 hw3 h2
      go_wp2_with fail
      have hlit : Own (w3.alloc (.cells #[.int .i64 0, .int .i64 1, .int .i64 2, .int .i64 999999999, .int .i64 500000000, .int .i64 y1, .int .i64 y2] 3)) (B + 1) (some ⟨w3.heap.size, 0, none⟩) 7 [0, 1, 2, 999999999, 500000000, y1, y2] :=
        World.ownsRow_lit w3 #[.int .i64 0, .int .i64 1, .int .i64 2, .int .i64 999999999, .int .i64 500000000, .int .i64 y1, .int .i64 y2] 7 (by have := h3.lt; omega) (by unfold maxLen; omega) rfl
      have hwr4 := hwr3.trans (Wr.of (bel_alloc w3 (.cells #[.int .i64 0, .int .i64 1, .int .i64 2, .int .i64 999999999, .int .i64 500000000, .int .i64 y1, .int .i64 y2] 3)) B (B + 1))
      refine (draw_pick B a c xs s3 _ 7 [0, 1, 2, 999999999, 500000000, y1, y2] _ (h3.below (bel_alloc _ _) (Nat.le_refl _)) HB.out hl hc hlit ⟨by simp, by simp⟩).mono ?_
      rintro e w5 ⟨k, s5, hk, rfl, h5, hw5⟩
      have hwr5 := hwr4.trans hw5
      replace hown := (hown.alloc (.cells #[.int .i64 0, .int .i64 1, .int .i64 2, .int .i64 999999999, .int .i64 500000000, .int .i64 y1, .int .i64 y2] 3)).wr hw5 (by omega)
      obtain ⟨x, hx⟩ : ∃ x, ([0, 1, 2, 999999999, 500000000, y1, y2] : List Int).getD k 0 = x := ⟨_, rfl⟩
      have hxr : 0 ≤ x ∧ x < 1000000000 := by
        rw [← hx]
        refine okL_get ?_ k
        simp [okL]; omega
      rw [hx]
      clear hwr3 hw5 h3 hlit hwr4 hx hk
      have hs5 := hwr5.size
      go_wp2_with (at_builtin; refine app1 _ rfl _ _ rfl w.heap.size la lc zs x rfl rfl hown (by omega) hs5 ?_)
      intro a' c' w' ho' hb'
      have hwr6 := hwr5.below hb'
      have h6 := h5.keep hb' hB
      clear h5 hwr5 hown hb'
      go_wp2
      go_roundw
      case rel =>
        refine ⟨n - 1, zs ++ [x], a', c', s5, by simp; omega, by go_num, by simp, ?_, ho', h6, hwr6⟩
        intro y hy
        rw [List.mem_append, List.mem_singleton] at hy
        rcases hy with hy | rfl
        · exact HK.out y hy
        · exact hxr
      case measure => simp [intOf]; omega
    · have h0' : n = 0 := by omega
      subst h0'
      have hzl : zs.length ≤ 10 := by omega
      have hle := hown.le
      obtain ⟨m, hm2⟩ : ∃ m : Nat, val zs = m := Int.eq_ofNat_of_zero_le (val_nonneg HK.out)
      have ht := trimL_val HK.out hm2
      have hlt := trimL_length_le zs
      have hto := hown.trimL
      rw [ht] at hlt hto
      have HT := Lib.hid ht
      clear ht
      go_wp2_with fail
      refine (l02Trim_any la lc zs _ hown.rd (by unfold maxLen; omega) hle).mono ?_
      rintro e w7 ⟨rfl, rfl⟩
      rw [HT.out]
      go_wp2
      go_ret
      exact ⟨m, la, lc, s, rfl, by omega, hto, hcur, hwr⟩
end Go.Proofs.YtogkonenejfgmaaGreatDoor
namespace Go.Proofs.YtogkonenejfgmaaGreatDoor
open Go.RowKit
theorem capL_le (xs : List Int) : (capL xs).length ≤ 50 := by
  unfold capL; split
  · exact Nat.zero_le _
  · omega
theorem signed_any (neg : Bool) (a : Option Addr) (c : Nat) (xs : List Int) (w : World) (_hl : xs.length ≤ 1099511627776) :
    Calls Tryz.prog 31 #[.bool neg, .slice a xs.length c] w fun e w' => e = .returned (.agg #[.bool (neg && decide (0 < xs.length)), .slice a xs.length c]) ∧ Below w.heap.size w w' := by
  cases neg
  · go_enter Tryz.func31, Tryz.ntmps31
    go_wp2
    refine bodyPost_ret (v := .agg #[.bool false, .slice a xs.length c]) (by simp [results, Tryz.results31, go_sem]) rfl ⟨rfl, ?_⟩
    exact bel_alloc _ _
  · go_enter Tryz.func31, Tryz.ntmps31
    go_wp2
    refine bodyPost_ret (v := .agg #[.bool (decide (0 < xs.length)), .slice a xs.length c]) (by simp [results, Tryz.results31, go_sem]) rfl ⟨rfl, ?_⟩
    exact bel_alloc _ _
set_option maxHeartbeats 800000 in
theorem l04Make_any (neg : Bool) (a : Option Addr) (c : Nat) (xs : List Int) (w : World) (hx : In w a c xs) :
    Calls Tryz.prog 54 #[.bool neg, .slice a xs.length c] w fun e w' => (∃ a' c', e = .returned (.agg #[.bool (neg && decide (0 < (capL xs).length)), .slice a' (capL xs).length c']) ∧ Own w' w.heap.size a' c' (capL xs)) ∧ Below w.heap.size w w' := by
  have hl := hx.2.2
  have ht := trimL_length_le xs
  cases neg
  · go_enter Tryz.func54, Tryz.ntmps54
    go_wp2_with fail
    refine (l02Cap_any _ _ _ _ (hx.alloc _).1 hx.maxLen hx.2.1).mono ?_
    rintro e w1 ⟨⟨a1, c1, rfl, hc1⟩, rfl⟩
    have hr1 := hc1.rd (hx.alloc (.cells #[.bool false, .slice none 0 0] 25)).1
    have hle : (capL xs).length ≤ 50 := capL_le xs
    have ho0 := Own.empty (w.alloc (.cells #[.bool false, .slice none 0 0] 25)) (w.heap.size + 1) (by simp)
    have hbA := (bel_alloc w (.cells #[.bool false, .slice none 0 0] 25)).trans ((bel_alloc _ (.cells #[] 3)).mono (by simp))
    have hr2 := hr1.below (bel_alloc _ (.cells #[] 3)) (Nat.le_refl _)
    have hx0 : (World.alloc (World.alloc w (.cells #[.bool false, .slice none 0 0] 25)) (.cells #[] 3)).cell? ⟨w.heap.size, 0, none⟩ = some (.bool false) := cell_keep (bel_alloc _ _) (cell_box w _ _ _ 0 _ rfl rfl) (Nat.le_refl _)
    have hx1 : (World.alloc (World.alloc w (.cells #[.bool false, .slice none 0 0] 25)) (.cells #[] 3)).cell? ⟨w.heap.size, 1, none⟩ = some (.slice none 0 0) := cell_keep (bel_alloc _ _) (cell_box w _ _ _ 1 _ rfl rfl) (Nat.le_refl _)
    rw [World.size_alloc] at ho0
    have HO := Lib.hid ho0
    have HX0 := Lib.hid hx0
    have HX1 := Lib.hid hx1
    clear ho0 hx0 hx1
    go_wp2_with (at_builtin; refine appS _ rfl _ _ rfl (w.heap.size + 1) (some ⟨w.heap.size + 1, 0, none⟩) 0 [] a1 c1 (capL xs) rfl rfl HO.out hr2 (by rw [List.length_nil]; omega) (by simp) ?_)
    intro a2 c2 w2 ho2 hb2
    have hz := hb2.size
    simp only [World.size_alloc] at hz
    have hx0 : w2.cell? ⟨w.heap.size, 0, none⟩ = some (.bool false) := (hb2.cell (p := ⟨w.heap.size, 0, none⟩) (by simp)).trans HX0.out
    have hx1 : w2.cell? ⟨w.heap.size, 1, none⟩ = some (.slice none 0 0) := (hb2.cell (p := ⟨w.heap.size, 1, none⟩) (by simp)).trans HX1.out
    have hf0 : w2.frozen? ⟨w.heap.size, 0, none⟩ = false := (hb2.frozen (p := ⟨w.heap.size, 0, none⟩) (by simp)).trans (by simp)
    have hf1 : w2.frozen? ⟨w.heap.size, 1, none⟩ = false := (hb2.frozen (p := ⟨w.heap.size, 1, none⟩) (by simp)).trans (by simp)
    have hbW := hbA.trans (hb2.mono (by omega))
    go_wp2
    refine bodyPost_ret (v := .agg #[.bool (false), .slice a2 (capL xs).length c2]) (by simp [results, Tryz.results54, go_sem, hx0, hx1]) rfl ⟨⟨a2, c2, rfl, ?_⟩, ?_⟩
    · exact own_set (own_set ho2 (by dsimp only; omega) _ (Nat.le_refl _)) (by dsimp only; omega) _ (by omega)
    · exact (hbW.setCell (Nat.le_refl _) _).setCell (Nat.le_refl _) _
  · go_enter Tryz.func54, Tryz.ntmps54
    go_wp2_with fail
    refine (l02Cap_any _ _ _ _ (hx.alloc _).1 hx.maxLen hx.2.1).mono ?_
    rintro e w1 ⟨⟨a1, c1, rfl, hc1⟩, rfl⟩
    have hr1 := hc1.rd (hx.alloc (.cells #[.bool false, .slice none 0 0] 25)).1
    have hle : (capL xs).length ≤ 50 := capL_le xs
    have ho0 := Own.empty (w.alloc (.cells #[.bool false, .slice none 0 0] 25)) (w.heap.size + 1) (by simp)
    have hbA := (bel_alloc w (.cells #[.bool false, .slice none 0 0] 25)).trans ((bel_alloc _ (.cells #[] 3)).mono (by simp))
    have hr2 := hr1.below (bel_alloc _ (.cells #[] 3)) (Nat.le_refl _)
    have hx0 : (World.alloc (World.alloc w (.cells #[.bool false, .slice none 0 0] 25)) (.cells #[] 3)).cell? ⟨w.heap.size, 0, none⟩ = some (.bool false) := cell_keep (bel_alloc _ _) (cell_box w _ _ _ 0 _ rfl rfl) (Nat.le_refl _)
    have hx1 : (World.alloc (World.alloc w (.cells #[.bool false, .slice none 0 0] 25)) (.cells #[] 3)).cell? ⟨w.heap.size, 1, none⟩ = some (.slice none 0 0) := cell_keep (bel_alloc _ _) (cell_box w _ _ _ 1 _ rfl rfl) (Nat.le_refl _)
    rw [World.size_alloc] at ho0
    have HO := Lib.hid ho0
    have HX0 := Lib.hid hx0
    have HX1 := Lib.hid hx1
    clear ho0 hx0 hx1
    go_wp2_with (at_builtin; refine appS _ rfl _ _ rfl (w.heap.size + 1) (some ⟨w.heap.size + 1, 0, none⟩) 0 [] a1 c1 (capL xs) rfl rfl HO.out hr2 (by rw [List.length_nil]; omega) (by simp) ?_)
    intro a2 c2 w2 ho2 hb2
    have hz := hb2.size
    simp only [World.size_alloc] at hz
    have hx0 : w2.cell? ⟨w.heap.size, 0, none⟩ = some (.bool false) := (hb2.cell (p := ⟨w.heap.size, 0, none⟩) (by simp)).trans HX0.out
    have hx1 : w2.cell? ⟨w.heap.size, 1, none⟩ = some (.slice none 0 0) := (hb2.cell (p := ⟨w.heap.size, 1, none⟩) (by simp)).trans HX1.out
    have hf0 : w2.frozen? ⟨w.heap.size, 0, none⟩ = false := (hb2.frozen (p := ⟨w.heap.size, 0, none⟩) (by simp)).trans (by simp)
    have hf1 : w2.frozen? ⟨w.heap.size, 1, none⟩ = false := (hb2.frozen (p := ⟨w.heap.size, 1, none⟩) (by simp)).trans (by simp)
    have hbW := hbA.trans (hb2.mono (by omega))
    go_wp2
    refine bodyPost_ret (v := .agg #[.bool (decide (0 < (capL xs).length)), .slice a2 (capL xs).length c2]) (by simp [results, Tryz.results54, go_sem, hx0, hx1]) rfl ⟨⟨a2, c2, rfl, ?_⟩, ?_⟩
    · exact own_set (own_set ho2 (by dsimp only; omega) _ (Nat.le_refl _)) (by dsimp only; omega) _ (by omega)
    · exact (hbW.setCell (Nat.le_refl _) _).setCell (Nat.le_refl _) _
end Go.Proofs.YtogkonenejfgmaaGreatDoor
