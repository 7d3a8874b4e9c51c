/- The walks of the laws' helpers for fractions (szRat, toRat); a fraction that a caller hands in, opened. -/
import Derived.Test.YtmakcgiekfcofaaDoorWRat0
import Derived.Test.YtmakcgiekfcofaaDoorReg
import Derived.ProofKit
import Derived.OpenShut
import Derived.Lib.SmallJoins
namespace Go.Proofs.YtmakcgiekfcofaaDoor
open Go.RowKit Go.ChangeShapes Go.WideShapes Go.ChangeAt
theorem Slot.le {w : World} {lo hi : Nat} {a : Option Addr} {cap : Nat} {xs : List Int} (h : Slot w lo hi a cap xs) : xs.length ≤ cap := by
  rcases h.2 with rfl | h
  · exact Nat.zero_le _
  · exact h.1.le
theorem Slot.inn {w : World} {lo hi : Nat} {a : Option Addr} {cap : Nat} {xs : List Int} (h : Slot w lo hi a cap xs) (hl : xs.length ≤ 1099511627776) : In w a cap xs := ⟨h.rd, h.le, hl⟩
theorem Slot.mono {w : World} {lo hi hi2 : Nat} {a : Option Addr} {cap : Nat} {xs : List Int} (h : Slot w lo hi a cap xs) (h1 : hi ≤ hi2) (h2 : hi2 ≤ w.heap.size) : Slot w lo hi2 a cap xs := by
  refine ⟨h2, ?_⟩
  rcases h.2 with h | ⟨h, hp⟩
  · exact .inl h
  · refine .inr ⟨h, fun p e => ?_⟩
    have := hp p e
    omega
set_option maxRecDepth 100000 in
set_option maxHeartbeats 800000 in
theorem open_rat {H : Type} {enc : TypeId × Value → H} {W : World} {base : Nat} {spare : Nat → Bool} {held : Bool} {r : Reach} {b0 : Nat} {v : Value} {d : DataW H} {p : List MemPlace}
    (hv : Value.okWide Tryd.prog W r b0 42 v) (h : DataW.Trod enc Tryd.prog W base spare held 42 v d p) (hsp : spare = fun _ => true) :
    ∃ (n : Bool) (a : Option Addr) (c : Nat) (xs : List Int) (b : Option Addr) (e : Nat) (ys : List Int), v = .agg #[.bool n, .slice a xs.length c, .slice b ys.length e] ∧ (Rd W a xs ∧ xs.length ≤ maxLen) ∧ (Rd W b ys ∧ ys.length ≤ maxLen) := by
  subst hsp
  have k1 : Tryd.prog.cellsOf 27 = 1 := by kernel_rfl
  have k2 : Tryd.prog.cellsOf 34 = 2 := by kernel_rfl
  have k3 : Tryd.prog.cellsOf 4 = 1 := by kernel_rfl
  obtain ⟨cs, rfl, hsz⟩ := okWide_struct Tryd.underlying42 hv
  obtain ⟨c0, c1, c2, rfl⟩ := Joins.array3 (hsz.trans (show Tryd.prog.cellsOf 42 = 3 by kernel_rfl))
  obtain ⟨fuel, hf⟩ := h
  obtain ⟨y0, y1, n, hx, _, h0, h1⟩ := trod_struct2 Tryd.underlying42 hf
  have h0' : DataW.trod enc Tryd.prog W base (fun _ => true) held n 34 [c0, c1] = some y0 := by simpa [Value.cells, k1, k2] using h0
  have h1' : DataW.trod enc Tryd.prog W base (fun _ => true) held n 27 [c2] = some y1 := by simpa [Value.cells, k1, k2] using h1
  obtain ⟨z0, z1, n2, hx2, _, g0, g1⟩ := trod_struct2 Tryd.underlying34 h0'
  have g0' : DataW.trod enc Tryd.prog W base (fun _ => true) held n2 4 [c0] = some z0 := by simpa [k1, k3] using g0
  have g1' : DataW.trod enc Tryd.prog W base (fun _ => true) held n2 27 [c1] = some z1 := by simpa [k1, k3] using g1
  obtain ⟨neg, e0, rfl⟩ := DataW.trod_bool Tryd.underlying4 g0'
  simp only [List.cons.injEq, and_true] at e0
  subst e0
  have sl : ∀ (q : Value) (f : Nat) (y : DataW H × List MemPlace), DataW.trod enc Tryd.prog W base (fun _ => true) held f 27 [q] = some y → ∃ (a : Option Addr) (c : Nat) (xs : List Int), q = .slice a xs.length c ∧ (Rd W a xs ∧ xs.length ≤ maxLen) := by
    intro q f y hy
    rcases open_ints Tryd.underlying27 Tryd.underlying3 (by kernel_rfl) hy with ⟨hcs, _⟩ | ⟨x, l, c, zs, hcs, _, hl, hm, hz, _, hcell, hwz⟩
    · exact ⟨none, 0, [], by simpa using hcs, Rd.nil _ _, Nat.zero_le _⟩
    · have hz' : zs.length = c := by simpa using hz
      have hl' : (zs.take l).length = l := by rw [List.length_take]; omega
      refine ⟨some x, c, zs.take l, by rw [hl']; simpa using hcs, rd_of_cells hcell _, by rw [hl']; omega⟩
  obtain ⟨a, c, xs, rfl, hxs⟩ := sl _ _ _ g1'
  obtain ⟨b, e, ys, rfl, hys⟩ := sl _ _ _ h1'
  exact ⟨neg, a, c, xs, b, e, ys, rfl, hxs, hys⟩
theorem szRat_yes (neg : Bool) (a : Option Addr) (c : Nat) (xs : List Int) (b : Option Addr) (d : Nat) (ys : List Int) (left : Int) (w : World) (hl : left ≤ 1048576) (hx : (xs.length : Int) + ys.length ≤ left) :
    Calls Tryd.prog 27 #[.agg #[.bool neg, .slice a xs.length c, .slice b ys.length d], .int .i64 left] w fun e w' => e = .returned (.int .i64 (left - xs.length - ys.length)) ∧ Below w.heap.size w w' := by
  have hA := bel_alloc w (.cells #[.bool neg, .slice a xs.length c, .slice b ys.length d] 42)
  have h2 : 0 ≤ left - (xs.length : Int) - (ys.length : Int) := by omega
  have h3 : 0 ≤ left - (xs.length : Int) := by omega
  go_enter Tryd.func27, Tryd.ntmps27
  go_wp2_with fail
  refine (szSigned_yes _ _ _ _ _ _ hl (by omega)).mono ?_
  rintro e w1 ⟨rfl, hb1⟩
  have hB := hA.trans (hb1.mono hA.size)
  obtain ⟨hc, hf⟩ := bcell hb1
  go_wp2_with fail
  refine (szIntS_yes _ _ _ _ _ (by omega) (by omega)).mono ?_
  rintro e w2 ⟨rfl, rfl⟩
  go_wp2
  go_ret
  exact ⟨rfl, hB⟩
theorem szRat_no (neg : Bool) (a : Option Addr) (c : Nat) (xs : List Int) (b : Option Addr) (d : Nat) (ys : List Int) (left : Int) (w : World) (hl0 : 0 ≤ left) (hl : left ≤ 1048576) (hx : left < (xs.length : Int) + ys.length) (hm : xs.length ≤ maxLen) (hm2 : ys.length ≤ maxLen) :
    Calls Tryd.prog 27 #[.agg #[.bool neg, .slice a xs.length c, .slice b ys.length d], .int .i64 left] w fun e w' => e = .returned (.int .i64 (-1)) ∧ Below w.heap.size w w' := by
  have hA := bel_alloc w (.cells #[.bool neg, .slice a xs.length c, .slice b ys.length d] 42)
  by_cases h : left < (xs.length : Int)
  · go_enter Tryd.func27, Tryd.ntmps27
    go_wp2_with fail
    refine (szSigned_no _ _ _ _ _ _ hl0 hl h hm).mono ?_
    rintro e w1 ⟨rfl, hb1⟩
    have hB := hA.trans (hb1.mono hA.size)
    go_wp2
    go_ret
    exact ⟨rfl, hB⟩
  · have h3 : 0 ≤ left - (xs.length : Int) := by omega
    go_enter Tryd.func27, Tryd.ntmps27
    go_wp2_with fail
    refine (szSigned_yes _ _ _ _ _ _ hl (by omega)).mono ?_
    rintro e w1 ⟨rfl, hb1⟩
    have hB := hA.trans (hb1.mono hA.size)
    obtain ⟨hc, hf⟩ := bcell hb1
    go_wp2_with fail
    refine (szIntS_no _ _ _ _ _ h3 (by omega) (by omega) hm2).mono ?_
    rintro e w2 ⟨rfl, rfl⟩
    go_wp2
    go_ret
    exact ⟨rfl, hB⟩
theorem Slot.setOut {w : World} {lo hi : Nat} {a : Option Addr} {cap : Nat} {xs : List Int} (h : Slot w lo hi a cap xs) {p : Addr} (hp : p.block < lo) (v : Value) : Slot (w.setCell p v) lo hi a cap xs := by
  refine ⟨by simpa [World.setCell] using h.1, ?_⟩
  rcases h.2 with h | ⟨h, hq⟩
  · exact .inl h
  · exact .inr ⟨own_set h hp v (Nat.le_refl _), hq⟩
set_option maxHeartbeats 1600000 in
theorem toRat_any (neg : Bool) (a : Option Addr) (c : Nat) (xs : List Int) (b : Option Addr) (d : Nat) (ys : List Int) (w : World) (hx : Rd w a xs) (hy : Rd w b ys) (lx : xs.length ≤ 17592186044416) (ly : ys.length ≤ 17592186044416) :
    Calls Tryd.prog 29 #[.agg #[.bool neg, .slice a xs.length c, .slice b ys.length d]] w fun e w' => (∃ a' c' b' d' lo up lo' up', e = .returned (.agg #[.bool neg, .slice a' xs.length c', .slice b' ys.length d']) ∧ Slot w' lo up a' c' xs ∧ Slot w' lo' up' b' d' ys ∧ w.heap.size ≤ lo ∧ w.heap.size ≤ lo' ∧ (up ≤ lo' ∨ up' ≤ lo)) ∧ Below w.heap.size w w' := by
  go_enter Tryd.func29, Tryd.ntmps29
  go_wp2_with fail
  refine (toSigned_any _ _ _ _ _ (((hx.below (bel_alloc _ _) (Nat.le_refl _)).below (bel_alloc _ _) (Nat.le_refl _)).below (bel_alloc _ _) (Nat.le_refl _)) lx).mono ?_
  rintro e w1 ⟨⟨a1, c1, rfl, ho1⟩, hb1⟩
  obtain ⟨hc, hf⟩ := bcell hb1
  have hz := hb1.size
  simp only [World.size_alloc] at hz
  have hx0 : w1.cell? ⟨w.heap.size, 2, none⟩ = some (.slice b ys.length d) := cell_keep hb1 (cell_keep (bel_alloc _ _) (cell_keep (bel_alloc _ _) (cell_box w _ _ _ 2 _ rfl rfl) (Nat.le_refl _)) (Nat.le_refl _)) (Nat.le_refl _)
  have hbw := (((bel_alloc w (.cells #[.bool neg, .slice a xs.length c, .slice b ys.length d] 42)).trans ((bel_alloc _ (.cells #[.bool false, .slice none 0 0, .slice none 0 0] 46)).mono (by simp))).trans ((bel_alloc _ (.cells #[.bool false, .slice none 0 0, .slice none 0 0] 46)).mono (by simp; omega))).trans (hb1.mono (by simp; omega))
  go_wp2_with fail
  have hbw2 := (hbw.setCell (p := ⟨w.heap.size + 1 + 1, 0, none⟩) (by dsimp only; omega) (.bool neg)).setCell (p := ⟨w.heap.size + 1 + 1, 1, none⟩) (by dsimp only; omega) (.slice a1 xs.length c1)
  refine (toIntS_any _ _ _ _ (hy.below hbw2 (Nat.le_refl _)) ly).mono ?_
  rintro e w2 ⟨⟨a2, c2, rfl, ho2⟩, hb2⟩
  have hz2 := hb2.size
  simp only [World.size_setCell] at hz2
  obtain ⟨hc2, hf2⟩ := bcell hb2
  have fA : ∀ o, w1.frozen? ⟨w.heap.size + 1, o, none⟩ = false := fun o => by rw [hf _ _ (by simp)]; exact (World.frozen?_alloc_old _ _ _ (by simp)).trans (box_frozen _ _ _ _ _ (by simp))
  have fB : ∀ o, w1.frozen? ⟨w.heap.size + 1 + 1, o, none⟩ = false := fun o => by rw [hf _ _ (by simp)]; exact box_frozen _ _ _ _ _ (by simp)
  have gA : ∀ o, w2.frozen? ⟨w.heap.size + 1, o, none⟩ = false := fun o => by rw [hf2 _ _ (by simp only [World.size_setCell]; omega), World.frozen?_setCell, World.frozen?_setCell]; exact fA o
  have gB : ∀ o, w2.frozen? ⟨w.heap.size + 1 + 1, o, none⟩ = false := fun o => by rw [hf2 _ _ (by simp only [World.size_setCell]; omega), World.frozen?_setCell, World.frozen?_setCell]; exact fB o
  have gA0 := gA 0
  have gA1 := gA 1
  have gA2 := gA 2
  have gB0 := gB 0
  have gB1 := gB 1
  have gB2 := gB 2
  have e0 : w2.cell? ⟨w.heap.size + 1 + 1, 0, none⟩ = some (.bool neg) := by
    rw [hc2 _ _ (by simp only [World.size_setCell]; omega)]; exact set2_cell0 (cell_keep hb1 (cell_box _ _ _ _ 0 _ (by simp) rfl) (Nat.le_refl _))
  have e1 : w2.cell? ⟨w.heap.size + 1 + 1, 1, none⟩ = some (.slice a1 xs.length c1) := by
    rw [hc2 _ _ (by simp only [World.size_setCell]; omega)]; exact set2_cell1 (cell_keep hb1 (cell_box _ _ _ _ 1 _ (by simp) rfl) (Nat.le_refl _))
  have e2 : w2.cell? ⟨w.heap.size + 1 + 1, 2, none⟩ = some (.slice none 0 0) := by
    rw [hc2 _ _ (by simp only [World.size_setCell]; omega), World.cell?_setCell_other _ _ _ _ (addr_ne (by omega)), World.cell?_setCell_other _ _ _ _ (addr_ne (by omega))]; exact cell_keep hb1 (cell_box _ _ _ _ 2 _ (by simp) rfl) (Nat.le_refl _)
  have r0 : ∀ o u, #[Value.bool false, Value.slice none 0 0, Value.slice none 0 0][o]? = some u → w2.cell? ⟨w.heap.size + 1, o, none⟩ = some u := fun o u hu => by
    rw [hc2 _ _ (by simp only [World.size_setCell]; omega), World.cell?_setCell_other _ _ _ _ (addr_ne (by omega)), World.cell?_setCell_other _ _ _ _ (addr_ne (by omega))]
    exact cell_keep hb1 (cell_keep (bel_alloc _ _) (cell_box _ _ _ _ o _ (by simp) hu) (Nat.le_refl _)) (Nat.le_refl _)
  have r00 := r0 0 _ rfl
  have r01 := r0 1 _ rfl
  have r02 := r0 2 _ rfl
  clear hc hf hc2 hf2 gA gB fA fB r0
  have s1 := Slot.of ho1
  have s1' : Slot w2 (w.heap.size + 1 + 1 + 1) w1.heap.size a1 c1 xs := (((Slot.of (Own.mono ho1 (by simp))).setOut (p := ⟨w.heap.size + 1 + 1, 0, none⟩) (by dsimp only; omega) _).setOut (p := ⟨w.heap.size + 1 + 1, 1, none⟩) (by dsimp only; omega) _).below hb2 (by simp)
  have s2' : Slot w2 w1.heap.size w2.heap.size a2 c2 ys := Slot.of (Own.mono ho2 (by simp))
  have hbW := hbw2.trans (hb2.mono (by simp only [World.size_setCell]; omega))
  have H1 := Lib.hid s1'
  have H2 := Lib.hid s2'
  have HW := Lib.hid hbW
  clear s1' s2' hbW s1 ho1 ho2 hbw hbw2 hb1 hb2 hx hy
  go_wp2
  refine bodyPost_ret (v := .agg #[.bool neg, .slice a1 xs.length c1, .slice a2 ys.length c2]) (by simp [results, Tryd.results29, go_sem, r00, r01, r02]) rfl ⟨⟨a1, c1, a2, c2, _, _, _, _, rfl, (((H1.out.setOut ?_ _).setOut ?_ _).setOut ?_ _).setOut ?_ _, (((H2.out.setOut ?_ _).setOut ?_ _).setOut ?_ _).setOut ?_ _, by omega, by omega, .inl (Nat.le_refl _)⟩, (((HW.out.setCell ?_ _).setCell ?_ _).setCell ?_ _).setCell ?_ _⟩
  all_goals (dsimp only; omega)
end Go.Proofs.YtmakcgiekfcofaaDoor
