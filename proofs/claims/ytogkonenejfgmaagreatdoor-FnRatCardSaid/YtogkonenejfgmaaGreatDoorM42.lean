/- The walks of isOne and TextRat (program) and of TextRat (reference): three texts merged. For every text of at most 2^20 bytes. -/
import Derived.Test.YtogkonenejfgmaaGreatDoorM23
import Derived.Test.YtogkonenejfgmaaGreatDoorM35
import Derived.Test.YtogkonenejfgmaaGreatDoorM24
namespace Go.Proofs.YtogkonenejfgmaaGreatDoor
open Go.RowKit
set_option linter.unusedVariables false
theorem one_one {g : Nat} {x : Int} (h1 : (limbs g).length ≤ 1) (h2 : 1 ≤ (limbs g).length) (hx : (limbs g).getD 0 0 = x) : decide (g = 1) = (x == 1) := by
  rw [← gcd_one h1 h2 hx]; by_cases h : g = 1 <;> simp [h]
theorem one_not {g : Nat} (h : ¬ ((limbs g).length ≤ 1 ∧ 1 ≤ (limbs g).length)) : decide (g = 1) = false := by
  have := gcd_not h
  rw [beq_eq_false_iff_ne] at this
  exact decide_eq_false this
theorem isOne_any (a : Option Addr) (c n : Nat) (w : World) (hx : In w a c (limbs n)) (hl : (limbs n).length ≤ 1000) :
    Calls Tryz.prog 27 #[.slice a (limbs n).length c] w fun e w' => e = .returned (.bool (decide (n = 1))) ∧ Below w.heap.size w w' := by
  by_cases h6 : (limbs n).length ≤ 1 ∧ 1 ≤ (limbs n).length
  · obtain ⟨h6, h7⟩ := h6
    obtain ⟨bx, ox, x, rfl, hbx, hcx, hx1⟩ := hx.1.at 0 (by omega)
    rw [Nat.add_zero] at hcx
    have H2 := Lib.hid (one_one h6 h7 hx1.out)
    have hz : (((limbs n).length : Int) == 1) = true := by rw [beq_iff_eq]; omega
    go_enter Tryz.func27, Tryz.ntmps27
    go_wp2
    go_ret
    exact ⟨ret_bool (by rw [H2.out]), Below.refl _ _⟩
  · have H2 := Lib.hid (one_not h6)
    have hz : (((limbs n).length : Int) == 1) = false := by rw [beq_eq_false_iff_ne]; omega
    go_enter Tryz.func27, Tryz.ntmps27
    go_wp2
    go_ret
    exact ⟨ret_bool H2.out.symm, Below.refl _ _⟩
theorem isOne_t (a : Option Addr) (c n : Nat) (w : World) (hx : In w a c (limbs n)) (hl : (limbs n).length ≤ 1000) :
    Calls Tryz.prog 27 #[.slice a (limbs n).length c] w fun e w' => e = .returned (.bool (decide (n = 1))) ∧ Below w.heap.size w w' := isOne_any a c n w hx hl
theorem Slot.setHi {w : World} {lo hi : Nat} {a : Option Addr} {cap : Nat} {xs : List Int} (h : Slot w lo hi a cap xs) {p : Addr} (hp : hi ≤ p.block) (v : Value) : Slot (w.setCell p v) lo hi a cap xs := by
  refine h.wr (lo2 := p.block) (hi2 := p.block + 1) ⟨rfl, rfl, rfl, by simp [World.setCell], fun k hk hd => ?_⟩ (.inl hp)
  exact Below.heap_setCell _ _ _ _ (by omega)
theorem Slot.setLo2 {w : World} {lo hi : Nat} {a : Option Addr} {cap : Nat} {xs : List Int} (h : Slot w lo hi a cap xs) {p : Addr} (hp : p.block < lo) (v : Value) : Slot (w.setCell p v) lo hi a cap xs := h.setOut hp v
theorem Box3.setOther {W : World} {r : Nat} {u v z : Value} (h : Box3 W r u v z) {p : Addr} (hp : p.block ≠ r) (x : Value) : Box3 (W.setCell p x) r u v z := by
  obtain ⟨⟨h0, h1, h2⟩, f0, f1, f2⟩ := h
  have q : ∀ j : Nat, p ≠ ⟨r, j, none⟩ := fun j e => hp (by rw [e])
  exact ⟨⟨(World.cell?_setCell_other _ _ _ _ (q 0)).trans h0, (World.cell?_setCell_other _ _ _ _ (q 1)).trans h1, (World.cell?_setCell_other _ _ _ _ (q 2)).trans h2⟩, by rw [World.frozen?_setCell]; exact f0, by rw [World.frozen?_setCell]; exact f1, by rw [World.frozen?_setCell]; exact f2⟩
theorem Box3.set01 {W : World} {r : Nat} {u v z u' v' : Value} (h : Box3 W r u v z) : Box3 ((W.setCell ⟨r, 0, none⟩ u').setCell ⟨r, 1, none⟩ v') r u' v' z := by
  obtain ⟨⟨h0, h1, h2⟩, f0, f1, f2⟩ := h
  exact ⟨⟨set2_cell0 h0, set2_cell1 h1, (World.cell?_setCell_other _ _ _ _ (addr_ne (by omega))).trans ((World.cell?_setCell_other _ _ _ _ (addr_ne (by omega))).trans h2)⟩, by simp only [World.frozen?_setCell]; exact f0, by simp only [World.frozen?_setCell]; exact f1, by simp only [World.frozen?_setCell]; exact f2⟩
theorem Box3.set2 {W : World} {r : Nat} {u v z z' : Value} (h : Box3 W r u v z) : Box3 (W.setCell ⟨r, 2, none⟩ z') r u v z' := by
  obtain ⟨⟨h0, h1, h2⟩, f0, f1, f2⟩ := h
  exact ⟨⟨(World.cell?_setCell_other _ _ _ _ (addr_ne (by omega))).trans h0, (World.cell?_setCell_other _ _ _ _ (addr_ne (by omega))).trans h1, World.cell?_setCell_same _ _ _ h2⟩, by rw [World.frozen?_setCell]; exact f0, by rw [World.frozen?_setCell]; exact f1, by rw [World.frozen?_setCell]; exact f2⟩
theorem RdS.setOut {w : World} {a : Option Addr} {xs : List ByteArray} (h : RdS w a xs) {p : Addr} (hp : ∀ q, a = some q → q.block ≠ p.block) (v : Value) : RdS (w.setCell p v) a xs := by
  rcases h with h | ⟨b, off, rfl, hlt, hc⟩
  · exact .inl h
  · refine .inr ⟨b, off, rfl, by simpa [World.setCell] using hlt, fun i hi => (World.cell?_setCell_other _ _ _ _ ?_).trans (hc i hi)⟩
    intro e; exact hp _ rfl (by rw [e])
theorem parts_le {s p : ByteArray} {l : List ByteArray} (h : fCutAt s ⟨#[47]⟩ = p :: l) : p.size ≤ s.size := by
  have hp : p.data.toList.length = p.size := by simp
  have hs : s.data.toList.length = s.size := by simp
  match l, h with
  | [], h => have := congrArg List.length (cut_one h); omega
  | [q], h => have := congrArg List.length (cut_two h); simp at this; omega
  | q :: r :: t, h => have := cut_more h; omega
theorem parts_le2 {s p q : ByteArray} {l : List ByteArray} (h : fCutAt s ⟨#[47]⟩ = p :: q :: l) : q.size ≤ s.size := by
  have hp : q.data.toList.length = q.size := by simp
  have hs : s.data.toList.length = s.size := by simp
  match l, h with
  | [], h => have := congrArg List.length (cut_two h); simp at this; omega
  | r :: t, h => have := cut_more h; omega
theorem fTextRat_one {s p : ByteArray} (h : fCutAt s ⟨#[47]⟩ = [p]) : fTextRat s = if (fStrInt p.data.toList).2 && ratB (fStrInt p.data.toList).1.1 (fStrInt p.data.toList).1.2 [1] then (((fStrInt p.data.toList).1.1, (fStrInt p.data.toList).1.2, [1]), true) else ratZ := by unfold fTextRat; rw [h]
theorem fTextRat_two {s p q : ByteArray} (h : fCutAt s ⟨#[47]⟩ = [p, q]) : fTextRat s = if (fStrInt p.data.toList).2 && (fTextNat q.data.toList).2 && !(decide ((fTextNat q.data.toList).1 = [1])) && ratB (fStrInt p.data.toList).1.1 (fStrInt p.data.toList).1.2 (fTextNat q.data.toList).1 then (((fStrInt p.data.toList).1.1, (fStrInt p.data.toList).1.2, (fTextNat q.data.toList).1), true) else ratZ := by unfold fTextRat; rw [h]
theorem fTextRat_more {s p q r : ByteArray} {t : List ByteArray} (h : fCutAt s ⟨#[47]⟩ = p :: q :: r :: t) : fTextRat s = ratZ := by unfold fTextRat; rw [h]
set_option maxHeartbeats 6400000 in
theorem impl_TextRat (s : ByteArray) (w : World) (hs : s.size ≤ 1048576) :
    Calls Tryz.prog 9 #[.string s] w fun e w' => RatPost2 w (fTextRat s) e w' := by
  obtain ⟨L, hL⟩ : ∃ L, fCutAt s ⟨#[47]⟩ = L := ⟨_, rfl⟩
  have hcut := impl_CutAt s ⟨#[47]⟩ (w.alloc (.cells #[.bool false, .slice none 0 0, .slice none 0 0] 27)) hs (by show (1 : Nat) ≤ _; omega)
  rw [hL] at hcut
  have HC := Lib.hid hcut
  have hL0 : 0 < L.length := by rw [← hL]; unfold fCutAt; simp
  have HL := Lib.hid hL
  clear hcut hL
  have hA := bel_alloc w (.cells #[.bool false, .slice none 0 0, .slice none 0 0] 27)
  have hR0 := Box3.new w (.bool false) (.slice none 0 0) (.slice none 0 0) 27 _ rfl
  go_enter Tryz.func9, Tryz.ntmps9
  go_wp2_with fail
  refine HC.out.mono ?_
  rintro e w1 ⟨⟨a1, k1, rfl, ho, hl⟩, hb1⟩
  have hB1 := hA.trans (hb1.mono hA.size)
  have z1 := hb1.size
  simp only [World.size_alloc] at z1
  have hR1 := hR0.below hb1 (Nat.le_refl _)
  have hrd := ho.rd
  clear ho hR0 hb1 hA HC
  have hbL := bel_alloc w1 (.cells #[.int .i64 1] 3)
  have hlit := Slot.of (ownLit1 w1 w1.heap.size 1 (Nat.le_refl _))
  have hlitu : (World.alloc w1 (.cells #[.int .i64 1] 3)).heap.size = w1.heap.size + 1 := by simp
  rw [hlitu] at hlit
  have hbX := bel_alloc (World.alloc w1 (.cells #[.int .i64 1] 3)) (.cells #[.bool false, .slice none 0 0, .slice (some ⟨w1.heap.size, 0, none⟩) 1 1] 27)
  have hX := Box3.new (World.alloc w1 (.cells #[.int .i64 1] 3)) (.bool false) (.slice none 0 0) (.slice (some ⟨w1.heap.size, 0, none⟩) 1 1) 27 (w1.heap.size + 1) (by simp)
  have hb3 := hbL.trans (hbX.mono (by simp))
  have hR3 := hR1.below hb3 (Nat.le_refl _)
  have hrd3 := hrd.below hb3 (Nat.le_refl _)
  have hlit3 := hlit.below hbX (by simp)
  have hB3 := hB1.trans (hb3.mono hB1.size)
  have hrdlt : ∀ q, a1 = some q → L = [] ∨ q.block < w1.heap.size := by
    intro q hq
    rcases hrd with h | ⟨b, off, rfl, hlt, _⟩
    · exact .inl h
    · cases hq; exact .inr hlt
  have HLT := Lib.hid hrdlt
  clear hbL hlit hlitu hbX hb3 hR1 hrd hB1 hrdlt
  obtain ⟨b0, off, p, rfl, hb0, hc0, hp0⟩ := hrd3.at 0 hL0
  have hblt : b0 < w1.heap.size := by
    rcases HLT.out _ rfl with h | h
    · rw [h] at hL0; simp at hL0
    · exact h
  rw [Nat.add_zero] at hc0
  have hps : p.size ≤ 1048576 := by
    cases hLc : L with
    | nil => rw [hLc] at hL0; simp at hL0
    | cons x t =>
      have e : p = x := by rw [← hp0.out, hLc]; rfl
      have := parts_le (s := s) (by rw [HL.out]; exact hLc)
      rw [e]; omega
  go_wp2_with fail
  refine (impl_StrInt p _ (by omega)).mono ?_
  rintro e w4 ⟨⟨a4, k4, rfl, ho4, hl4⟩, hb4⟩
  obtain ⟨SI, hSI⟩ : ∃ x, fStrInt p.data.toList = x := ⟨_, rfl⟩
  rw [hSI] at ho4 hl4 ⊢
  have HSI := Lib.hid hSI
  clear hSI
  have z4 := hb4.size
  simp only [World.size_alloc] at z4
  have hB4 := hB3.trans (hb4.mono hB3.size)
  have hR4 := hR3.below hb4 (Nat.le_refl _)
  have hX4 := hX.below hb4 (Nat.le_refl _)
  have hrd4 := hrd3.below hb4 (Nat.le_refl _)
  have hlit4 := hlit3.below hb4 hlit3.1
  have s4 := Slot.of (Own.mono ho4 (show w1.heap.size + 2 ≤ _ by simp))
  have u4 := s4.1
  clear hB3 hR3 hX hrd3 hlit3 hb4 ho4 hc0
  have hX4k := hX4
  obtain ⟨⟨x0, x1, x2⟩, xf0, xf1, xf2⟩ := hX4k
  go_upto_region 5 with fail
  have hB5 := (hB4.setCell (p := ⟨w1.heap.size + 1, 0, none⟩) (by dsimp only; omega) (.bool SI.1.1)).setCell (p := ⟨w1.heap.size + 1, 1, none⟩) (by dsimp only; omega) (.slice a4 SI.1.2.length k4)
  have hR5 := (hR4.setOther (p := ⟨w1.heap.size + 1, 0, none⟩) (by dsimp only; omega) (.bool SI.1.1)).setOther (p := ⟨w1.heap.size + 1, 1, none⟩) (by dsimp only; omega) (.slice a4 SI.1.2.length k4)
  have hX5 := hX4.set01 (u' := .bool SI.1.1) (v' := .slice a4 SI.1.2.length k4)
  have s5 := (s4.setOut (p := ⟨w1.heap.size + 1, 0, none⟩) (by dsimp only; omega) (.bool SI.1.1)).setOut (p := ⟨w1.heap.size + 1, 1, none⟩) (by dsimp only; omega) (.slice a4 SI.1.2.length k4)
  have hlit5 := (hlit4.setHi (p := ⟨w1.heap.size + 1, 0, none⟩) (Nat.le_refl _) (.bool SI.1.1)).setHi (p := ⟨w1.heap.size + 1, 1, none⟩) (Nat.le_refl _) (.slice a4 SI.1.2.length k4)
  have hrd5 := (hrd4.setOut (p := ⟨w1.heap.size + 1, 0, none⟩) (by intro q hq; cases hq; show b0 ≠ w1.heap.size + 1; omega) (.bool SI.1.1)).setOut (p := ⟨w1.heap.size + 1, 1, none⟩) (by intro q hq; cases hq; show b0 ≠ w1.heap.size + 1; omega) (.slice a4 SI.1.2.length k4)
  obtain ⟨w5, hW⟩ : ∃ x, x = (w4.setCell ⟨w1.heap.size + 1, 0, none⟩ (.bool SI.1.1)).setCell ⟨w1.heap.size + 1, 1, none⟩ (.slice a4 SI.1.2.length k4) := ⟨_, rfl⟩
  have z5 : w4.heap.size ≤ w5.heap.size := by rw [hW]; simp
  rw [← hW] at hB5 hR5 hX5 s5 hlit5 hrd5 ⊢
  clear hW hB4 hR4 hX4 s4 hlit4 hrd4 x0 x1 x2 xf0 xf1 xf2
  have hR5k := hR5
  obtain ⟨⟨r0, r1, r2⟩, rf0, rf1, rf2⟩ := hR5k
  have hX5k := hX5
  obtain ⟨⟨x0, x1, x2⟩, xf0, xf1, xf2⟩ := hX5k
  cases hok : SI.2
  · skip
    have why : fTextRat s = ratZ := by
      cases hLc : L with
      | nil => rw [hLc] at hL0; simp at hL0
      | cons x t =>
        have e : p = x := by rw [← hp0.out, hLc]; rfl
        have hL2 : fCutAt s ⟨#[47]⟩ = p :: t := by rw [HL.out, hLc, e]
        match t, hL2 with
        | [], hL2 => rw [fTextRat_one hL2, HSI.out, hok]; rfl
        | [q], hL2 => rw [fTextRat_two hL2, HSI.out, hok]; rfl
        | q :: r :: u, hL2 => rw [fTextRat_more hL2]
    have HF := Lib.hid (show fTextRat s = ratZ by exact why)
    go_wp2
    refine bodyPost_ret (v := .tuple #[.agg #[.bool false, .slice none 0 0, .slice none 0 0], .bool false]) (by simp [results, Tryz.results9, go_sem, r0, r1, r2]) rfl ?_
    rw [HF.out]
    exact ratPost2_zero (set3_below hB5 (by omega))
  by_cases hl2 : 2 < L.length
  · have zc : decide (2 < (L.length : Int)) = true := decide_eq_true (by omega)
    have why : fTextRat s = ratZ := by
      match hLc : L, hl2 with
      | x :: y :: z :: t, _ => exact fTextRat_more (by rw [HL.out])
    have HF := Lib.hid (show fTextRat s = ratZ by exact why)
    go_wp2
    refine bodyPost_ret (v := .tuple #[.agg #[.bool false, .slice none 0 0, .slice none 0 0], .bool false]) (by simp [results, Tryz.results9, go_sem, r0, r1, r2]) rfl ?_
    rw [HF.out]
    exact ratPost2_zero (set3_below hB5 (by omega))
  have zc : decide (2 < (L.length : Int)) = false := decide_eq_false (by omega)
  by_cases hl1 : L.length ≤ 1
  · have zd : ((L.length : Int) == 2) = false := by rw [beq_eq_false_iff_ne]; omega
    have hL2 : fCutAt s ⟨#[47]⟩ = [p] := by
      match hLc : L, hl1, hL0 with
      | [x], _, _ =>
        have e : p = x := by rw [← hp0.out]; rfl
        rw [HL.out, e]
    have HL2 := Lib.hid hL2
    clear hL2
    clear r0 r1 r2 rf0 rf1 rf2
    go_wp2_with fail
    refine (impl_RatOk _ _ _ _ _ _ _ _ (s5.inn (by omega)) (hlit5.inn (by simp))).mono ?_
    rintro e w6 ⟨rfl, hb6⟩
    have z6 := hb6.size
    have hB6 := hB5.trans (hb6.mono hB5.size)
    have hR6 := hR5.below hb6 (Nat.le_refl _)
    have hX6 := hX5.below hb6 (Nat.le_refl _)
    have s6 := s5.below hb6 s5.1
    have t6 := hlit5.below hb6 hlit5.1
    have us6 := s6.1
    have ut6 := t6.1
    clear x0 x1 x2 xf0 xf1 xf2 hb6
    obtain ⟨⟨r0, r1, r2⟩, rf0, rf1, rf2⟩ := hR6
    obtain ⟨⟨x0, x1, x2⟩, xf0, xf1, xf2⟩ := hX6
    cases hrb : ratB SI.1.1 SI.1.2 [1]
    · skip
      have HF := Lib.hid (show fTextRat s = ratZ by rw [fTextRat_one HL2.out, HSI.out, hok, hrb]; rfl)
      go_wp2
      refine bodyPost_ret (v := .tuple #[.agg #[.bool false, .slice none 0 0, .slice none 0 0], .bool false]) (by simp [results, Tryz.results9, go_sem, r0, r1, r2]) rfl ?_
      rw [HF.out]
      exact ratPost2_zero (set3_below hB6 (by omega))
    · have HF := Lib.hid (show fTextRat s = ((SI.1.1, SI.1.2, [1]), true) by rw [fTextRat_one HL2.out, HSI.out, hok, hrb]; rfl)
      go_wp2
      refine bodyPost_ret (v := .tuple #[.agg #[.bool SI.1.1, .slice a4 SI.1.2.length k4, .slice (some ⟨w1.heap.size, 0, none⟩) 1 1], .bool true]) (by simp [results, Tryz.results9, go_sem, r0, r1, r2]) rfl ?_
      rw [HF.out]
      exact ⟨⟨a4, k4, (some ⟨w1.heap.size, 0, none⟩), 1, _, _, _, _, rfl, s6.set3 (by omega), by dsimp only; omega, t6.set3 (by omega), by dsimp only; simp, by omega, by omega, .inr (by omega)⟩, set3_below hB6 (by omega)⟩
  have zd : ((L.length : Int) == 2) = true := by rw [beq_iff_eq]; omega
  obtain ⟨b9, off9, q, hab, hb9, hc9, hq9⟩ := hrd5.at 1 (by omega)
  simp only [Option.some.injEq, Addr.mk.injEq, and_true] at hab
  obtain ⟨rfl, rfl⟩ := hab
  have hL2 : fCutAt s ⟨#[47]⟩ = [p, q] := by
    have h2 : L.length ≤ 2 := by omega
    have h3 : 2 ≤ L.length := by omega
    match hLc : L, h2, h3 with
    | [x, y], _, _ =>
      have e : p = x := by rw [← hp0.out]; rfl
      have e2 : q = y := by rw [← hq9.out]; rfl
      rw [HL.out, e, e2]
  have hqs : q.size ≤ 1048576 := Nat.le_trans (parts_le2 hL2) hs
  have HL2 := Lib.hid hL2
  clear hL2
  go_wp2_with fail
  refine (impl_TextNat q _ (by omega)).mono ?_
  rintro e w7 ⟨⟨a7, k7, rfl, ho7, hl7⟩, hb7⟩
  obtain ⟨TN, hTN⟩ : ∃ x, fTextNat q.data.toList = x := ⟨_, rfl⟩
  rw [hTN] at ho7 hl7 ⊢
  have HTN := Lib.hid hTN
  clear hTN
  have z7 := hb7.size
  have hB7 := hB5.trans (hb7.mono hB5.size)
  have hR7 := hR5.below hb7 (Nat.le_refl _)
  have hX7 := hX5.below hb7 (Nat.le_refl _)
  have s7 := s5.below hb7 s5.1
  have t7 := Slot.of ho7
  have ut7 := t7.1
  clear hB5 hR5 hX5 s5 hlit5 hrd5 x0 x1 x2 xf0 xf1 xf2 r0 r1 r2 rf0 rf1 rf2 hb7 ho7 hc9
  have hX7k := hX7
  obtain ⟨⟨x0, x1, x2⟩, xf0, xf1, xf2⟩ := hX7k
  go_upto_region 9 with fail
  have hB5 := hB7.setCell (p := ⟨w1.heap.size + 1, 2, none⟩) (by dsimp only; omega) (.slice a7 TN.1.length k7)
  have hR5 := hR7.setOther (p := ⟨w1.heap.size + 1, 2, none⟩) (by dsimp only; omega) (.slice a7 TN.1.length k7)
  have hX5 := hX7.set2 (z' := .slice a7 TN.1.length k7)
  have s5 := s7.setOut (p := ⟨w1.heap.size + 1, 2, none⟩) (by dsimp only; omega) (.slice a7 TN.1.length k7)
  have t5 := t7.setOut (p := ⟨w1.heap.size + 1, 2, none⟩) (by dsimp only; omega) (.slice a7 TN.1.length k7)
  obtain ⟨w8, hW⟩ : ∃ x, x = w7.setCell ⟨w1.heap.size + 1, 2, none⟩ (.slice a7 TN.1.length k7) := ⟨_, rfl⟩
  have z8 : w7.heap.size ≤ w8.heap.size := by rw [hW]; simp
  rw [← hW] at hB5 hR5 hX5 s5 t5 ⊢
  clear hW hB7 hR7 hX7 s7 t7 x0 x1 x2 xf0 xf1 xf2
  have hR5k := hR5
  obtain ⟨⟨r0, r1, r2⟩, rf0, rf1, rf2⟩ := hR5k
  have hX5k := hX5
  obtain ⟨⟨x0, x1, x2⟩, xf0, xf1, xf2⟩ := hX5k
  cases hok2 : TN.2
  · skip
    have HF := Lib.hid (show fTextRat s = ratZ by rw [fTextRat_two HL2.out, HSI.out, HTN.out, hok, hok2]; rfl)
    go_wp2
    refine bodyPost_ret (v := .tuple #[.agg #[.bool false, .slice none 0 0, .slice none 0 0], .bool false]) (by simp [results, Tryz.results9, go_sem, r0, r1, r2]) rfl ?_
    rw [HF.out]
    exact ratPost2_zero (set3_below hB5 (by omega))
  obtain ⟨n, hn⟩ : ∃ n, TN.1 = limbs n := ⟨dv q.data.toList, by have := (textNat_ok (l := q.data.toList) (by rw [HTN.out]; exact hok2)).2.1; rw [HTN.out] at this; exact this⟩
  have hone : decide (TN.1 = [1]) = decide (n = 1) := by rw [hn]; exact decide_eq_decide.2 ⟨fun h => limbs_inj (h.trans limbs1.symm), fun h => by rw [h, limbs1]⟩
  obtain ⟨TN1, TN2⟩ := TN
  dsimp only at hn hone hok2 hl7 t5 hX5 hR5 hB5 s5 x2 HTN ⊢
  subst hn
  have HTN2 := Lib.hid HTN.out
  clear HTN
  clear r0 r1 r2 rf0 rf1 rf2
  go_wp2_with fail
  refine (isOne_t _ _ n _ (t5.inn (by omega)) (by omega)).mono ?_
  rintro e w9 ⟨rfl, hb9'⟩
  have z9 := hb9'.size
  replace hB5 := hB5.trans (hb9'.mono hB5.size)
  replace hR5 := hR5.below hb9' (Nat.le_refl _)
  replace hX5 := hX5.below hb9' (Nat.le_refl _)
  replace s5 := s5.below hb9' s5.1
  replace t5 := t5.below hb9' t5.1
  clear x0 x1 x2 xf0 xf1 xf2 hb9'
  have hR5k := hR5
  obtain ⟨⟨r0, r1, r2⟩, rf0, rf1, rf2⟩ := hR5k
  have hX5k := hX5
  obtain ⟨⟨x0, x1, x2⟩, xf0, xf1, xf2⟩ := hX5k
  cases h1n : decide (n = 1)
  rotate_left
  · skip
    have HF := Lib.hid (show fTextRat s = ratZ by rw [fTextRat_two HL2.out, HSI.out, HTN2.out, hok, hok2]; dsimp only; rw [hone, h1n]; rfl)
    go_wp2
    refine bodyPost_ret (v := .tuple #[.agg #[.bool false, .slice none 0 0, .slice none 0 0], .bool false]) (by simp [results, Tryz.results9, go_sem, r0, r1, r2]) rfl ?_
    rw [HF.out]
    exact ratPost2_zero (set3_below hB5 (by omega))
  clear r0 r1 r2 rf0 rf1 rf2
  go_wp2_with fail
  refine (impl_RatOk _ _ _ _ _ _ _ _ (s5.inn (by omega)) (t5.inn (by omega))).mono ?_
  rintro e w6 ⟨rfl, hb6⟩
  have z6 := hb6.size
  have hB6 := hB5.trans (hb6.mono hB5.size)
  have hR6 := hR5.below hb6 (Nat.le_refl _)
  have hX6 := hX5.below hb6 (Nat.le_refl _)
  have s6 := s5.below hb6 s5.1
  have t6 := t5.below hb6 t5.1
  have us6 := s6.1
  have ut6 := t6.1
  clear x0 x1 x2 xf0 xf1 xf2 hb6
  obtain ⟨⟨r0, r1, r2⟩, rf0, rf1, rf2⟩ := hR6
  obtain ⟨⟨x0, x1, x2⟩, xf0, xf1, xf2⟩ := hX6
  cases hrb : ratB SI.1.1 SI.1.2 (limbs n)
  · skip
    have HF := Lib.hid (show fTextRat s = ratZ by rw [fTextRat_two HL2.out, HSI.out, HTN2.out, hok, hok2]; dsimp only; rw [hone, h1n, hrb]; rfl)
    go_wp2
    refine bodyPost_ret (v := .tuple #[.agg #[.bool false, .slice none 0 0, .slice none 0 0], .bool false]) (by simp [results, Tryz.results9, go_sem, r0, r1, r2]) rfl ?_
    rw [HF.out]
    exact ratPost2_zero (set3_below hB6 (by omega))
  · have HF := Lib.hid (show fTextRat s = ((SI.1.1, SI.1.2, (limbs n)), true) by rw [fTextRat_two HL2.out, HSI.out, HTN2.out, hok, hok2]; dsimp only; rw [hone, h1n, hrb]; rfl)
    go_wp2
    refine bodyPost_ret (v := .tuple #[.agg #[.bool SI.1.1, .slice a4 SI.1.2.length k4, .slice a7 (limbs n).length k7], .bool true]) (by simp [results, Tryz.results9, go_sem, r0, r1, r2]) rfl ?_
    rw [HF.out]
    exact ⟨⟨a4, k4, a7, k7, _, _, _, _, rfl, s6.set3 (by omega), by dsimp only; omega, t6.set3 (by omega), by dsimp only; omega, by omega, by omega, .inl (by omega)⟩, set3_below hB6 (by omega)⟩
theorem emptyB {s : ByteArray} (h : s.data.toList ≠ []) : s.toList.isEmpty = false := by
  have h1 := ne_empty s
  have h2 : 0 < s.size := by
    have : s.data.toList.length ≠ 0 := fun e => h (List.eq_nil_of_length_eq_zero e)
    have e : s.data.toList.length = s.size := by simp
    omega
  rw [decide_eq_true h2] at h1
  simpa using h1
theorem emptyT {s : ByteArray} (h : s.data.toList = []) : s.toList.isEmpty = true := by
  have h1 := ne_empty s
  have e : s.data.toList.length = s.size := by simp
  rw [h] at e
  have e0 : s.size = 0 := e.symm
  rw [decide_eq_false (by omega)] at h1
  simpa using h1
theorem fTextRat_z {s p q : ByteArray} {t : List ByteArray} (h : fCutAt s ⟨#[47]⟩ = p :: q :: t) (hz : t = [] → ((fStrInt p.data.toList).2 && (fTextNat q.data.toList).2 && !(decide ((fTextNat q.data.toList).1 = [1])) && ratB (fStrInt p.data.toList).1.1 (fStrInt p.data.toList).1.2 (fTextNat q.data.toList).1) = false) : fTextRat s = ratZ := by
  cases t with
  | nil => rw [fTextRat_two h, hz rfl]; rfl
  | cons r u => exact fTextRat_more h
theorem part_len {s p q : ByteArray} {t : List ByteArray} (h : fCutAt s ⟨#[47]⟩ = p :: q :: t) : (t = [] → s.data.toList.length = p.data.toList.length + q.data.toList.length + 1) ∧ (t ≠ [] → p.data.toList.length + q.data.toList.length + 2 ≤ s.data.toList.length) := by
  cases t with
  | nil => exact ⟨fun _ => by have := congrArg List.length (cut_two h); simp at this ⊢; omega, fun e => absurd rfl e⟩
  | cons r u => exact ⟨fun e => (by cases e), fun _ => cut_more h⟩
theorem strInt_ne {l : List UInt8} (h : (fStrInt l).2 = true) : l ≠ [] := by
  rintro rfl
  rw [show fStrInt [] = ((false, []), false) from by unfold fStrInt; rfl] at h
  cases h
end Go.Proofs.YtogkonenejfgmaaGreatDoor
