/- The walks of StrInt (program and reference). For every text within the reach. -/
import Derived.Test.YtogkonenejfgmaaGreatDoorM32
import Derived.Test.YtogkonenejfgmaaGreatDoorM13
namespace Go.Proofs.YtogkonenejfgmaaGreatDoor
open Go.RowKit
def fStrInt (l : List UInt8) : (Bool × List Int) × Bool :=
  if l.head? = some 45 then (if (fTextNat l.tail).2 && decide (0 < (fTextNat l.tail).1.length) then ((true, (fTextNat l.tail).1), true) else ((false, []), false))
  else if (fTextNat l).2 then ((false, (fTextNat l).1), true) else ((false, []), false)
theorem head_of (s : ByteArray) (h : 0 < s.size) : s.data.toList.head? = some s[0] := by
  have h2 : 0 < s.data.toList.length := by simpa using h
  rw [List.head?_eq_getElem?, List.getElem?_eq_getElem h2]
  rfl
theorem tail_of (s : ByteArray) : (s.extract 1 s.size).data.toList = s.data.toList.tail := by
  rw [ByteArray.data_extract, Array.toList_extract]
  cases hd : s.data.toList with
  | nil => simp
  | cons a l =>
    have : s.size = l.length + 1 := by have := congrArg List.length hd; simpa using this
    rw [List.extract_eq_take_drop, this]; simp
theorem fTextNat_zero {l : List UInt8} (h : (fTextNat l).2 = false) : (fTextNat l).1 = [] := by
  unfold fTextNat at *
  split at h
  · cases h
  · rename_i hn; rw [if_neg hn]
theorem fStrInt_no {l : List UInt8} (h : l.head? ≠ some 45) (h2 : (fTextNat l).2 = false) : fStrInt l = ((false, []), false) := by unfold fStrInt; rw [if_neg h, h2]; rfl
theorem fStrInt_yes {l : List UInt8} (h : l.head? ≠ some 45) (h2 : (fTextNat l).2 = true) : fStrInt l = ((false, (fTextNat l).1), true) := by unfold fStrInt; rw [if_neg h, h2]; rfl
theorem fStrInt_neg_no {l : List UInt8} (h : l.head? = some 45) (h2 : (fTextNat l.tail).2 = false ∨ (fTextNat l.tail).1.length = 0) : fStrInt l = ((false, []), false) := by
  unfold fStrInt; rw [if_pos h]
  rcases h2 with h2 | h2
  · rw [h2]; rfl
  · rw [h2]; simp
theorem fStrInt_neg_yes {l : List UInt8} (h : l.head? = some 45) (h2 : (fTextNat l.tail).2 = true) (h3 : 0 < (fTextNat l.tail).1.length) : fStrInt l = ((true, (fTextNat l.tail).1), true) := by
  unfold fStrInt; rw [if_pos h, h2]; simp [h3]
set_option maxHeartbeats 1600000 in
theorem impl_StrInt (s : ByteArray) (w : World) (hs : s.size ≤ 1099511627776) :
    Calls Tryz.prog 25 #[.string s] w fun e w' => (∃ a c, e = .returned (.tuple #[.agg #[.bool (fStrInt s.data.toList).1.1, .slice a (fStrInt s.data.toList).1.2.length c], .bool (fStrInt s.data.toList).2]) ∧ Own w' w.heap.size a c (fStrInt s.data.toList).1.2 ∧ (fStrInt s.data.toList).1.2.length ≤ 50) ∧ Below w.heap.size w w' := by
  have hA := bel_alloc w (.cells #[.bool false, .slice none 0 0] 25)
  by_cases h0 : 0 < s.size
  · have hne : (!s.toList.isEmpty) = true := by rw [ne_empty]; exact decide_eq_true h0
    have hne2 : s.toList.isEmpty = false := by simpa using hne
    cases h45 : ((s[0].toNat : Int) == 45)
    · have hh : s.data.toList.head? ≠ some 45 := by rw [head_of s h0]; intro e; simp only [Option.some.injEq] at e; rw [e] at h45; exact absurd h45 (by decide)
      cases hok : (fTextNat s.data.toList).2
      · have hF := fStrInt_no hh hok
        go_enter Tryz.func25, Tryz.ntmps25
        go_wp2_with fail
        refine (impl_TextNat _ _ hs).mono ?_
        rintro e w1 ⟨⟨a1, c1, rfl, ho1, hn1⟩, hb1⟩
        rw [hok]
        obtain ⟨hc, hf⟩ := bcell hb1
        have hz := hb1.size
        simp only [World.size_alloc] at hz
        have hB := hA.trans (hb1.mono hA.size)
        go_wp2
        refine bodyPost_ret (v := .tuple #[.agg #[.bool false, .slice none 0 0], .bool false]) (by simp [results, Tryz.results25, go_sem, hc]) rfl ⟨⟨none, 0, ?_, ?_, ?_⟩, ?_⟩
        · rw [hF]; rfl
        · rw [hF]; exact Own.nil _ _
        · rw [hF]; exact Nat.zero_le _
        · exact (hB.setCell (by dsimp only; omega) _).setCell (by dsimp only; omega) _
      · have hF := fStrInt_yes hh hok
        go_enter Tryz.func25, Tryz.ntmps25
        go_wp2_with fail
        refine (impl_TextNat _ _ hs).mono ?_
        rintro e w1 ⟨⟨a1, c1, rfl, ho1, hn1⟩, hb1⟩
        rw [hok]
        obtain ⟨hc, hf⟩ := bcell hb1
        have hz := hb1.size
        simp only [World.size_alloc] at hz
        have hB := hA.trans (hb1.mono hA.size)
        go_wp2
        refine bodyPost_ret (v := .tuple #[.agg #[.bool false, .slice a1 (fTextNat s.data.toList).1.length c1], .bool true]) (by simp [results, Tryz.results25, go_sem, hc]) rfl ⟨⟨a1, c1, ?_, ?_, ?_⟩, ?_⟩
        · rw [hF]
        · rw [hF]
          exact own_set (B0 := w.heap.size + 1) (own_set (B := w.heap.size + 1) (B0 := w.heap.size + 1) (ho1.mono (by simp)) (by dsimp only; omega) _ (Nat.le_refl _)) (by dsimp only; omega) _ (by omega)
        · rw [hF]; exact hn1
        · exact (hB.setCell (by dsimp only; omega) _).setCell (by dsimp only; omega) _
    · have hh : s.data.toList.head? = some 45 := by rw [head_of s h0]; have := beq_iff_eq.1 h45; congr 1; apply UInt8.toNat_inj.1; have e : (45 : UInt8).toNat = 45 := rfl; omega
      cases hok : (fTextNat s.data.toList.tail).2
      · have hF := fStrInt_neg_no hh (.inl hok)
        go_enter Tryz.func25, Tryz.ntmps25
        go_wp2_with fail
        refine (impl_TextNat _ _ (by simp [ByteArray.size_extract]; omega)).mono ?_
        rintro e w1 ⟨⟨a1, c1, rfl, ho1, hn1⟩, hb1⟩
        rw [tail_of] at ho1 hn1 ⊢
        rw [hok]
        obtain ⟨hc, hf⟩ := bcell hb1
        have hz := hb1.size
        simp only [World.size_alloc] at hz
        have hB := hA.trans (hb1.mono hA.size)
        go_wp2
        refine bodyPost_ret (v := .tuple #[.agg #[.bool false, .slice none 0 0], .bool false]) (by simp [results, Tryz.results25, go_sem, hc]) rfl ⟨⟨none, 0, ?_, ?_, ?_⟩, ?_⟩
        · rw [hF]; rfl
        · rw [hF]; exact Own.nil _ _
        · rw [hF]; exact Nat.zero_le _
        · exact (hB.setCell (by dsimp only; omega) _).setCell (by dsimp only; omega) _
      · by_cases hl : 0 < (fTextNat s.data.toList.tail).1.length
        · have hF := fStrInt_neg_yes hh hok hl
          have hl2 : (((fTextNat s.data.toList.tail).1.length : Int) == 0) = false := by rw [beq_eq_false_iff_ne]; omega
          go_enter Tryz.func25, Tryz.ntmps25
          go_wp2_with fail
          refine (impl_TextNat _ _ (by simp [ByteArray.size_extract]; omega)).mono ?_
          rintro e w1 ⟨⟨a1, c1, rfl, ho1, hn1⟩, hb1⟩
          rw [tail_of] at ho1 hn1 ⊢
          rw [hok]
          obtain ⟨hc, hf⟩ := bcell hb1
          have hz := hb1.size
          simp only [World.size_alloc] at hz
          have hB := hA.trans (hb1.mono hA.size)
          go_wp2
          refine bodyPost_ret (v := .tuple #[.agg #[.bool true, .slice a1 (fTextNat s.data.toList.tail).1.length c1], .bool true]) (by simp [results, Tryz.results25, go_sem, hc]) rfl ⟨⟨a1, c1, ?_, ?_, ?_⟩, ?_⟩
          · rw [hF]
          · rw [hF]
            exact own_set (B0 := w.heap.size + 1) (own_set (B := w.heap.size + 1) (B0 := w.heap.size + 1) (ho1.mono (by simp)) (by dsimp only; omega) _ (Nat.le_refl _)) (by dsimp only; omega) _ (by omega)
          · rw [hF]; exact hn1
          · exact (hB.setCell (by dsimp only; omega) _).setCell (by dsimp only; omega) _
        · have hl0 : (fTextNat s.data.toList.tail).1.length = 0 := by omega
          have hF := fStrInt_neg_no hh (.inr hl0)
          go_enter Tryz.func25, Tryz.ntmps25
          go_wp2_with fail
          refine (impl_TextNat _ _ (by simp [ByteArray.size_extract]; omega)).mono ?_
          rintro e w1 ⟨⟨a1, c1, rfl, ho1, hn1⟩, hb1⟩
          rw [tail_of] at ho1 hn1 ⊢
          rw [hok]
          obtain ⟨hc, hf⟩ := bcell hb1
          have hz := hb1.size
          simp only [World.size_alloc] at hz
          have hB := hA.trans (hb1.mono hA.size)
          go_wp2
          refine bodyPost_ret (v := .tuple #[.agg #[.bool false, .slice none 0 0], .bool false]) (by simp [results, Tryz.results25, go_sem, hc]) rfl ⟨⟨none, 0, ?_, ?_, ?_⟩, ?_⟩
          · rw [hF]; rfl
          · rw [hF]; exact Own.nil _ _
          · rw [hF]; exact Nat.zero_le _
          · exact (hB.setCell (by dsimp only; omega) _).setCell (by dsimp only; omega) _
  · have hse : s = ByteArray.mk #[] := by apply ByteArray.ext; exact Array.eq_empty_of_size_eq_zero (show s.data.size = 0 by simp at h0; simpa using h0)
    have hh : s.data.toList.head? ≠ some 45 := by rw [hse]; simp
    have hs0 : s.size = 0 := by omega
    have hne2 : s.toList.isEmpty = true := by have := ne_empty s; rw [decide_eq_false h0] at this; simpa using this
    clear hse
    cases hok : (fTextNat s.data.toList).2
    · have hF := fStrInt_no hh hok
      go_enter Tryz.func25, Tryz.ntmps25
      go_wp2_with fail
      refine (impl_TextNat _ _ hs).mono ?_
      rintro e w1 ⟨⟨a1, c1, rfl, ho1, hn1⟩, hb1⟩
      rw [hok]
      obtain ⟨hc, hf⟩ := bcell hb1
      have hz := hb1.size
      simp only [World.size_alloc] at hz
      have hB := hA.trans (hb1.mono hA.size)
      go_wp2
      refine bodyPost_ret (v := .tuple #[.agg #[.bool false, .slice none 0 0], .bool false]) (by simp [results, Tryz.results25, go_sem, hc]) rfl ⟨⟨none, 0, ?_, ?_, ?_⟩, ?_⟩
      · rw [hF]; rfl
      · rw [hF]; exact Own.nil _ _
      · rw [hF]; exact Nat.zero_le _
      · exact (hB.setCell (by dsimp only; omega) _).setCell (by dsimp only; omega) _
    · have hF := fStrInt_yes hh hok
      go_enter Tryz.func25, Tryz.ntmps25
      go_wp2_with fail
      refine (impl_TextNat _ _ hs).mono ?_
      rintro e w1 ⟨⟨a1, c1, rfl, ho1, hn1⟩, hb1⟩
      rw [hok]
      obtain ⟨hc, hf⟩ := bcell hb1
      have hz := hb1.size
      simp only [World.size_alloc] at hz
      have hB := hA.trans (hb1.mono hA.size)
      go_wp2
      refine bodyPost_ret (v := .tuple #[.agg #[.bool false, .slice a1 (fTextNat s.data.toList).1.length c1], .bool true]) (by simp [results, Tryz.results25, go_sem, hc]) rfl ⟨⟨a1, c1, ?_, ?_, ?_⟩, ?_⟩
      · rw [hF]
      · rw [hF]
        exact own_set (B0 := w.heap.size + 1) (own_set (B := w.heap.size + 1) (B0 := w.heap.size + 1) (ho1.mono (by simp)) (by dsimp only; omega) _ (Nat.le_refl _)) (by dsimp only; omega) _ (by omega)
      · rw [hF]; exact hn1
      · exact (hB.setCell (by dsimp only; omega) _).setCell (by dsimp only; omega) _
end Go.Proofs.YtogkonenejfgmaaGreatDoor
