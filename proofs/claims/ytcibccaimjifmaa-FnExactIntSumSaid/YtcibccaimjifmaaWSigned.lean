/- The walks of signed, fitInt, intNeg (program) and l04Make (reference). For every slice within the reach. -/
import Derived.Test.YtcibccaimjifmaaWIntOk
namespace Go.Proofs.Ytcibccaimjifmaa
open Go.RowKit
theorem capL_le (xs : List Int) : (capL xs).length ≤ 50 := by
  unfold capL; split
  · exact Nat.zero_le _
  · omega
theorem signed_any (neg : Bool) (a : Option Addr) (c : Nat) (xs : List Int) (w : World) (_hl : xs.length ≤ 1099511627776) :
    Calls Try.prog 38 #[.bool neg, .slice a xs.length c] w fun e w' => e = .returned (.agg #[.bool (neg && decide (0 < xs.length)), .slice a xs.length c]) ∧ Below w.heap.size w w' := by
  cases neg
  · go_enter Try.func38, Try.ntmps38
    go_wp2
    refine bodyPost_ret (v := .agg #[.bool false, .slice a xs.length c]) (by simp [results, Try.results38, go_sem]) rfl ⟨rfl, ?_⟩
    exact bel_alloc _ _
  · go_enter Try.func38, Try.ntmps38
    go_wp2
    refine bodyPost_ret (v := .agg #[.bool (decide (0 < xs.length)), .slice a xs.length c]) (by simp [results, Try.results38, go_sem]) rfl ⟨rfl, ?_⟩
    exact bel_alloc _ _
set_option maxHeartbeats 800000 in
theorem l04Make_any (neg : Bool) (a : Option Addr) (c : Nat) (xs : List Int) (w : World) (hx : In w a c xs) :
    Calls Try.prog 56 #[.bool neg, .slice a xs.length c] w fun e w' => (∃ a' c', e = .returned (.agg #[.bool (neg && decide (0 < (capL xs).length)), .slice a' (capL xs).length c']) ∧ Own w' w.heap.size a' c' (capL xs)) ∧ Below w.heap.size w w' := by
  have hl := hx.2.2
  have ht := trimL_length_le xs
  cases neg
  · go_enter Try.func56, Try.ntmps56
    go_wp2_with fail
    refine (l02Cap_any _ _ _ _ (hx.alloc _).1 hx.maxLen hx.2.1).mono ?_
    rintro e w1 ⟨⟨a1, c1, rfl, hc1⟩, rfl⟩
    have hr1 := hc1.rd (hx.alloc (.cells #[.bool false, .slice none 0 0] 26)).1
    have hle : (capL xs).length ≤ 50 := capL_le xs
    have ho0 := Own.empty (w.alloc (.cells #[.bool false, .slice none 0 0] 26)) (w.heap.size + 1) (by simp)
    have hbA := (bel_alloc w (.cells #[.bool false, .slice none 0 0] 26)).trans ((bel_alloc _ (.cells #[] 3)).mono (by simp))
    have hr2 := hr1.below (bel_alloc _ (.cells #[] 3)) (Nat.le_refl _)
    have hx0 : (World.alloc (World.alloc w (.cells #[.bool false, .slice none 0 0] 26)) (.cells #[] 3)).cell? ⟨w.heap.size, 0, none⟩ = some (.bool false) := cell_keep (bel_alloc _ _) (cell_box w _ _ _ 0 _ rfl rfl) (Nat.le_refl _)
    have hx1 : (World.alloc (World.alloc w (.cells #[.bool false, .slice none 0 0] 26)) (.cells #[] 3)).cell? ⟨w.heap.size, 1, none⟩ = some (.slice none 0 0) := cell_keep (bel_alloc _ _) (cell_box w _ _ _ 1 _ rfl rfl) (Nat.le_refl _)
    rw [World.size_alloc] at ho0
    have HO := Lib.hid ho0
    have HX0 := Lib.hid hx0
    have HX1 := Lib.hid hx1
    clear ho0 hx0 hx1
    go_wp2_with (at_builtin; refine appS _ rfl _ _ rfl (w.heap.size + 1) (some ⟨w.heap.size + 1, 0, none⟩) 0 [] a1 c1 (capL xs) rfl rfl HO.out hr2 (by rw [List.length_nil]; omega) (by simp) ?_)
    intro a2 c2 w2 ho2 hb2
    have hz := hb2.size
    simp only [World.size_alloc] at hz
    have hx0 : w2.cell? ⟨w.heap.size, 0, none⟩ = some (.bool false) := (hb2.cell (p := ⟨w.heap.size, 0, none⟩) (by simp)).trans HX0.out
    have hx1 : w2.cell? ⟨w.heap.size, 1, none⟩ = some (.slice none 0 0) := (hb2.cell (p := ⟨w.heap.size, 1, none⟩) (by simp)).trans HX1.out
    have hf0 : w2.frozen? ⟨w.heap.size, 0, none⟩ = false := (hb2.frozen (p := ⟨w.heap.size, 0, none⟩) (by simp)).trans (by simp)
    have hf1 : w2.frozen? ⟨w.heap.size, 1, none⟩ = false := (hb2.frozen (p := ⟨w.heap.size, 1, none⟩) (by simp)).trans (by simp)
    have hbW := hbA.trans (hb2.mono (by omega))
    go_wp2
    refine bodyPost_ret (v := .agg #[.bool (false), .slice a2 (capL xs).length c2]) (by simp [results, Try.results56, go_sem, hx0, hx1]) rfl ⟨⟨a2, c2, rfl, ?_⟩, ?_⟩
    · exact own_set (own_set ho2 (by dsimp only; omega) _ (Nat.le_refl _)) (by dsimp only; omega) _ (by omega)
    · exact (hbW.setCell (Nat.le_refl _) _).setCell (Nat.le_refl _) _
  · go_enter Try.func56, Try.ntmps56
    go_wp2_with fail
    refine (l02Cap_any _ _ _ _ (hx.alloc _).1 hx.maxLen hx.2.1).mono ?_
    rintro e w1 ⟨⟨a1, c1, rfl, hc1⟩, rfl⟩
    have hr1 := hc1.rd (hx.alloc (.cells #[.bool false, .slice none 0 0] 26)).1
    have hle : (capL xs).length ≤ 50 := capL_le xs
    have ho0 := Own.empty (w.alloc (.cells #[.bool false, .slice none 0 0] 26)) (w.heap.size + 1) (by simp)
    have hbA := (bel_alloc w (.cells #[.bool false, .slice none 0 0] 26)).trans ((bel_alloc _ (.cells #[] 3)).mono (by simp))
    have hr2 := hr1.below (bel_alloc _ (.cells #[] 3)) (Nat.le_refl _)
    have hx0 : (World.alloc (World.alloc w (.cells #[.bool false, .slice none 0 0] 26)) (.cells #[] 3)).cell? ⟨w.heap.size, 0, none⟩ = some (.bool false) := cell_keep (bel_alloc _ _) (cell_box w _ _ _ 0 _ rfl rfl) (Nat.le_refl _)
    have hx1 : (World.alloc (World.alloc w (.cells #[.bool false, .slice none 0 0] 26)) (.cells #[] 3)).cell? ⟨w.heap.size, 1, none⟩ = some (.slice none 0 0) := cell_keep (bel_alloc _ _) (cell_box w _ _ _ 1 _ rfl rfl) (Nat.le_refl _)
    rw [World.size_alloc] at ho0
    have HO := Lib.hid ho0
    have HX0 := Lib.hid hx0
    have HX1 := Lib.hid hx1
    clear ho0 hx0 hx1
    go_wp2_with (at_builtin; refine appS _ rfl _ _ rfl (w.heap.size + 1) (some ⟨w.heap.size + 1, 0, none⟩) 0 [] a1 c1 (capL xs) rfl rfl HO.out hr2 (by rw [List.length_nil]; omega) (by simp) ?_)
    intro a2 c2 w2 ho2 hb2
    have hz := hb2.size
    simp only [World.size_alloc] at hz
    have hx0 : w2.cell? ⟨w.heap.size, 0, none⟩ = some (.bool false) := (hb2.cell (p := ⟨w.heap.size, 0, none⟩) (by simp)).trans HX0.out
    have hx1 : w2.cell? ⟨w.heap.size, 1, none⟩ = some (.slice none 0 0) := (hb2.cell (p := ⟨w.heap.size, 1, none⟩) (by simp)).trans HX1.out
    have hf0 : w2.frozen? ⟨w.heap.size, 0, none⟩ = false := (hb2.frozen (p := ⟨w.heap.size, 0, none⟩) (by simp)).trans (by simp)
    have hf1 : w2.frozen? ⟨w.heap.size, 1, none⟩ = false := (hb2.frozen (p := ⟨w.heap.size, 1, none⟩) (by simp)).trans (by simp)
    have hbW := hbA.trans (hb2.mono (by omega))
    go_wp2
    refine bodyPost_ret (v := .agg #[.bool (decide (0 < (capL xs).length)), .slice a2 (capL xs).length c2]) (by simp [results, Try.results56, go_sem, hx0, hx1]) rfl ⟨⟨a2, c2, rfl, ?_⟩, ?_⟩
    · exact own_set (own_set ho2 (by dsimp only; omega) _ (Nat.le_refl _)) (by dsimp only; omega) _ (by omega)
    · exact (hbW.setCell (Nat.le_refl _) _).setCell (Nat.le_refl _) _
end Go.Proofs.Ytcibccaimjifmaa
