/- The walk of intNeg (program). -/
import Derived.Test.YtcibccaimjifmaaWSigned
import Derived.Deep.RegionHeld3
namespace Go.Proofs.Ytcibccaimjifmaa
open Go.RowKit
theorem keep2 {W w1 : World} {b : Nat} {u v : Value} (hb : Below W.heap.size W w1) (hlt : b < W.heap.size) (h0 : W.cell? ⟨b, 0, none⟩ = some u) (h1 : W.cell? ⟨b, 1, none⟩ = some v) :
    w1.cell? ⟨b, 0, none⟩ = some u ∧ w1.cell? ⟨b, 1, none⟩ = some v :=
  ⟨(hb.cell (p := ⟨b, 0, none⟩) hlt).trans h0, (hb.cell (p := ⟨b, 1, none⟩) hlt).trans h1⟩
theorem keepf {W w1 : World} {b : Nat} (hb : Below W.heap.size W w1) (hlt : b < W.heap.size) (h0 : W.frozen? ⟨b, 0, none⟩ = false) (h1 : W.frozen? ⟨b, 1, none⟩ = false) :
    w1.frozen? ⟨b, 0, none⟩ = false ∧ w1.frozen? ⟨b, 1, none⟩ = false :=
  ⟨(hb.frozen (p := ⟨b, 0, none⟩) hlt).trans h0, (hb.frozen (p := ⟨b, 1, none⟩) hlt).trans h1⟩
set_option maxHeartbeats 1600000 in
theorem intNeg_any (neg : Bool) (a : Option Addr) (c : Nat) (xs : List Int) (w : World) (hx : In w a c xs) :
    Calls Try.prog 47 #[.agg #[.bool neg, .slice a xs.length c]] w fun e w' => (∃ a' c', e = .returned (.agg #[.bool (!neg && decide (0 < xs.length)), .slice a' xs.length c']) ∧ Own w' w.heap.size a' c' xs) ∧ Below w.heap.size w w' := by
  have hl := hx.2.2
  have hb0 := (bel_alloc w (.cells #[.bool neg, .slice a xs.length c] 26)).trans ((bel_alloc _ (.cells #[.bool false, .slice none 0 0] 26)).mono (by simp))
  go_enter Try.func47, Try.ntmps47
  go_wp2_with fail
  go_region_held3 (fun w' => w'.cell? ⟨w.heap.size, 0, none⟩ = some (.bool neg) ∧ w'.cell? ⟨w.heap.size, 1, none⟩ = some (.slice a xs.length c))
    (first | go_keep | exact hk2 | exact hk1)
    (first | (go_at_call 43; refine (natCopy_any _ _ _ _ (hx.1.below hb0.drew (Nat.le_refl _)) hl).mono ?_; rintro e w1 ⟨⟨a1, c1, rfl, ho1⟩, hb1⟩; have hz1 := hb1.size; simp only [World.size_drew, World.size_alloc] at hz1; have hk1 := keep2 (b := w.heap.size) (u := .bool neg) (v := .slice a xs.length c) hb1 (by simp; omega) (by simp) (by simp); have hr1 := keep2 (b := w.heap.size + 1) (u := .bool false) (v := .slice none 0 0) hb1 (by simp) (by simp) (by simp); have hf1 := keepf (b := w.heap.size + 1) hb1 (by simp) (by simp) (by simp)) | (go_at_call 38; refine (signed_any _ _ _ _ _ hl).mono ?_; rintro e w2 ⟨rfl, hb2⟩; have hk2 := keep2 hb2 (by omega) hk1.1 hk1.2; obtain ⟨hr2a, hr2b⟩ := keep2 hb2 (by omega) hr1.1 hr1.2; obtain ⟨hf2a, hf2b⟩ := keepf hb2 (by omega) hf1.1 hf1.2))
  go_wp2
  refine bodyPost_ret (v := .agg #[.bool (!neg && decide (0 < xs.length)), .slice a1 xs.length c1]) (by simp [results, Try.results47, go_sem, hr2a, hr2b]) rfl ⟨⟨a1, c1, rfl, ?_⟩, ?_⟩
  · exact own_set (B0 := w.heap.size + 2) (own_set (B := w.heap.size + 2) (B0 := w.heap.size + 2) ((ho1.mono (B' := w.heap.size + 2) (by simp)).below hb2 (Nat.le_refl _)) (by dsimp only; omega) _ (Nat.le_refl _)) (by dsimp only; omega) _ (by omega)
  · exact (((hb0.drew.trans (hb1.mono (by simp; omega))).trans (hb2.mono (by omega))).setCell (by dsimp only; omega) _).setCell (by dsimp only; omega) _
end Go.Proofs.Ytcibccaimjifmaa
