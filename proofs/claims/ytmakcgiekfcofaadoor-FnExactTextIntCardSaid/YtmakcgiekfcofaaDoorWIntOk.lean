/- The walks of IntOk, intsOk, signed and of the laws' helpers on signed integers. For every slice within the reach. -/
import Derived.Test.YtmakcgiekfcofaaDoorWTrim
import Derived.Test.YtmakcgiekfcofaaDoorWEqInt
import Derived.Test.YtmakcgiekfcofaaDoorWMark
namespace Go.Proofs.YtmakcgiekfcofaaDoor
open Go.RowKit
theorem bcell {W w1 : World} (hb : Below W.heap.size W w1) : (∀ b o, b < W.heap.size → w1.cell? ⟨b, o, none⟩ = W.cell? ⟨b, o, none⟩) ∧ (∀ b o, b < W.heap.size → w1.frozen? ⟨b, o, none⟩ = W.frozen? ⟨b, o, none⟩) :=
  ⟨fun b o h => hb.cell (p := ⟨b, o, none⟩) h, fun b o h => hb.frozen (p := ⟨b, o, none⟩) h⟩
def intB (neg : Bool) (xs : List Int) : Bool := natB xs && (!neg || decide (0 < xs.length))
theorem In.alloc {w : World} {a : Option Addr} {c : Nat} {xs : List Int} (h : In w a c xs) (o : Obj) : In (w.alloc o) a c xs := h.below ((Below.refl _ _).alloc (Nat.le_refl _) o) (Nat.le_refl _)
theorem bel_alloc (w : World) (o : Obj) : Below w.heap.size w (w.alloc o) := (Below.refl _ _).alloc (Nat.le_refl _) o

theorem spec_IntOk (neg : Bool) (a : Option Addr) (c : Nat) (xs : List Int) (w : World) (hx : In w a c xs) :
    Calls Tryd.prog 40 #[.agg #[.bool neg, .slice a xs.length c]] w fun e w' => e = .returned (.bool (intB neg xs)) ∧ Below w.heap.size w w' := by
  have hl := hx.2.2
  cases h1 : natB xs
  · have H := Lib.hid (show intB neg xs = false by unfold intB; rw [h1]; rfl)
    go_enter Tryd.func40, Tryd.ntmps40
    go_wp2_with fail
    refine (spec_NatOk _ _ _ _ (hx.alloc _).1 hx.maxLen).mono ?_
    rintro e w' ⟨rfl, rfl⟩
    go_wp2
    go_ret
    exact ⟨ret_bool H.out.symm, bel_alloc _ _⟩
  · have H := Lib.hid (show intB neg xs = (!neg || decide (0 < xs.length)) by unfold intB; rw [h1]; rfl)
    cases neg
    all_goals
      go_enter Tryd.func40, Tryd.ntmps40
      go_wp2_with fail
      refine (spec_NatOk _ _ _ _ (hx.alloc _).1 hx.maxLen).mono ?_
      rintro e w' ⟨rfl, rfl⟩
      go_wp2
      go_ret
      exact ⟨ret_bool (by rw [H.out]; simp), bel_alloc _ _⟩
theorem impl_IntOk (neg : Bool) (a : Option Addr) (c : Nat) (xs : List Int) (w : World) (hx : In w a c xs) :
    Calls Tryd.prog 41 #[.agg #[.bool neg, .slice a xs.length c]] w fun e w' => e = .returned (.bool (intB neg xs)) ∧ Below w.heap.size w w' := by
  have hl := hx.2.2
  cases h1 : natB xs
  · have H := Lib.hid (show intB neg xs = false by unfold intB; rw [h1]; rfl)
    go_enter Tryd.func41, Tryd.ntmps41
    go_wp2_with fail
    refine (impl_NatOk _ _ _ _ (hx.alloc _).1 hx.maxLen).mono ?_
    rintro e w' ⟨rfl, rfl⟩
    go_wp2
    go_ret
    exact ⟨ret_bool H.out.symm, bel_alloc _ _⟩
  · have H := Lib.hid (show intB neg xs = (!neg || decide (0 < xs.length)) by unfold intB; rw [h1]; rfl)
    cases neg
    all_goals
      go_enter Tryd.func41, Tryd.ntmps41
      go_wp2_with fail
      refine (impl_NatOk _ _ _ _ (hx.alloc _).1 hx.maxLen).mono ?_
      rintro e w' ⟨rfl, rfl⟩
      go_wp2
      go_ret
      exact ⟨ret_bool (by rw [H.out]; simp), bel_alloc _ _⟩
theorem szIntS_yes (a : Option Addr) (c : Nat) (xs : List Int) (left : Int) (w : World) (hl : left ≤ 1048576) (hx : (xs.length : Int) ≤ left) :
    Calls Tryd.prog 39 #[.slice a xs.length c, .int .i64 left] w fun e w' => e = .returned (.int .i64 (left - xs.length)) ∧ w = w' := by
  have h2 : 0 ≤ left - (xs.length : Int) := by omega
  go_enter Tryd.func39, Tryd.ntmps39
  go_wp2
  go_ret
  exact ⟨rfl, rfl⟩
theorem szIntS_no (a : Option Addr) (c : Nat) (xs : List Int) (left : Int) (w : World) (hl0 : 0 ≤ left) (hl : left ≤ 1048576) (hx : left < (xs.length : Int)) (hm : xs.length ≤ maxLen) :
    Calls Tryd.prog 39 #[.slice a xs.length c, .int .i64 left] w fun e w' => e = .returned (.int .i64 (-1)) ∧ w = w' := by
  unfold maxLen at hm
  have h2 : left - (xs.length : Int) < 0 := by omega
  go_enter Tryd.func39, Tryd.ntmps39
  go_wp2
  go_ret
  exact ⟨rfl, rfl⟩
theorem szSigned_yes (neg : Bool) (a : Option Addr) (c : Nat) (xs : List Int) (left : Int) (w : World) (hl : left ≤ 1048576) (hx : (xs.length : Int) ≤ left) :
    Calls Tryd.prog 22 #[.agg #[.bool neg, .slice a xs.length c], .int .i64 left] w fun e w' => e = .returned (.int .i64 (left - xs.length)) ∧ Below w.heap.size w w' := by
  have h2 : 0 ≤ left - (xs.length : Int) := by omega
  go_enter Tryd.func22, Tryd.ntmps22
  go_wp2_with fail
  refine (szIntS_yes _ _ _ _ _ hl hx).mono ?_
  rintro e w' ⟨rfl, rfl⟩
  go_wp2
  go_ret
  exact ⟨rfl, bel_alloc _ _⟩
theorem szSigned_no (neg : Bool) (a : Option Addr) (c : Nat) (xs : List Int) (left : Int) (w : World) (hl0 : 0 ≤ left) (hl : left ≤ 1048576) (hx : left < (xs.length : Int)) (hm : xs.length ≤ maxLen) :
    Calls Tryd.prog 22 #[.agg #[.bool neg, .slice a xs.length c], .int .i64 left] w fun e w' => e = .returned (.int .i64 (-1)) ∧ Below w.heap.size w w' := by
  go_enter Tryd.func22, Tryd.ntmps22
  go_wp2_with fail
  refine (szIntS_no _ _ _ _ _ hl0 hl hx hm).mono ?_
  rintro e w' ⟨rfl, rfl⟩
  go_wp2
  go_ret
  exact ⟨rfl, bel_alloc _ _⟩
/-- a store below the block of what is owned -/
theorem own_set {w : World} {B B0 : Nat} {a : Option Addr} {cap : Nat} {xs : List Int} (h : Own w B0 a cap xs) {p : Addr} (hp : p.block < B0) (u : Value) (hB : B ≤ B0) : Own (w.setCell p u) B a cap xs :=
  Own.mono (show Own (w.setCell p u) B0 a cap xs from ownsRow_setCell_below h hp u) hB
set_option maxHeartbeats 800000 in
theorem toSigned_any (neg : Bool) (a : Option Addr) (c : Nat) (xs : List Int) (w : World) (hx : Rd w a xs) (lx : xs.length ≤ 17592186044416) :
    Calls Tryd.prog 24 #[.agg #[.bool neg, .slice a xs.length c]] w fun e w' => (∃ a' c', e = .returned (.agg #[.bool neg, .slice a' xs.length c']) ∧ Own w' w.heap.size a' c' xs) ∧ Below w.heap.size w w' := by
  go_enter Tryd.func24, Tryd.ntmps24
  go_wp2_with fail
  refine (toIntS_any _ _ _ _ (((hx.below (bel_alloc _ _) (Nat.le_refl _)).below (bel_alloc _ _) (Nat.le_refl _)).below (bel_alloc _ _) (Nat.le_refl _)) lx).mono ?_
  rintro e w1 ⟨⟨a1, c1, rfl, ho1⟩, hb1⟩
  obtain ⟨hc, hf⟩ := bcell hb1
  have hz := hb1.size
  simp only [World.size_alloc] at hz
  go_wp2
  have hbw := (((bel_alloc w (.cells #[.bool neg, .slice a xs.length c] 34)).trans ((bel_alloc _ (.cells #[.bool false, .slice none 0 0] 37)).mono (by simp))).trans ((bel_alloc _ (.cells #[.bool neg, .slice none 0 0] 37)).mono (by simp; omega))).trans (hb1.mono (by simp; omega))
  refine bodyPost_ret (v := .agg #[.bool neg, .slice a1 xs.length c1]) (by simp [results, Tryd.results24, go_sem, hc]) rfl ⟨⟨a1, c1, rfl, ?_⟩, ?_⟩
  · have ho2 : Own w1 (w.heap.size + 1 + 1 + 1) a1 c1 xs := Own.mono ho1 (by simp)
    exact own_set (own_set (own_set ho2 (by dsimp only; omega) _ (Nat.le_refl _)) (by dsimp only; omega) _ (Nat.le_refl _)) (by dsimp only; omega) _ (by omega)
  · exact ((hbw.setCell (by dsimp only; omega) _).setCell (by dsimp only; omega) _).setCell (by dsimp only; omega) _
theorem eqSigned_same (neg : Bool) (a b : Option Addr) (ca cb : Nat) (xs : List Int) (w : World) (hx : Rd w a xs) (hy : Rd w b xs) (lx : xs.length ≤ 1099511627776) :
    Calls Tryd.prog 26 #[.agg #[.bool neg, .slice a xs.length ca], .agg #[.bool neg, .slice b xs.length cb]] w fun e w' => e = .returned (.bool true) ∧ Below w.heap.size w w' := by
  have hA := (bel_alloc w (.cells #[.bool neg, .slice a xs.length ca] 37)).trans ((bel_alloc _ (.cells #[.bool neg, .slice b xs.length cb] 37)).mono (by simp))
  go_enter Tryd.func26, Tryd.ntmps26
  go_wp2_with fail
  refine (eqIntS_same _ _ _ _ _ _ (hx.below hA (Nat.le_refl _)) (hy.below hA (Nat.le_refl _)) lx).mono ?_
  rintro e w1 ⟨rfl, hb1⟩
  have hB := hA.trans (hb1.mono hA.size)
  go_wp2
  go_ret
  exact ⟨rfl, hB⟩
end Go.Proofs.YtmakcgiekfcofaaDoor
