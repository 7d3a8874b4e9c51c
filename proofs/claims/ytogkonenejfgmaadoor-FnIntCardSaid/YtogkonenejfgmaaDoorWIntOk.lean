/- The walks of IntOk, intsOk, signed and of the laws' helpers on signed integers. For every slice within the reach. -/
import Derived.Test.YtogkonenejfgmaaDoorWTrim
import Derived.Test.YtogkonenejfgmaaDoorWEqInt
import Derived.Test.YtogkonenejfgmaaDoorWMark
namespace Go.Proofs.YtogkonenejfgmaaDoor
open Go.RowKit
theorem bcell {W w1 : World} (hb : Below W.heap.size W w1) : (∀ b o, b < W.heap.size → w1.cell? ⟨b, o, none⟩ = W.cell? ⟨b, o, none⟩) ∧ (∀ b o, b < W.heap.size → w1.frozen? ⟨b, o, none⟩ = W.frozen? ⟨b, o, none⟩) :=
  ⟨fun b o h => hb.cell (p := ⟨b, o, none⟩) h, fun b o h => hb.frozen (p := ⟨b, o, none⟩) h⟩
def intB (neg : Bool) (xs : List Int) : Bool := natB xs && (!neg || decide (0 < xs.length))
theorem In.alloc {w : World} {a : Option Addr} {c : Nat} {xs : List Int} (h : In w a c xs) (o : Obj) : In (w.alloc o) a c xs := h.below ((Below.refl _ _).alloc (Nat.le_refl _) o) (Nat.le_refl _)
theorem bel_alloc (w : World) (o : Obj) : Below w.heap.size w (w.alloc o) := (Below.refl _ _).alloc (Nat.le_refl _) o

theorem impl_IntOk (neg : Bool) (a : Option Addr) (c : Nat) (xs : List Int) (w : World) (hx : In w a c xs) :
    Calls Tryd.prog 67 #[.agg #[.bool neg, .slice a xs.length c]] w fun e w' => e = .returned (.bool (intB neg xs)) ∧ Below w.heap.size w w' := by
  have hl := hx.2.2
  cases h1 : natB xs
  · have H := Lib.hid (show intB neg xs = false by unfold intB; rw [h1]; rfl)
    go_enter Tryd.func67, Tryd.ntmps67
    go_wp2_with fail
    refine (impl_NatOk _ _ _ _ (hx.alloc _).1 hx.maxLen).mono ?_
    rintro e w' ⟨rfl, rfl⟩
    go_wp2
    go_ret
    exact ⟨ret_bool H.out.symm, bel_alloc _ _⟩
  · have H := Lib.hid (show intB neg xs = (!neg || decide (0 < xs.length)) by unfold intB; rw [h1]; rfl)
    cases neg
    all_goals
      go_enter Tryd.func67, Tryd.ntmps67
      go_wp2_with fail
      refine (impl_NatOk _ _ _ _ (hx.alloc _).1 hx.maxLen).mono ?_
      rintro e w' ⟨rfl, rfl⟩
      go_wp2
      go_ret
      exact ⟨ret_bool (by rw [H.out]; simp), bel_alloc _ _⟩
/-- a store below the block of what is owned -/
theorem own_set {w : World} {B B0 : Nat} {a : Option Addr} {cap : Nat} {xs : List Int} (h : Own w B0 a cap xs) {p : Addr} (hp : p.block < B0) (u : Value) (hB : B ≤ B0) : Own (w.setCell p u) B a cap xs :=
  Own.mono (show Own (w.setCell p u) B0 a cap xs from ownsRow_setCell_below h hp u) hB
theorem intsOk_any (n1 n2 : Bool) (a b : Option Addr) (ca cb : Nat) (xs ys : List Int) (w : World) (hx : In w a ca xs) (hy : In w b cb ys) :
    Calls Tryd.prog 69 #[.agg #[.bool n1, .slice a xs.length ca], .agg #[.bool n2, .slice b ys.length cb]] w fun e w' => e = .returned (.bool (intB n1 xs && intB n2 ys)) ∧ Below w.heap.size w w' := by
  have hA := (bel_alloc w (.cells #[.bool n1, .slice a xs.length ca] 49)).trans ((bel_alloc _ (.cells #[.bool n2, .slice b ys.length cb] 49)).mono (by simp))
  have hxA := Lib.hid (hx.below hA (Nat.le_refl _))
  have hyA := Lib.hid (hy.below hA (Nat.le_refl _))
  cases h1 : intB n1 xs
  · go_enter Tryd.func69, Tryd.ntmps69
    go_wp2_with fail
    refine (impl_IntOk _ _ _ _ _ hxA.out).mono ?_
    rintro e w1 ⟨rfl, hb1⟩
    have hB := hA.trans (hb1.mono hA.size)
    go_wp2
    go_ret
    exact ⟨rfl, hB⟩
  · go_enter Tryd.func69, Tryd.ntmps69
    go_wp2_with fail
    refine (impl_IntOk _ _ _ _ _ hxA.out).mono ?_
    rintro e w1 ⟨rfl, hb1⟩
    have hB := hA.trans (hb1.mono hA.size)
    have hyB := hyA.out.below hb1 (Nat.le_refl _)
    obtain ⟨hc, hf⟩ := bcell hb1
    go_wp2_with fail
    refine (impl_IntOk _ _ _ _ _ hyB).mono ?_
    rintro e w2 ⟨rfl, hb2⟩
    have hC := hB.trans (hb2.mono hB.size)
    go_wp2
    go_ret
    exact ⟨rfl, hC⟩
end Go.Proofs.YtogkonenejfgmaaDoor
