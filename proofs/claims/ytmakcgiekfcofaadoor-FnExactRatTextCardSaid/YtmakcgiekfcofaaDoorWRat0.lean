/- The walks of the laws' helpers for fractions (toRat, eqRat, markRat, heldRat, szRat) and of RatZero. -/
import Derived.Test.YtmakcgiekfcofaaDoorWIntOk
import Derived.Test.YtmakcgiekfcofaaDoorWDivMem
namespace Go.Proofs.YtmakcgiekfcofaaDoor
open Go.RowKit
theorem eqRat_same (neg : Bool) (a a' : Option Addr) (ca ca' : Nat) (xs : List Int) (b b' : Option Addr) (cb cb' : Nat) (ys : List Int) (w : World) (hx : Rd w a xs) (hx' : Rd w a' xs) (hy : Rd w b ys) (hy' : Rd w b' ys) (lx : xs.length ≤ 1099511627776) (ly : ys.length ≤ 1099511627776) :
    Calls Tryd.prog 31 #[.agg #[.bool neg, .slice a xs.length ca, .slice b ys.length cb], .agg #[.bool neg, .slice a' xs.length ca', .slice b' ys.length cb']] w fun e w' => e = .returned (.bool true) ∧ Below w.heap.size w w' := by
  have hA := (bel_alloc w (.cells #[.bool neg, .slice a xs.length ca, .slice b ys.length cb] 46)).trans ((bel_alloc _ (.cells #[.bool neg, .slice a' xs.length ca', .slice b' ys.length cb'] 46)).mono (by simp))
  go_enter Tryd.func31, Tryd.ntmps31
  go_wp2_with fail
  refine (eqSigned_same _ _ _ _ _ _ _ (hx.below hA (Nat.le_refl _)) (hx'.below hA (Nat.le_refl _)) lx).mono ?_
  rintro e w1 ⟨rfl, hb1⟩
  have hB := hA.trans (hb1.mono hA.size)
  obtain ⟨hc, hf⟩ := bcell hb1
  have h1 := Lib.hid (hy.below hB (Nat.le_refl _))
  have h2 := Lib.hid (hy'.below hB (Nat.le_refl _))
  go_wp2_with fail
  refine (eqIntS_same _ _ _ _ _ _ h1.out h2.out ly).mono ?_
  rintro e w2 ⟨rfl, hb2⟩
  have hC := hB.trans (hb2.mono hB.size)
  go_wp2
  go_ret
  exact ⟨rfl, hC⟩
def fRatZero : Bool × List Int × List Int := (false, [], [1])
/-- the program's fraction: two slices of the call's own in blocks of their own -/
def RatPost (w : World) (F : Bool × List Int × List Int) (e : Ending) (w' : World) : Prop :=
  (∃ a c b d lo up lo' up', e = .returned (.agg #[.bool F.1, .slice a F.2.1.length c, .slice b F.2.2.length d]) ∧ Slot w' lo up a c F.2.1 ∧ F.2.1.length ≤ 50 ∧ Slot w' lo' up' b d F.2.2 ∧ F.2.2.length ≤ 50 ∧ w.heap.size ≤ lo ∧ w.heap.size ≤ lo' ∧ (up ≤ lo' ∨ up' ≤ lo)) ∧ Below w.heap.size w w'
def SRatPost (w : World) (F : Bool × List Int × List Int) (e : Ending) (w' : World) : Prop :=
  (∃ a c b d, e = .returned (.agg #[.bool F.1, .slice a F.2.1.length c, .slice b F.2.2.length d]) ∧ Own w' w.heap.size a c F.2.1 ∧ F.2.1.length ≤ 50 ∧ Own w' w.heap.size b d F.2.2 ∧ F.2.2.length ≤ 50) ∧ Below w.heap.size w w'
theorem ownLit1 (w : World) (B : Nat) (x : Int) (hB : B ≤ w.heap.size) : Own (w.alloc (.cells #[.int .i64 x] 3)) B (some ⟨w.heap.size, 0, none⟩) 1 [x] :=
  World.ownsRow_lit w #[.int .i64 x] 1 hB (by unfold maxLen; omega) rfl
theorem rzBelow (w : World) (o o2 : Obj) : Below w.heap.size w ((w.alloc o).alloc o2) := (bel_alloc w o).trans ((bel_alloc _ o2).mono (by simp))
end Go.Proofs.YtmakcgiekfcofaaDoor
