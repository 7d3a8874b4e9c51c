/- The walks of the laws' helpers for fractions (toRat, eqRat, markRat, heldRat, szRat) and of RatZero. -/
import Derived.Test.YtmakcgiekfcofaaWIntOk
import Derived.Test.YtmakcgiekfcofaaWDivMem
namespace Go.Proofs.Ytmakcgiekfcofaa
open Go.RowKit
theorem eqRat_same (neg : Bool) (a a' : Option Addr) (ca ca' : Nat) (xs : List Int) (b b' : Option Addr) (cb cb' : Nat) (ys : List Int) (w : World) (hx : Rd w a xs) (hx' : Rd w a' xs) (hy : Rd w b ys) (hy' : Rd w b' ys) (lx : xs.length ≤ 1099511627776) (ly : ys.length ≤ 1099511627776) :
    Calls Try.prog 7 #[.agg #[.bool neg, .slice a xs.length ca, .slice b ys.length cb], .agg #[.bool neg, .slice a' xs.length ca', .slice b' ys.length cb']] w fun e w' => e = .returned (.bool true) ∧ Below w.heap.size w w' := by
  have hA := (bel_alloc w (.cells #[.bool neg, .slice a xs.length ca, .slice b ys.length cb] 26)).trans ((bel_alloc _ (.cells #[.bool neg, .slice a' xs.length ca', .slice b' ys.length cb'] 26)).mono (by simp))
  go_enter Try.func7, Try.ntmps7
  go_wp2_with fail
  refine (eqSigned_same _ _ _ _ _ _ _ (hx.below hA (Nat.le_refl _)) (hx'.below hA (Nat.le_refl _)) lx).mono ?_
  rintro e w1 ⟨rfl, hb1⟩
  have hB := hA.trans (hb1.mono hA.size)
  obtain ⟨hc, hf⟩ := bcell hb1
  have h1 := Lib.hid (hy.below hB (Nat.le_refl _))
  have h2 := Lib.hid (hy'.below hB (Nat.le_refl _))
  go_wp2_with fail
  refine (eqIntS_same _ _ _ _ _ _ h1.out h2.out ly).mono ?_
  rintro e w2 ⟨rfl, hb2⟩
  have hC := hB.trans (hb2.mono hB.size)
  go_wp2
  go_ret
  exact ⟨rfl, hC⟩
theorem markRat_any (lo hi lo2 hi2 : Nat) (neg : Bool) (a : Option Addr) (cap : Nat) (xs : List Int) (b : Option Addr) (cap2 : Nat) (ys : List Int) (k : Int) (w : World) (h : Slot w lo hi a cap xs) (h2 : Slot w lo2 hi2 b cap2 ys) (hd : hi ≤ lo2 ∨ hi2 ≤ lo)
    (hl : xs.length ≤ 1048576) (hl2 : ys.length ≤ 1048576) (hk : 0 ≤ k ∧ k ≤ 1000000000000) :
    Calls Try.prog 8 #[.agg #[.bool neg, .slice a xs.length cap, .slice b ys.length cap2], .int .i64 k] w fun e w' => e = .returned (.int .i64 (k + xs.length + ys.length)) ∧ ∃ wm, Slot w' lo hi a cap (marks k xs.length) ∧ Slot w' lo2 hi2 b cap2 (marks (k + xs.length) ys.length) ∧ Wr w wm lo hi ∧ Wr wm w' lo2 hi2 := by
  have hA := bel_alloc w (.cells #[.bool neg, .slice a xs.length cap, .slice b ys.length cap2] 26)
  have hs := h.1
  have hs2 := h2.1
  go_enter Try.func8, Try.ntmps8
  go_wp2_with fail
  refine (markSigned_any lo hi _ _ _ _ _ _ (h.below hA h.1) (by omega) (by omega)).mono ?_
  rintro e w1 ⟨rfl, hs1, hw1⟩
  have hc0 := cell_keep_wr hw1 (cell_box w #[.bool neg, .slice a xs.length cap, .slice b ys.length cap2] 26 _ 2 _ rfl rfl) (by omega)
  have h2' := (h2.below hA h2.1).wr hw1 (by omega)
  have hWA := (Wr.of hA lo hi).trans hw1
  go_wp2_with fail
  refine (markIntS_any lo2 hi2 _ _ _ _ _ h2' (by omega) (by omega)).mono ?_
  rintro e w2 ⟨rfl, hs3, hw2⟩
  have hs4 := hs1.wr hw2 (by omega)
  go_wp2
  go_ret
  exact ⟨rfl, w1, hs4, hs3, hWA, hw2⟩
theorem heldRat_any (neg : Bool) (a : Option Addr) (cap n : Nat) (b : Option Addr) (cap2 n2 : Nat) (k : Int) (w : World) (h : Rd w a (marks k n)) (h2 : Rd w b (marks (k + n) n2)) (hl : n ≤ 1048576) (hl2 : n2 ≤ 1048576) (hk : 0 ≤ k ∧ k ≤ 1048576) :
    Calls Try.prog 9 #[.agg #[.bool neg, .slice a n cap, .slice b n2 cap2], .int .i64 k] w fun e w' => e = .returned (.int .i64 (k + n + n2)) ∧ Below w.heap.size w w' := by
  have hA := bel_alloc w (.cells #[.bool neg, .slice a n cap, .slice b n2 cap2] 26)
  have h0 : 0 ≤ k + (n : Int) := by omega
  have h1 : 0 ≤ k + (n : Int) + (n2 : Int) := by omega
  have H2 := Lib.hid (h2.below hA (Nat.le_refl _))
  go_enter Try.func9, Try.ntmps9
  go_wp2_with fail
  refine (heldSigned_any _ _ _ _ _ _ (h.below hA (Nat.le_refl _)) (by omega) (by omega)).mono ?_
  rintro e w1 ⟨rfl, hb1⟩
  have hB := hA.trans (hb1.mono hA.size)
  obtain ⟨hc, hf⟩ := bcell hb1
  have H3 := Lib.hid (H2.out.below hb1 (Nat.le_refl _))
  go_wp2_with fail
  refine (heldIntS_any _ _ _ _ _ H3.out (by omega) (by omega)).mono ?_
  rintro e w2 ⟨rfl, rfl⟩
  go_wp2
  go_ret
  exact ⟨rfl, hB⟩
def fRatZero : Bool × List Int × List Int := (false, [], [1])
/-- the program's fraction: two slices of the call's own in blocks of their own -/
def RatPost (w : World) (F : Bool × List Int × List Int) (e : Ending) (w' : World) : Prop :=
  (∃ a c b d lo up lo' up', e = .returned (.agg #[.bool F.1, .slice a F.2.1.length c, .slice b F.2.2.length d]) ∧ Slot w' lo up a c F.2.1 ∧ F.2.1.length ≤ 50 ∧ Slot w' lo' up' b d F.2.2 ∧ F.2.2.length ≤ 50 ∧ w.heap.size ≤ lo ∧ w.heap.size ≤ lo' ∧ (up ≤ lo' ∨ up' ≤ lo)) ∧ Below w.heap.size w w'
def SRatPost (w : World) (F : Bool × List Int × List Int) (e : Ending) (w' : World) : Prop :=
  (∃ a c b d, e = .returned (.agg #[.bool F.1, .slice a F.2.1.length c, .slice b F.2.2.length d]) ∧ Own w' w.heap.size a c F.2.1 ∧ F.2.1.length ≤ 50 ∧ Own w' w.heap.size b d F.2.2 ∧ F.2.2.length ≤ 50) ∧ Below w.heap.size w w'
theorem ownLit1 (w : World) (B : Nat) (x : Int) (hB : B ≤ w.heap.size) : Own (w.alloc (.cells #[.int .i64 x] 3)) B (some ⟨w.heap.size, 0, none⟩) 1 [x] :=
  World.ownsRow_lit w #[.int .i64 x] 1 hB (by unfold maxLen; omega) rfl
theorem rzBelow (w : World) (o o2 : Obj) : Below w.heap.size w ((w.alloc o).alloc o2) := (bel_alloc w o).trans ((bel_alloc _ o2).mono (by simp))
end Go.Proofs.Ytmakcgiekfcofaa
