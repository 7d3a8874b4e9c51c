/- The walks of IntOk, intsOk, signed and of the laws' helpers on signed integers. For every slice within the reach. -/
import Derived.Test.YthjcdcmhgghliaaWTrim
import Derived.Test.YthjcdcmhgghliaaWEqInt
import Derived.Test.YthjcdcmhgghliaaWMark
namespace Go.Proofs.Ythjcdcmhgghliaa
open Go.RowKit
theorem bcell {W w1 : World} (hb : Below W.heap.size W w1) : (∀ b o, b < W.heap.size → w1.cell? ⟨b, o, none⟩ = W.cell? ⟨b, o, none⟩) ∧ (∀ b o, b < W.heap.size → w1.frozen? ⟨b, o, none⟩ = W.frozen? ⟨b, o, none⟩) :=
  ⟨fun b o h => hb.cell (p := ⟨b, o, none⟩) h, fun b o h => hb.frozen (p := ⟨b, o, none⟩) h⟩
def intB (neg : Bool) (xs : List Int) : Bool := natB xs && (!neg || decide (0 < xs.length))
theorem In.alloc {w : World} {a : Option Addr} {c : Nat} {xs : List Int} (h : In w a c xs) (o : Obj) : In (w.alloc o) a c xs := h.below ((Below.refl _ _).alloc (Nat.le_refl _) o) (Nat.le_refl _)
theorem bel_alloc (w : World) (o : Obj) : Below w.heap.size w (w.alloc o) := (Below.refl _ _).alloc (Nat.le_refl _) o

/-- a store below the block of what is owned -/
theorem own_set {w : World} {B B0 : Nat} {a : Option Addr} {cap : Nat} {xs : List Int} (h : Own w B0 a cap xs) {p : Addr} (hp : p.block < B0) (u : Value) (hB : B ≤ B0) : Own (w.setCell p u) B a cap xs :=
  Own.mono (show Own (w.setCell p u) B0 a cap xs from ownsRow_setCell_below h hp u) hB
theorem eqSigned_same (neg : Bool) (a b : Option Addr) (ca cb : Nat) (xs : List Int) (w : World) (hx : Rd w a xs) (hy : Rd w b xs) (lx : xs.length ≤ 1099511627776) :
    Calls Try.prog 46 #[.agg #[.bool neg, .slice a xs.length ca], .agg #[.bool neg, .slice b xs.length cb]] w fun e w' => e = .returned (.bool true) ∧ Below w.heap.size w w' := by
  have hA := (bel_alloc w (.cells #[.bool neg, .slice a xs.length ca] 36)).trans ((bel_alloc _ (.cells #[.bool neg, .slice b xs.length cb] 36)).mono (by simp))
  go_enter Try.func46, Try.ntmps46
  go_wp2_with fail
  refine (eqIntS_same _ _ _ _ _ _ (hx.below hA (Nat.le_refl _)) (hy.below hA (Nat.le_refl _)) lx).mono ?_
  rintro e w1 ⟨rfl, hb1⟩
  have hB := hA.trans (hb1.mono hA.size)
  go_wp2
  go_ret
  exact ⟨rfl, hB⟩
theorem markSigned_any (lo hi : Nat) (neg : Bool) (a : Option Addr) (cap : Nat) (xs : List Int) (k : Int) (w : World) (h : Slot w lo hi a cap xs) (hl : xs.length ≤ 1099511627776) (hk : 0 ≤ k ∧ k ≤ 1099511627776) :
    Calls Try.prog 47 #[.agg #[.bool neg, .slice a xs.length cap], .int .i64 k] w fun e w' => e = .returned (.int .i64 (k + xs.length)) ∧ Slot w' lo hi a cap (marks k xs.length) ∧ Wr w w' lo hi := by
  have hA := bel_alloc w (.cells #[.bool neg, .slice a xs.length cap] 36)
  go_enter Try.func47, Try.ntmps47
  go_wp2_with fail
  refine (markIntS_any lo hi _ _ _ _ _ (h.below hA h.1) hl hk).mono ?_
  rintro e w1 ⟨rfl, hs, hw⟩
  have hW := (Wr.of hA lo hi).trans hw
  go_wp2
  go_ret
  exact ⟨rfl, hs, hW⟩
theorem heldSigned_any (neg : Bool) (a : Option Addr) (cap n : Nat) (k : Int) (w : World) (h : Rd w a (marks k n)) (hl : n ≤ 1099511627776) (hk : 0 ≤ k ∧ k ≤ 1099511627776) :
    Calls Try.prog 48 #[.agg #[.bool neg, .slice a n cap], .int .i64 k] w fun e w' => e = .returned (.int .i64 (k + n)) ∧ Below w.heap.size w w' := by
  have hA := bel_alloc w (.cells #[.bool neg, .slice a n cap] 36)
  have h0 : 0 ≤ k + (n : Int) := by omega
  go_enter Try.func48, Try.ntmps48
  go_wp2_with fail
  refine (heldIntS_any _ _ _ _ _ (h.below hA (Nat.le_refl _)) hl hk).mono ?_
  rintro e w1 ⟨rfl, rfl⟩
  go_wp2
  go_ret
  exact ⟨rfl, hA⟩
end Go.Proofs.Ythjcdcmhgghliaa
