/- The walks of the laws' helpers for fractions (szRat, toRat); a fraction that a caller hands in, opened. -/
import Derived.Test.YtmakcgiekfcofaaWRat0
import Derived.Test.YtmakcgiekfcofaaReg
import Derived.ProofKit
import Derived.OpenShut
import Derived.Lib.SmallJoins
namespace Go.Proofs.Ytmakcgiekfcofaa
open Go.RowKit Go.ChangeShapes Go.WideShapes Go.ChangeAt
theorem Slot.le {w : World} {lo hi : Nat} {a : Option Addr} {cap : Nat} {xs : List Int} (h : Slot w lo hi a cap xs) : xs.length ≤ cap := by
  rcases h.2 with rfl | h
  · exact Nat.zero_le _
  · exact h.1.le
theorem Slot.inn {w : World} {lo hi : Nat} {a : Option Addr} {cap : Nat} {xs : List Int} (h : Slot w lo hi a cap xs) (hl : xs.length ≤ 1099511627776) : In w a cap xs := ⟨h.rd, h.le, hl⟩
theorem Slot.mono {w : World} {lo hi hi2 : Nat} {a : Option Addr} {cap : Nat} {xs : List Int} (h : Slot w lo hi a cap xs) (h1 : hi ≤ hi2) (h2 : hi2 ≤ w.heap.size) : Slot w lo hi2 a cap xs := by
  refine ⟨h2, ?_⟩
  rcases h.2 with h | ⟨h, hp⟩
  · exact .inl h
  · refine .inr ⟨h, fun p e => ?_⟩
    have := hp p e
    omega
theorem Slot.setOut {w : World} {lo hi : Nat} {a : Option Addr} {cap : Nat} {xs : List Int} (h : Slot w lo hi a cap xs) {p : Addr} (hp : p.block < lo) (v : Value) : Slot (w.setCell p v) lo hi a cap xs := by
  refine ⟨by simpa [World.setCell] using h.1, ?_⟩
  rcases h.2 with h | ⟨h, hq⟩
  · exact .inl h
  · exact .inr ⟨own_set h hp v (Nat.le_refl _), hq⟩
end Go.Proofs.Ytmakcgiekfcofaa
