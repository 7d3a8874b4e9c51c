/- The walk of intNeg (program). -/
import Derived.Test.YtmakcgiekfcofaaWSigned
import Derived.Deep.RegionHeld3
namespace Go.Proofs.Ytmakcgiekfcofaa
open Go.RowKit
theorem keep2 {W w1 : World} {b : Nat} {u v : Value} (hb : Below W.heap.size W w1) (hlt : b < W.heap.size) (h0 : W.cell? ⟨b, 0, none⟩ = some u) (h1 : W.cell? ⟨b, 1, none⟩ = some v) :
    w1.cell? ⟨b, 0, none⟩ = some u ∧ w1.cell? ⟨b, 1, none⟩ = some v :=
  ⟨(hb.cell (p := ⟨b, 0, none⟩) hlt).trans h0, (hb.cell (p := ⟨b, 1, none⟩) hlt).trans h1⟩
theorem keepf {W w1 : World} {b : Nat} (hb : Below W.heap.size W w1) (hlt : b < W.heap.size) (h0 : W.frozen? ⟨b, 0, none⟩ = false) (h1 : W.frozen? ⟨b, 1, none⟩ = false) :
    w1.frozen? ⟨b, 0, none⟩ = false ∧ w1.frozen? ⟨b, 1, none⟩ = false :=
  ⟨(hb.frozen (p := ⟨b, 0, none⟩) hlt).trans h0, (hb.frozen (p := ⟨b, 1, none⟩) hlt).trans h1⟩
end Go.Proofs.Ytmakcgiekfcofaa
