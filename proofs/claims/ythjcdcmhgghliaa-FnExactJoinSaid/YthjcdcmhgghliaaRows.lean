/-
  No cell of these rows narrows 'for every input' (looked for: loops, veiled, ifaces, maps, wideKeys, modest, calm, conditions, laid).
  DERIVED. THE GIVEN ROWS OF THIS SEAT. 9 by the template 'for every input the law returns true; each argument reads behind the call as it read before'; 0 by the template 'total and deterministic' (their statements: YthjcdcmhgghliaaTotals.lean).
  GIVEN WITH THE SEED: the statements are not yours to turn. If you find one false, say at which input.
  Laid BY PROGRAM, IN A SANDBOX (cutbox-rows.mjs): the forced cells as the released guide's own fill.sh prints them over the translation 39f0451ba1931d31… (all of the seat's roots in one cut). By AI agents, Wed Nov 11 2026. No macro, syntax, notation, axiom, sorry.
-/
import Derived.Test.YthjcdcmhgghliaaChecked
import GoSem.Claim
import GoSem.ClaimJoined
import GoSem.ClaimMapViews
import Derived.JoinedTies
import Derived.KernelRfl
namespace Go.Proofs.Ythjcdcmhgghliaa
/- THE CELL 'sum', in the pinned program and in every row, IS THE sha256 OF THE DUMP (.gsa) THAT YthjcdcmhgghliaaProg.lean LOADS. Nothing in Lean hashes anything: it is a label: what it is worth is what the hold of that sum in a sandbox is worth. -/
noncomputable def Try.pinned : Pinned := { name := "ythjcdcmhgghliaa", sum := "39f0451ba1931d31e0e1fe95cd37be7ec673c00d60be3d74b1021eec526f3b23", checked := Try.checked }
namespace Rows
def none {H : Type} : Left H := { results := [], args := [] }

/-- 'laws.FnExactCutAt': WHATEVER THE INPUT: true; the input reads as it did. -/
def fnExactCutAtSpec : ChangeSpec := { name := "fnExactCutAt", fn := fun _ => fun
  | [d1, d2] => { results := [.lit (.bool true)], args := [d1, d2] }
  | _ => none }
def fnExactCutAtRow : OpenClaim := { program := "ythjcdcmhgghliaa", sum := "39f0451ba1931d31e0e1fe95cd37be7ec673c00d60be3d74b1021eec526f3b23", func := "loop.example/g00793/laws.FnExactCutAt", spec := "fnExactCutAt", inPlace := ["internal/bytealg.IndexByteString"], apart := false }
def FnExactCutAtSaid : Prop := fnExactCutAtRow.holds Try.pinned (OpenSpec.ofChange fnExactCutAtSpec)

/-- ITS FALSE NEIGHBOUR: 'it returns false'. Refute it at one input. -/
def fnExactCutAtWrong : ChangeSpec := { name := "fnExactCutAt", fn := fun _ => fun
  | [d1, d2] => { results := [.lit (.bool false)], args := [d1, d2] }
  | _ => none }
def FnExactCutAtWrongFalsely : Prop := fnExactCutAtRow.holds Try.pinned (OpenSpec.ofChange fnExactCutAtWrong)

/-- 'laws.FnExactCut': WHATEVER THE INPUT: true; the input reads as it did. -/
def fnExactCutSpec : ChangeSpec := { name := "fnExactCut", fn := fun _ => fun
  | [d] => { results := [.lit (.bool true)], args := [d] }
  | _ => none }
def fnExactCutRow : OpenClaim := { program := "ythjcdcmhgghliaa", sum := "39f0451ba1931d31e0e1fe95cd37be7ec673c00d60be3d74b1021eec526f3b23", func := "loop.example/g00793/laws.FnExactCut", spec := "fnExactCut", inPlace := ["internal/bytealg.IndexByteString"], apart := false }
def FnExactCutSaid : Prop := fnExactCutRow.holds Try.pinned (OpenSpec.ofChange fnExactCutSpec)

/-- ITS FALSE NEIGHBOUR: 'it returns false'. Refute it at one input. -/
def fnExactCutWrong : ChangeSpec := { name := "fnExactCut", fn := fun _ => fun
  | [d] => { results := [.lit (.bool false)], args := [d] }
  | _ => none }
def FnExactCutWrongFalsely : Prop := fnExactCutRow.holds Try.pinned (OpenSpec.ofChange fnExactCutWrong)

/-- 'laws.FnExactLines': WHATEVER THE INPUT: true; the input reads as it did. -/
def fnExactLinesSpec : ChangeSpec := { name := "fnExactLines", fn := fun _ => fun
  | [d] => { results := [.lit (.bool true)], args := [d] }
  | _ => none }
def fnExactLinesRow : OpenClaim := { program := "ythjcdcmhgghliaa", sum := "39f0451ba1931d31e0e1fe95cd37be7ec673c00d60be3d74b1021eec526f3b23", func := "loop.example/g00793/laws.FnExactLines", spec := "fnExactLines", inPlace := ["internal/bytealg.IndexByteString"], apart := false }
def FnExactLinesSaid : Prop := fnExactLinesRow.holds Try.pinned (OpenSpec.ofChange fnExactLinesSpec)

/-- ITS FALSE NEIGHBOUR: 'it returns false'. Refute it at one input. -/
def fnExactLinesWrong : ChangeSpec := { name := "fnExactLines", fn := fun _ => fun
  | [d] => { results := [.lit (.bool false)], args := [d] }
  | _ => none }
def FnExactLinesWrongFalsely : Prop := fnExactLinesRow.holds Try.pinned (OpenSpec.ofChange fnExactLinesWrong)

/-- 'laws.FnExactJoin': WHATEVER THE INPUT: true; the input reads as it did. -/
def fnExactJoinSpec : ChangeSpec := { name := "fnExactJoin", fn := fun _ => fun
  | [d1, d2] => { results := [.lit (.bool true)], args := [d1, d2] }
  | _ => none }
def fnExactJoinRow : OpenClaim := { program := "ythjcdcmhgghliaa", sum := "39f0451ba1931d31e0e1fe95cd37be7ec673c00d60be3d74b1021eec526f3b23", func := "loop.example/g00793/laws.FnExactJoin", spec := "fnExactJoin", inPlace := ["internal/abi.NoEscape", "internal/bytealg.MakeNoZero"], apart := false }
def FnExactJoinSaid : Prop := fnExactJoinRow.holds Try.pinned (OpenSpec.ofChange fnExactJoinSpec)

/-- ITS FALSE NEIGHBOUR: 'it returns false'. Refute it at one input. -/
def fnExactJoinWrong : ChangeSpec := { name := "fnExactJoin", fn := fun _ => fun
  | [d1, d2] => { results := [.lit (.bool false)], args := [d1, d2] }
  | _ => none }
def FnExactJoinWrongFalsely : Prop := fnExactJoinRow.holds Try.pinned (OpenSpec.ofChange fnExactJoinWrong)

/-- 'laws.FnExactPad': WHATEVER THE INPUT: true; the input reads as it did. -/
def fnExactPadSpec : ChangeSpec := { name := "fnExactPad", fn := fun _ => fun
  | [d1, d2] => { results := [.lit (.bool true)], args := [d1, d2] }
  | _ => none }
def fnExactPadRow : OpenClaim := { program := "ythjcdcmhgghliaa", sum := "39f0451ba1931d31e0e1fe95cd37be7ec673c00d60be3d74b1021eec526f3b23", func := "loop.example/g00793/laws.FnExactPad", spec := "fnExactPad", inPlace := ["internal/abi.NoEscape", "internal/bytealg.MakeNoZero"], apart := false }
def FnExactPadSaid : Prop := fnExactPadRow.holds Try.pinned (OpenSpec.ofChange fnExactPadSpec)

/-- ITS FALSE NEIGHBOUR: 'it returns false'. Refute it at one input. -/
def fnExactPadWrong : ChangeSpec := { name := "fnExactPad", fn := fun _ => fun
  | [d1, d2] => { results := [.lit (.bool false)], args := [d1, d2] }
  | _ => none }
def FnExactPadWrongFalsely : Prop := fnExactPadRow.holds Try.pinned (OpenSpec.ofChange fnExactPadWrong)

/-- 'laws.FnExactRatZero': WHATEVER THE INPUT: true; the input reads as it did. -/
def fnExactRatZeroSpec : ChangeSpec := { name := "fnExactRatZero", fn := fun _ => fun
  | [] => { results := [.lit (.bool true)], args := [] }
  | _ => none }
def fnExactRatZeroRow : OpenClaim := { program := "ythjcdcmhgghliaa", sum := "39f0451ba1931d31e0e1fe95cd37be7ec673c00d60be3d74b1021eec526f3b23", func := "loop.example/g00793/laws.FnExactRatZero", spec := "fnExactRatZero", apart := false }
def FnExactRatZeroSaid : Prop := fnExactRatZeroRow.holds Try.pinned (OpenSpec.ofChange fnExactRatZeroSpec)

/-- ITS FALSE NEIGHBOUR: 'it returns false'. Refute it at one input. -/
def fnExactRatZeroWrong : ChangeSpec := { name := "fnExactRatZero", fn := fun _ => fun
  | [] => { results := [.lit (.bool false)], args := [] }
  | _ => none }
def FnExactRatZeroWrongFalsely : Prop := fnExactRatZeroRow.holds Try.pinned (OpenSpec.ofChange fnExactRatZeroWrong)

/-- 'laws.FnExactNatDiv': WHATEVER THE INPUT: true; the input reads as it did. -/
def fnExactNatDivSpec : ChangeSpec := { name := "fnExactNatDiv", fn := fun _ => fun
  | [d1, d2] => { results := [.lit (.bool true)], args := [d1, d2] }
  | _ => none }
def fnExactNatDivRow : OpenClaim := { program := "ythjcdcmhgghliaa", sum := "39f0451ba1931d31e0e1fe95cd37be7ec673c00d60be3d74b1021eec526f3b23", func := "loop.example/g00793/laws.FnExactNatDiv", spec := "fnExactNatDiv", apart := false }
def FnExactNatDivSaid : Prop := fnExactNatDivRow.holds Try.pinned (OpenSpec.ofChange fnExactNatDivSpec)

/-- ITS FALSE NEIGHBOUR: 'it returns false'. Refute it at one input. -/
def fnExactNatDivWrong : ChangeSpec := { name := "fnExactNatDiv", fn := fun _ => fun
  | [d1, d2] => { results := [.lit (.bool false)], args := [d1, d2] }
  | _ => none }
def FnExactNatDivWrongFalsely : Prop := fnExactNatDivRow.holds Try.pinned (OpenSpec.ofChange fnExactNatDivWrong)

/-- 'laws.FnExactNatGcd': WHATEVER THE INPUT: true; the input reads as it did. -/
def fnExactNatGcdSpec : ChangeSpec := { name := "fnExactNatGcd", fn := fun _ => fun
  | [d1, d2] => { results := [.lit (.bool true)], args := [d1, d2] }
  | _ => none }
def fnExactNatGcdRow : OpenClaim := { program := "ythjcdcmhgghliaa", sum := "39f0451ba1931d31e0e1fe95cd37be7ec673c00d60be3d74b1021eec526f3b23", func := "loop.example/g00793/laws.FnExactNatGcd", spec := "fnExactNatGcd", apart := false }
def FnExactNatGcdSaid : Prop := fnExactNatGcdRow.holds Try.pinned (OpenSpec.ofChange fnExactNatGcdSpec)

/-- ITS FALSE NEIGHBOUR: 'it returns false'. Refute it at one input. -/
def fnExactNatGcdWrong : ChangeSpec := { name := "fnExactNatGcd", fn := fun _ => fun
  | [d1, d2] => { results := [.lit (.bool false)], args := [d1, d2] }
  | _ => none }
def FnExactNatGcdWrongFalsely : Prop := fnExactNatGcdRow.holds Try.pinned (OpenSpec.ofChange fnExactNatGcdWrong)

/-- 'laws.FnExactNatCut': WHATEVER THE INPUT: true; the input reads as it did. -/
def fnExactNatCutSpec : ChangeSpec := { name := "fnExactNatCut", fn := fun _ => fun
  | [d1, d2] => { results := [.lit (.bool true)], args := [d1, d2] }
  | _ => none }
def fnExactNatCutRow : OpenClaim := { program := "ythjcdcmhgghliaa", sum := "39f0451ba1931d31e0e1fe95cd37be7ec673c00d60be3d74b1021eec526f3b23", func := "loop.example/g00793/laws.FnExactNatCut", spec := "fnExactNatCut", apart := false }
def FnExactNatCutSaid : Prop := fnExactNatCutRow.holds Try.pinned (OpenSpec.ofChange fnExactNatCutSpec)

/-- ITS FALSE NEIGHBOUR: 'it returns false'. Refute it at one input. -/
def fnExactNatCutWrong : ChangeSpec := { name := "fnExactNatCut", fn := fun _ => fun
  | [d1, d2] => { results := [.lit (.bool false)], args := [d1, d2] }
  | _ => none }
def FnExactNatCutWrongFalsely : Prop := fnExactNatCutRow.holds Try.pinned (OpenSpec.ofChange fnExactNatCutWrong)

/- THE SECOND FORM. 'bulk': how many values and letters a reading holds, each counted each time it is reached (what is shared counts as often as it is met; a slice's spare places count too). A statement '..UptoSaid' is the law's where the arguments, and the package variables that the reading takes, are together of bulk at most 1048576: NARROWER than '..Said'. Prove '..Said' where nothing that the law and all that it calls make is longer than what came in: it says more and counts as full. Else prove '..UptoSaid'. A law counts once. -/
mutual
def uptoBulk {H : Type} : DataW H → Nat
  | .lit (.string bytes) => bytes.length + 1
  | .lit _ => 1
  | .nil => 1
  | .ptr d => uptoBulk d + 1
  | .slice elems spare => uptoBulkAll elems + uptoBulkAll spare + 1
  | .agg parts => uptoBulkAll parts + 1
  | .iface _ d => uptoBulk d + 1
  | .map entries => uptoBulkEntries entries + 1
  | .held _ => 1
def uptoBulkAll {H : Type} : List (DataW H) → Nat
  | [] => 0
  | d :: r => uptoBulk d + uptoBulkAll r
def uptoBulkEntries {H : Type} : List (Lit × DataW H) → Nat
  | [] => 0
  | x :: r => uptoBulkEntry x + uptoBulkEntries r
def uptoBulkEntry {H : Type} : Lit × DataW H → Nat
  | (.string bytes, d) => bytes.length + uptoBulk d + 1
  | (_, d) => uptoBulk d + 1
 end
def uptoSmall : (H : Type) → List (DataW H) → Bool := fun _ ds => decide (uptoBulkAll ds ≤ 1048576)
def OpenSpec.upto (s : _root_.Go.ChangeSpec) : _root_.Go.OpenSpec := { _root_.Go.OpenSpec.ofChange s with cond := some uptoSmall }

/-- 'laws.FnExactCutAt', WHERE WHAT IT READS IS OF BULK AT MOST 1048576: true; the input reads as it did. -/
def fnExactCutAtUptoRow : OpenClaim := { program := "ythjcdcmhgghliaa", sum := "39f0451ba1931d31e0e1fe95cd37be7ec673c00d60be3d74b1021eec526f3b23", func := "loop.example/g00793/laws.FnExactCutAt", spec := "fnExactCutAt", inPlace := ["internal/bytealg.IndexByteString"], apart := false, narrowed := true }
def FnExactCutAtUptoSaid : Prop := fnExactCutAtUptoRow.holds Try.pinned (OpenSpec.upto fnExactCutAtSpec)

/-- 'laws.FnExactCut', WHERE WHAT IT READS IS OF BULK AT MOST 1048576: true; the input reads as it did. -/
def fnExactCutUptoRow : OpenClaim := { program := "ythjcdcmhgghliaa", sum := "39f0451ba1931d31e0e1fe95cd37be7ec673c00d60be3d74b1021eec526f3b23", func := "loop.example/g00793/laws.FnExactCut", spec := "fnExactCut", inPlace := ["internal/bytealg.IndexByteString"], apart := false, narrowed := true }
def FnExactCutUptoSaid : Prop := fnExactCutUptoRow.holds Try.pinned (OpenSpec.upto fnExactCutSpec)

/-- 'laws.FnExactLines', WHERE WHAT IT READS IS OF BULK AT MOST 1048576: true; the input reads as it did. -/
def fnExactLinesUptoRow : OpenClaim := { program := "ythjcdcmhgghliaa", sum := "39f0451ba1931d31e0e1fe95cd37be7ec673c00d60be3d74b1021eec526f3b23", func := "loop.example/g00793/laws.FnExactLines", spec := "fnExactLines", inPlace := ["internal/bytealg.IndexByteString"], apart := false, narrowed := true }
def FnExactLinesUptoSaid : Prop := fnExactLinesUptoRow.holds Try.pinned (OpenSpec.upto fnExactLinesSpec)

/-- 'laws.FnExactJoin', WHERE WHAT IT READS IS OF BULK AT MOST 1048576: true; the input reads as it did. -/
def fnExactJoinUptoRow : OpenClaim := { program := "ythjcdcmhgghliaa", sum := "39f0451ba1931d31e0e1fe95cd37be7ec673c00d60be3d74b1021eec526f3b23", func := "loop.example/g00793/laws.FnExactJoin", spec := "fnExactJoin", inPlace := ["internal/abi.NoEscape", "internal/bytealg.MakeNoZero"], apart := false, narrowed := true }
def FnExactJoinUptoSaid : Prop := fnExactJoinUptoRow.holds Try.pinned (OpenSpec.upto fnExactJoinSpec)

/-- 'laws.FnExactPad', WHERE WHAT IT READS IS OF BULK AT MOST 1048576: true; the input reads as it did. -/
def fnExactPadUptoRow : OpenClaim := { program := "ythjcdcmhgghliaa", sum := "39f0451ba1931d31e0e1fe95cd37be7ec673c00d60be3d74b1021eec526f3b23", func := "loop.example/g00793/laws.FnExactPad", spec := "fnExactPad", inPlace := ["internal/abi.NoEscape", "internal/bytealg.MakeNoZero"], apart := false, narrowed := true }
def FnExactPadUptoSaid : Prop := fnExactPadUptoRow.holds Try.pinned (OpenSpec.upto fnExactPadSpec)

/-- 'laws.FnExactRatZero', WHERE WHAT IT READS IS OF BULK AT MOST 1048576: true; the input reads as it did. -/
def fnExactRatZeroUptoRow : OpenClaim := { program := "ythjcdcmhgghliaa", sum := "39f0451ba1931d31e0e1fe95cd37be7ec673c00d60be3d74b1021eec526f3b23", func := "loop.example/g00793/laws.FnExactRatZero", spec := "fnExactRatZero", apart := false, narrowed := true }
def FnExactRatZeroUptoSaid : Prop := fnExactRatZeroUptoRow.holds Try.pinned (OpenSpec.upto fnExactRatZeroSpec)

/-- 'laws.FnExactNatDiv', WHERE WHAT IT READS IS OF BULK AT MOST 1048576: true; the input reads as it did. -/
def fnExactNatDivUptoRow : OpenClaim := { program := "ythjcdcmhgghliaa", sum := "39f0451ba1931d31e0e1fe95cd37be7ec673c00d60be3d74b1021eec526f3b23", func := "loop.example/g00793/laws.FnExactNatDiv", spec := "fnExactNatDiv", apart := false, narrowed := true }
def FnExactNatDivUptoSaid : Prop := fnExactNatDivUptoRow.holds Try.pinned (OpenSpec.upto fnExactNatDivSpec)

/-- 'laws.FnExactNatGcd', WHERE WHAT IT READS IS OF BULK AT MOST 1048576: true; the input reads as it did. -/
def fnExactNatGcdUptoRow : OpenClaim := { program := "ythjcdcmhgghliaa", sum := "39f0451ba1931d31e0e1fe95cd37be7ec673c00d60be3d74b1021eec526f3b23", func := "loop.example/g00793/laws.FnExactNatGcd", spec := "fnExactNatGcd", apart := false, narrowed := true }
def FnExactNatGcdUptoSaid : Prop := fnExactNatGcdUptoRow.holds Try.pinned (OpenSpec.upto fnExactNatGcdSpec)

/-- 'laws.FnExactNatCut', WHERE WHAT IT READS IS OF BULK AT MOST 1048576: true; the input reads as it did. -/
def fnExactNatCutUptoRow : OpenClaim := { program := "ythjcdcmhgghliaa", sum := "39f0451ba1931d31e0e1fe95cd37be7ec673c00d60be3d74b1021eec526f3b23", func := "loop.example/g00793/laws.FnExactNatCut", spec := "fnExactNatCut", apart := false, narrowed := true }
def FnExactNatCutUptoSaid : Prop := fnExactNatCutUptoRow.holds Try.pinned (OpenSpec.upto fnExactNatCutSpec)

end Rows
end Go.Proofs.Ythjcdcmhgghliaa
