/-
  No cell of these rows narrows 'for every input' (looked for: loops, veiled, ifaces, maps, wideKeys, modest, calm, conditions, laid).
  DERIVED. THE GIVEN ROWS OF THIS SEAT. 12 by the template 'for every input the law returns true; each argument reads behind the call as it read before'; 0 by the template 'total and deterministic' (their statements: YtmkhpeddmifdkaaTotals.lean).
  GIVEN WITH THE SEED: the statements are not yours to turn. If you find one false, say at which input.
  Laid BY PROGRAM, IN A SANDBOX (cutbox-rows.mjs): the forced cells as the released guide's own fill.sh prints them over the translation 0d93028e5559ff14… (all of the seat's roots in one cut). By AI agents, Wed Nov 11 2026. No macro, syntax, notation, axiom, sorry.
-/
import Derived.Test.YtmkhpeddmifdkaaChecked
import GoSem.Claim
import GoSem.ClaimJoined
import GoSem.ClaimMapViews
import Derived.JoinedTies
import Derived.KernelRfl
namespace Go.Proofs.Ytmkhpeddmifdkaa
/- THE CELL 'sum', in the pinned program and in every row, IS THE sha256 OF THE DUMP (.gsa) THAT YtmkhpeddmifdkaaProg.lean LOADS. Nothing in Lean hashes anything: it is a label: what it is worth is what the hold of that sum in a sandbox is worth. -/
noncomputable def Try.pinned : Pinned := { name := "ytmkhpeddmifdkaa", sum := "0d93028e5559ff14783ded843552ff965f77e413d0bef6f6b2f80b09b1c37db3", checked := Try.checked }
namespace Rows
def none {H : Type} : Left H := { results := [], args := [] }

/-- 'laws.FnExactIntOk': WHATEVER THE INPUT: true; the input reads as it did. -/
def fnExactIntOkSpec : ChangeSpec := { name := "fnExactIntOk", fn := fun _ => fun
  | [d] => { results := [.lit (.bool true)], args := [d] }
  | _ => none }
def fnExactIntOkRow : OpenClaim := { program := "ytmkhpeddmifdkaa", sum := "0d93028e5559ff14783ded843552ff965f77e413d0bef6f6b2f80b09b1c37db3", func := "loop.example/g00793/laws.FnExactIntOk", spec := "fnExactIntOk", apart := false }
def FnExactIntOkSaid : Prop := fnExactIntOkRow.holds Try.pinned (OpenSpec.ofChange fnExactIntOkSpec)

/-- ITS FALSE NEIGHBOUR: 'it returns false'. Refute it at one input. -/
def fnExactIntOkWrong : ChangeSpec := { name := "fnExactIntOk", fn := fun _ => fun
  | [d] => { results := [.lit (.bool false)], args := [d] }
  | _ => none }
def FnExactIntOkWrongFalsely : Prop := fnExactIntOkRow.holds Try.pinned (OpenSpec.ofChange fnExactIntOkWrong)

/-- 'laws.FnExactIntOf': WHATEVER THE INPUT: true; the input reads as it did. -/
def fnExactIntOfSpec : ChangeSpec := { name := "fnExactIntOf", fn := fun _ => fun
  | [d] => { results := [.lit (.bool true)], args := [d] }
  | _ => none }
def fnExactIntOfRow : OpenClaim := { program := "ytmkhpeddmifdkaa", sum := "0d93028e5559ff14783ded843552ff965f77e413d0bef6f6b2f80b09b1c37db3", func := "loop.example/g00793/laws.FnExactIntOf", spec := "fnExactIntOf", apart := false }
def FnExactIntOfSaid : Prop := fnExactIntOfRow.holds Try.pinned (OpenSpec.ofChange fnExactIntOfSpec)

/-- ITS FALSE NEIGHBOUR: 'it returns false'. Refute it at one input. -/
def fnExactIntOfWrong : ChangeSpec := { name := "fnExactIntOf", fn := fun _ => fun
  | [d] => { results := [.lit (.bool false)], args := [d] }
  | _ => none }
def FnExactIntOfWrongFalsely : Prop := fnExactIntOfRow.holds Try.pinned (OpenSpec.ofChange fnExactIntOfWrong)

/-- 'laws.FnExactIntSign': WHATEVER THE INPUT: true; the input reads as it did. -/
def fnExactIntSignSpec : ChangeSpec := { name := "fnExactIntSign", fn := fun _ => fun
  | [d] => { results := [.lit (.bool true)], args := [d] }
  | _ => none }
def fnExactIntSignRow : OpenClaim := { program := "ytmkhpeddmifdkaa", sum := "0d93028e5559ff14783ded843552ff965f77e413d0bef6f6b2f80b09b1c37db3", func := "loop.example/g00793/laws.FnExactIntSign", spec := "fnExactIntSign", apart := false }
def FnExactIntSignSaid : Prop := fnExactIntSignRow.holds Try.pinned (OpenSpec.ofChange fnExactIntSignSpec)

/-- ITS FALSE NEIGHBOUR: 'it returns false'. Refute it at one input. -/
def fnExactIntSignWrong : ChangeSpec := { name := "fnExactIntSign", fn := fun _ => fun
  | [d] => { results := [.lit (.bool false)], args := [d] }
  | _ => none }
def FnExactIntSignWrongFalsely : Prop := fnExactIntSignRow.holds Try.pinned (OpenSpec.ofChange fnExactIntSignWrong)

/-- 'laws.FnExactIntAbs': WHATEVER THE INPUT: true; the input reads as it did. -/
def fnExactIntAbsSpec : ChangeSpec := { name := "fnExactIntAbs", fn := fun _ => fun
  | [d] => { results := [.lit (.bool true)], args := [d] }
  | _ => none }
def fnExactIntAbsRow : OpenClaim := { program := "ytmkhpeddmifdkaa", sum := "0d93028e5559ff14783ded843552ff965f77e413d0bef6f6b2f80b09b1c37db3", func := "loop.example/g00793/laws.FnExactIntAbs", spec := "fnExactIntAbs", apart := false }
def FnExactIntAbsSaid : Prop := fnExactIntAbsRow.holds Try.pinned (OpenSpec.ofChange fnExactIntAbsSpec)

/-- ITS FALSE NEIGHBOUR: 'it returns false'. Refute it at one input. -/
def fnExactIntAbsWrong : ChangeSpec := { name := "fnExactIntAbs", fn := fun _ => fun
  | [d] => { results := [.lit (.bool false)], args := [d] }
  | _ => none }
def FnExactIntAbsWrongFalsely : Prop := fnExactIntAbsRow.holds Try.pinned (OpenSpec.ofChange fnExactIntAbsWrong)

/-- 'laws.FnExactIntNeg': WHATEVER THE INPUT: true; the input reads as it did. -/
def fnExactIntNegSpec : ChangeSpec := { name := "fnExactIntNeg", fn := fun _ => fun
  | [d] => { results := [.lit (.bool true)], args := [d] }
  | _ => none }
def fnExactIntNegRow : OpenClaim := { program := "ytmkhpeddmifdkaa", sum := "0d93028e5559ff14783ded843552ff965f77e413d0bef6f6b2f80b09b1c37db3", func := "loop.example/g00793/laws.FnExactIntNeg", spec := "fnExactIntNeg", apart := false }
def FnExactIntNegSaid : Prop := fnExactIntNegRow.holds Try.pinned (OpenSpec.ofChange fnExactIntNegSpec)

/-- ITS FALSE NEIGHBOUR: 'it returns false'. Refute it at one input. -/
def fnExactIntNegWrong : ChangeSpec := { name := "fnExactIntNeg", fn := fun _ => fun
  | [d] => { results := [.lit (.bool false)], args := [d] }
  | _ => none }
def FnExactIntNegWrongFalsely : Prop := fnExactIntNegRow.holds Try.pinned (OpenSpec.ofChange fnExactIntNegWrong)

/-- 'laws.FnExactStrInt': WHATEVER THE INPUT: true; the input reads as it did. -/
def fnExactStrIntSpec : ChangeSpec := { name := "fnExactStrInt", fn := fun _ => fun
  | [d] => { results := [.lit (.bool true)], args := [d] }
  | _ => none }
def fnExactStrIntRow : OpenClaim := { program := "ytmkhpeddmifdkaa", sum := "0d93028e5559ff14783ded843552ff965f77e413d0bef6f6b2f80b09b1c37db3", func := "loop.example/g00793/laws.FnExactStrInt", spec := "fnExactStrInt", apart := false }
def FnExactStrIntSaid : Prop := fnExactStrIntRow.holds Try.pinned (OpenSpec.ofChange fnExactStrIntSpec)

/-- ITS FALSE NEIGHBOUR: 'it returns false'. Refute it at one input. -/
def fnExactStrIntWrong : ChangeSpec := { name := "fnExactStrInt", fn := fun _ => fun
  | [d] => { results := [.lit (.bool false)], args := [d] }
  | _ => none }
def FnExactStrIntWrongFalsely : Prop := fnExactStrIntRow.holds Try.pinned (OpenSpec.ofChange fnExactStrIntWrong)

/-- 'laws.FnExactIntNum': WHATEVER THE INPUT: true; the input reads as it did. -/
def fnExactIntNumSpec : ChangeSpec := { name := "fnExactIntNum", fn := fun _ => fun
  | [d] => { results := [.lit (.bool true)], args := [d] }
  | _ => none }
def fnExactIntNumRow : OpenClaim := { program := "ytmkhpeddmifdkaa", sum := "0d93028e5559ff14783ded843552ff965f77e413d0bef6f6b2f80b09b1c37db3", func := "loop.example/g00793/laws.FnExactIntNum", spec := "fnExactIntNum", apart := false }
def FnExactIntNumSaid : Prop := fnExactIntNumRow.holds Try.pinned (OpenSpec.ofChange fnExactIntNumSpec)

/-- ITS FALSE NEIGHBOUR: 'it returns false'. Refute it at one input. -/
def fnExactIntNumWrong : ChangeSpec := { name := "fnExactIntNum", fn := fun _ => fun
  | [d] => { results := [.lit (.bool false)], args := [d] }
  | _ => none }
def FnExactIntNumWrongFalsely : Prop := fnExactIntNumRow.holds Try.pinned (OpenSpec.ofChange fnExactIntNumWrong)

/-- 'laws.FnExactIntMul': WHATEVER THE INPUT: true; the input reads as it did. -/
def fnExactIntMulSpec : ChangeSpec := { name := "fnExactIntMul", fn := fun _ => fun
  | [d1, d2] => { results := [.lit (.bool true)], args := [d1, d2] }
  | _ => none }
def fnExactIntMulRow : OpenClaim := { program := "ytmkhpeddmifdkaa", sum := "0d93028e5559ff14783ded843552ff965f77e413d0bef6f6b2f80b09b1c37db3", func := "loop.example/g00793/laws.FnExactIntMul", spec := "fnExactIntMul", apart := false }
def FnExactIntMulSaid : Prop := fnExactIntMulRow.holds Try.pinned (OpenSpec.ofChange fnExactIntMulSpec)

/-- ITS FALSE NEIGHBOUR: 'it returns false'. Refute it at one input. -/
def fnExactIntMulWrong : ChangeSpec := { name := "fnExactIntMul", fn := fun _ => fun
  | [d1, d2] => { results := [.lit (.bool false)], args := [d1, d2] }
  | _ => none }
def FnExactIntMulWrongFalsely : Prop := fnExactIntMulRow.holds Try.pinned (OpenSpec.ofChange fnExactIntMulWrong)

/-- 'laws.FnExactIntCmp': WHATEVER THE INPUT: true; the input reads as it did. -/
def fnExactIntCmpSpec : ChangeSpec := { name := "fnExactIntCmp", fn := fun _ => fun
  | [d1, d2] => { results := [.lit (.bool true)], args := [d1, d2] }
  | _ => none }
def fnExactIntCmpRow : OpenClaim := { program := "ytmkhpeddmifdkaa", sum := "0d93028e5559ff14783ded843552ff965f77e413d0bef6f6b2f80b09b1c37db3", func := "loop.example/g00793/laws.FnExactIntCmp", spec := "fnExactIntCmp", apart := false }
def FnExactIntCmpSaid : Prop := fnExactIntCmpRow.holds Try.pinned (OpenSpec.ofChange fnExactIntCmpSpec)

/-- ITS FALSE NEIGHBOUR: 'it returns false'. Refute it at one input. -/
def fnExactIntCmpWrong : ChangeSpec := { name := "fnExactIntCmp", fn := fun _ => fun
  | [d1, d2] => { results := [.lit (.bool false)], args := [d1, d2] }
  | _ => none }
def FnExactIntCmpWrongFalsely : Prop := fnExactIntCmpRow.holds Try.pinned (OpenSpec.ofChange fnExactIntCmpWrong)

/-- 'laws.FnExactIntAdd': WHATEVER THE INPUT: true; the input reads as it did. -/
def fnExactIntAddSpec : ChangeSpec := { name := "fnExactIntAdd", fn := fun _ => fun
  | [d1, d2] => { results := [.lit (.bool true)], args := [d1, d2] }
  | _ => none }
def fnExactIntAddRow : OpenClaim := { program := "ytmkhpeddmifdkaa", sum := "0d93028e5559ff14783ded843552ff965f77e413d0bef6f6b2f80b09b1c37db3", func := "loop.example/g00793/laws.FnExactIntAdd", spec := "fnExactIntAdd", apart := false }
def FnExactIntAddSaid : Prop := fnExactIntAddRow.holds Try.pinned (OpenSpec.ofChange fnExactIntAddSpec)

/-- ITS FALSE NEIGHBOUR: 'it returns false'. Refute it at one input. -/
def fnExactIntAddWrong : ChangeSpec := { name := "fnExactIntAdd", fn := fun _ => fun
  | [d1, d2] => { results := [.lit (.bool false)], args := [d1, d2] }
  | _ => none }
def FnExactIntAddWrongFalsely : Prop := fnExactIntAddRow.holds Try.pinned (OpenSpec.ofChange fnExactIntAddWrong)

/-- 'laws.FnExactIntSub': WHATEVER THE INPUT: true; the input reads as it did. -/
def fnExactIntSubSpec : ChangeSpec := { name := "fnExactIntSub", fn := fun _ => fun
  | [d1, d2] => { results := [.lit (.bool true)], args := [d1, d2] }
  | _ => none }
def fnExactIntSubRow : OpenClaim := { program := "ytmkhpeddmifdkaa", sum := "0d93028e5559ff14783ded843552ff965f77e413d0bef6f6b2f80b09b1c37db3", func := "loop.example/g00793/laws.FnExactIntSub", spec := "fnExactIntSub", apart := false }
def FnExactIntSubSaid : Prop := fnExactIntSubRow.holds Try.pinned (OpenSpec.ofChange fnExactIntSubSpec)

/-- ITS FALSE NEIGHBOUR: 'it returns false'. Refute it at one input. -/
def fnExactIntSubWrong : ChangeSpec := { name := "fnExactIntSub", fn := fun _ => fun
  | [d1, d2] => { results := [.lit (.bool false)], args := [d1, d2] }
  | _ => none }
def FnExactIntSubWrongFalsely : Prop := fnExactIntSubRow.holds Try.pinned (OpenSpec.ofChange fnExactIntSubWrong)

/-- 'laws.FnExactIntSum': WHATEVER THE INPUT: true; the input reads as it did. -/
def fnExactIntSumSpec : ChangeSpec := { name := "fnExactIntSum", fn := fun _ => fun
  | [d] => { results := [.lit (.bool true)], args := [d] }
  | _ => none }
def fnExactIntSumRow : OpenClaim := { program := "ytmkhpeddmifdkaa", sum := "0d93028e5559ff14783ded843552ff965f77e413d0bef6f6b2f80b09b1c37db3", func := "loop.example/g00793/laws.FnExactIntSum", spec := "fnExactIntSum", apart := false }
def FnExactIntSumSaid : Prop := fnExactIntSumRow.holds Try.pinned (OpenSpec.ofChange fnExactIntSumSpec)

/-- ITS FALSE NEIGHBOUR: 'it returns false'. Refute it at one input. -/
def fnExactIntSumWrong : ChangeSpec := { name := "fnExactIntSum", fn := fun _ => fun
  | [d] => { results := [.lit (.bool false)], args := [d] }
  | _ => none }
def FnExactIntSumWrongFalsely : Prop := fnExactIntSumRow.holds Try.pinned (OpenSpec.ofChange fnExactIntSumWrong)

/- THE SECOND FORM. 'bulk': how many values and letters a reading holds, each counted each time it is reached (what is shared counts as often as it is met; a slice's spare places count too). A statement '..UptoSaid' is the law's where the arguments, and the package variables that the reading takes, are together of bulk at most 1048576: NARROWER than '..Said'. Prove '..Said' where nothing that the law and all that it calls make is longer than what came in: it says more and counts as full. Else prove '..UptoSaid'. A law counts once. -/
mutual
def uptoBulk {H : Type} : DataW H → Nat
  | .lit (.string bytes) => bytes.length + 1
  | .lit _ => 1
  | .nil => 1
  | .ptr d => uptoBulk d + 1
  | .slice elems spare => uptoBulkAll elems + uptoBulkAll spare + 1
  | .agg parts => uptoBulkAll parts + 1
  | .iface _ d => uptoBulk d + 1
  | .map entries => uptoBulkEntries entries + 1
  | .held _ => 1
def uptoBulkAll {H : Type} : List (DataW H) → Nat
  | [] => 0
  | d :: r => uptoBulk d + uptoBulkAll r
def uptoBulkEntries {H : Type} : List (Lit × DataW H) → Nat
  | [] => 0
  | x :: r => uptoBulkEntry x + uptoBulkEntries r
def uptoBulkEntry {H : Type} : Lit × DataW H → Nat
  | (.string bytes, d) => bytes.length + uptoBulk d + 1
  | (_, d) => uptoBulk d + 1
 end
def uptoSmall : (H : Type) → List (DataW H) → Bool := fun _ ds => decide (uptoBulkAll ds ≤ 1048576)
def OpenSpec.upto (s : _root_.Go.ChangeSpec) : _root_.Go.OpenSpec := { _root_.Go.OpenSpec.ofChange s with cond := some uptoSmall }

/-- 'laws.FnExactIntOk', WHERE WHAT IT READS IS OF BULK AT MOST 1048576: true; the input reads as it did. -/
def fnExactIntOkUptoRow : OpenClaim := { program := "ytmkhpeddmifdkaa", sum := "0d93028e5559ff14783ded843552ff965f77e413d0bef6f6b2f80b09b1c37db3", func := "loop.example/g00793/laws.FnExactIntOk", spec := "fnExactIntOk", apart := false, narrowed := true }
def FnExactIntOkUptoSaid : Prop := fnExactIntOkUptoRow.holds Try.pinned (OpenSpec.upto fnExactIntOkSpec)

/-- 'laws.FnExactIntOf', WHERE WHAT IT READS IS OF BULK AT MOST 1048576: true; the input reads as it did. -/
def fnExactIntOfUptoRow : OpenClaim := { program := "ytmkhpeddmifdkaa", sum := "0d93028e5559ff14783ded843552ff965f77e413d0bef6f6b2f80b09b1c37db3", func := "loop.example/g00793/laws.FnExactIntOf", spec := "fnExactIntOf", apart := false, narrowed := true }
def FnExactIntOfUptoSaid : Prop := fnExactIntOfUptoRow.holds Try.pinned (OpenSpec.upto fnExactIntOfSpec)

/-- 'laws.FnExactIntSign', WHERE WHAT IT READS IS OF BULK AT MOST 1048576: true; the input reads as it did. -/
def fnExactIntSignUptoRow : OpenClaim := { program := "ytmkhpeddmifdkaa", sum := "0d93028e5559ff14783ded843552ff965f77e413d0bef6f6b2f80b09b1c37db3", func := "loop.example/g00793/laws.FnExactIntSign", spec := "fnExactIntSign", apart := false, narrowed := true }
def FnExactIntSignUptoSaid : Prop := fnExactIntSignUptoRow.holds Try.pinned (OpenSpec.upto fnExactIntSignSpec)

/-- 'laws.FnExactIntAbs', WHERE WHAT IT READS IS OF BULK AT MOST 1048576: true; the input reads as it did. -/
def fnExactIntAbsUptoRow : OpenClaim := { program := "ytmkhpeddmifdkaa", sum := "0d93028e5559ff14783ded843552ff965f77e413d0bef6f6b2f80b09b1c37db3", func := "loop.example/g00793/laws.FnExactIntAbs", spec := "fnExactIntAbs", apart := false, narrowed := true }
def FnExactIntAbsUptoSaid : Prop := fnExactIntAbsUptoRow.holds Try.pinned (OpenSpec.upto fnExactIntAbsSpec)

/-- 'laws.FnExactIntNeg', WHERE WHAT IT READS IS OF BULK AT MOST 1048576: true; the input reads as it did. -/
def fnExactIntNegUptoRow : OpenClaim := { program := "ytmkhpeddmifdkaa", sum := "0d93028e5559ff14783ded843552ff965f77e413d0bef6f6b2f80b09b1c37db3", func := "loop.example/g00793/laws.FnExactIntNeg", spec := "fnExactIntNeg", apart := false, narrowed := true }
def FnExactIntNegUptoSaid : Prop := fnExactIntNegUptoRow.holds Try.pinned (OpenSpec.upto fnExactIntNegSpec)

/-- 'laws.FnExactStrInt', WHERE WHAT IT READS IS OF BULK AT MOST 1048576: true; the input reads as it did. -/
def fnExactStrIntUptoRow : OpenClaim := { program := "ytmkhpeddmifdkaa", sum := "0d93028e5559ff14783ded843552ff965f77e413d0bef6f6b2f80b09b1c37db3", func := "loop.example/g00793/laws.FnExactStrInt", spec := "fnExactStrInt", apart := false, narrowed := true }
def FnExactStrIntUptoSaid : Prop := fnExactStrIntUptoRow.holds Try.pinned (OpenSpec.upto fnExactStrIntSpec)

/-- 'laws.FnExactIntNum', WHERE WHAT IT READS IS OF BULK AT MOST 1048576: true; the input reads as it did. -/
def fnExactIntNumUptoRow : OpenClaim := { program := "ytmkhpeddmifdkaa", sum := "0d93028e5559ff14783ded843552ff965f77e413d0bef6f6b2f80b09b1c37db3", func := "loop.example/g00793/laws.FnExactIntNum", spec := "fnExactIntNum", apart := false, narrowed := true }
def FnExactIntNumUptoSaid : Prop := fnExactIntNumUptoRow.holds Try.pinned (OpenSpec.upto fnExactIntNumSpec)

/-- 'laws.FnExactIntMul', WHERE WHAT IT READS IS OF BULK AT MOST 1048576: true; the input reads as it did. -/
def fnExactIntMulUptoRow : OpenClaim := { program := "ytmkhpeddmifdkaa", sum := "0d93028e5559ff14783ded843552ff965f77e413d0bef6f6b2f80b09b1c37db3", func := "loop.example/g00793/laws.FnExactIntMul", spec := "fnExactIntMul", apart := false, narrowed := true }
def FnExactIntMulUptoSaid : Prop := fnExactIntMulUptoRow.holds Try.pinned (OpenSpec.upto fnExactIntMulSpec)

/-- 'laws.FnExactIntCmp', WHERE WHAT IT READS IS OF BULK AT MOST 1048576: true; the input reads as it did. -/
def fnExactIntCmpUptoRow : OpenClaim := { program := "ytmkhpeddmifdkaa", sum := "0d93028e5559ff14783ded843552ff965f77e413d0bef6f6b2f80b09b1c37db3", func := "loop.example/g00793/laws.FnExactIntCmp", spec := "fnExactIntCmp", apart := false, narrowed := true }
def FnExactIntCmpUptoSaid : Prop := fnExactIntCmpUptoRow.holds Try.pinned (OpenSpec.upto fnExactIntCmpSpec)

/-- 'laws.FnExactIntAdd', WHERE WHAT IT READS IS OF BULK AT MOST 1048576: true; the input reads as it did. -/
def fnExactIntAddUptoRow : OpenClaim := { program := "ytmkhpeddmifdkaa", sum := "0d93028e5559ff14783ded843552ff965f77e413d0bef6f6b2f80b09b1c37db3", func := "loop.example/g00793/laws.FnExactIntAdd", spec := "fnExactIntAdd", apart := false, narrowed := true }
def FnExactIntAddUptoSaid : Prop := fnExactIntAddUptoRow.holds Try.pinned (OpenSpec.upto fnExactIntAddSpec)

/-- 'laws.FnExactIntSub', WHERE WHAT IT READS IS OF BULK AT MOST 1048576: true; the input reads as it did. -/
def fnExactIntSubUptoRow : OpenClaim := { program := "ytmkhpeddmifdkaa", sum := "0d93028e5559ff14783ded843552ff965f77e413d0bef6f6b2f80b09b1c37db3", func := "loop.example/g00793/laws.FnExactIntSub", spec := "fnExactIntSub", apart := false, narrowed := true }
def FnExactIntSubUptoSaid : Prop := fnExactIntSubUptoRow.holds Try.pinned (OpenSpec.upto fnExactIntSubSpec)

/-- 'laws.FnExactIntSum', WHERE WHAT IT READS IS OF BULK AT MOST 1048576: true; the input reads as it did. -/
def fnExactIntSumUptoRow : OpenClaim := { program := "ytmkhpeddmifdkaa", sum := "0d93028e5559ff14783ded843552ff965f77e413d0bef6f6b2f80b09b1c37db3", func := "loop.example/g00793/laws.FnExactIntSum", spec := "fnExactIntSum", apart := false, narrowed := true }
def FnExactIntSumUptoSaid : Prop := fnExactIntSumUptoRow.holds Try.pinned (OpenSpec.upto fnExactIntSumSpec)

end Rows
end Go.Proofs.Ytmkhpeddmifdkaa
