/-
  No cell of these rows narrows 'for every input' (looked for: loops, veiled, ifaces, maps, wideKeys, modest, calm, conditions, laid).
  DERIVED. THE GIVEN ROWS OF THIS SEAT. 12 by the template 'for every input the law returns true; each argument reads behind the call as it read before'; 0 by the template 'total and deterministic' (their statements: YtoandabopahmhaaTotals.lean).
  GIVEN WITH THE SEED: the statements are not yours to turn. If you find one false, say at which input.
  Laid BY PROGRAM, IN A SANDBOX (cutbox-rows.mjs): the forced cells as the released guide's own fill.sh prints them over the translation 4297e5cd785b40d4… (all of the seat's roots in one cut). By AI agents, Wed Nov 11 2026. No macro, syntax, notation, axiom, sorry.
-/
import Derived.Test.YtoandabopahmhaaChecked
import GoSem.Claim
import GoSem.ClaimJoined
import GoSem.ClaimMapViews
import Derived.JoinedTies
import Derived.KernelRfl
namespace Go.Proofs.Ytoandabopahmhaa
/- THE CELL 'sum', in the pinned program and in every row, IS THE sha256 OF THE DUMP (.gsa) THAT YtoandabopahmhaaProg.lean LOADS. Nothing in Lean hashes anything: it is a label: what it is worth is what the hold of that sum in a sandbox is worth. -/
noncomputable def Try.pinned : Pinned := { name := "ytoandabopahmhaa", sum := "4297e5cd785b40d4d1ea8dcf20cf0e79a33b43f56bf98110d388f850ac20e1fd", checked := Try.checked }
namespace Rows
def none {H : Type} : Left H := { results := [], args := [] }

/-- 'laws.FnExactRatOk': WHATEVER THE INPUT: true; the input reads as it did. -/
def fnExactRatOkSpec : ChangeSpec := { name := "fnExactRatOk", fn := fun _ => fun
  | [d] => { results := [.lit (.bool true)], args := [d] }
  | _ => none }
def fnExactRatOkRow : OpenClaim := { program := "ytoandabopahmhaa", sum := "4297e5cd785b40d4d1ea8dcf20cf0e79a33b43f56bf98110d388f850ac20e1fd", func := "loop.example/g00793/laws.FnExactRatOk", spec := "fnExactRatOk", apart := false }
def FnExactRatOkSaid : Prop := fnExactRatOkRow.holds Try.pinned (OpenSpec.ofChange fnExactRatOkSpec)

/-- ITS FALSE NEIGHBOUR: 'it returns false'. Refute it at one input. -/
def fnExactRatOkWrong : ChangeSpec := { name := "fnExactRatOk", fn := fun _ => fun
  | [d] => { results := [.lit (.bool false)], args := [d] }
  | _ => none }
def FnExactRatOkWrongFalsely : Prop := fnExactRatOkRow.holds Try.pinned (OpenSpec.ofChange fnExactRatOkWrong)

/-- 'laws.FnExactRatHalf': WHATEVER THE INPUT: true; the input reads as it did. -/
def fnExactRatHalfSpec : ChangeSpec := { name := "fnExactRatHalf", fn := fun _ => fun
  | [d] => { results := [.lit (.bool true)], args := [d] }
  | _ => none }
def fnExactRatHalfRow : OpenClaim := { program := "ytoandabopahmhaa", sum := "4297e5cd785b40d4d1ea8dcf20cf0e79a33b43f56bf98110d388f850ac20e1fd", func := "loop.example/g00793/laws.FnExactRatHalf", spec := "fnExactRatHalf", apart := false }
def FnExactRatHalfSaid : Prop := fnExactRatHalfRow.holds Try.pinned (OpenSpec.ofChange fnExactRatHalfSpec)

/-- ITS FALSE NEIGHBOUR: 'it returns false'. Refute it at one input. -/
def fnExactRatHalfWrong : ChangeSpec := { name := "fnExactRatHalf", fn := fun _ => fun
  | [d] => { results := [.lit (.bool false)], args := [d] }
  | _ => none }
def FnExactRatHalfWrongFalsely : Prop := fnExactRatHalfRow.holds Try.pinned (OpenSpec.ofChange fnExactRatHalfWrong)

/-- 'laws.FnExactRatSign': WHATEVER THE INPUT: true; the input reads as it did. -/
def fnExactRatSignSpec : ChangeSpec := { name := "fnExactRatSign", fn := fun _ => fun
  | [d] => { results := [.lit (.bool true)], args := [d] }
  | _ => none }
def fnExactRatSignRow : OpenClaim := { program := "ytoandabopahmhaa", sum := "4297e5cd785b40d4d1ea8dcf20cf0e79a33b43f56bf98110d388f850ac20e1fd", func := "loop.example/g00793/laws.FnExactRatSign", spec := "fnExactRatSign", apart := false }
def FnExactRatSignSaid : Prop := fnExactRatSignRow.holds Try.pinned (OpenSpec.ofChange fnExactRatSignSpec)

/-- ITS FALSE NEIGHBOUR: 'it returns false'. Refute it at one input. -/
def fnExactRatSignWrong : ChangeSpec := { name := "fnExactRatSign", fn := fun _ => fun
  | [d] => { results := [.lit (.bool false)], args := [d] }
  | _ => none }
def FnExactRatSignWrongFalsely : Prop := fnExactRatSignRow.holds Try.pinned (OpenSpec.ofChange fnExactRatSignWrong)

/-- 'laws.FnExactRatMake': WHATEVER THE INPUT: true; the input reads as it did. -/
def fnExactRatMakeSpec : ChangeSpec := { name := "fnExactRatMake", fn := fun _ => fun
  | [d1, d2] => { results := [.lit (.bool true)], args := [d1, d2] }
  | _ => none }
def fnExactRatMakeRow : OpenClaim := { program := "ytoandabopahmhaa", sum := "4297e5cd785b40d4d1ea8dcf20cf0e79a33b43f56bf98110d388f850ac20e1fd", func := "loop.example/g00793/laws.FnExactRatMake", spec := "fnExactRatMake", apart := false }
def FnExactRatMakeSaid : Prop := fnExactRatMakeRow.holds Try.pinned (OpenSpec.ofChange fnExactRatMakeSpec)

/-- ITS FALSE NEIGHBOUR: 'it returns false'. Refute it at one input. -/
def fnExactRatMakeWrong : ChangeSpec := { name := "fnExactRatMake", fn := fun _ => fun
  | [d1, d2] => { results := [.lit (.bool false)], args := [d1, d2] }
  | _ => none }
def FnExactRatMakeWrongFalsely : Prop := fnExactRatMakeRow.holds Try.pinned (OpenSpec.ofChange fnExactRatMakeWrong)

/-- 'laws.FnExactRatInt': WHATEVER THE INPUT: true; the input reads as it did. -/
def fnExactRatIntSpec : ChangeSpec := { name := "fnExactRatInt", fn := fun _ => fun
  | [d] => { results := [.lit (.bool true)], args := [d] }
  | _ => none }
def fnExactRatIntRow : OpenClaim := { program := "ytoandabopahmhaa", sum := "4297e5cd785b40d4d1ea8dcf20cf0e79a33b43f56bf98110d388f850ac20e1fd", func := "loop.example/g00793/laws.FnExactRatInt", spec := "fnExactRatInt", apart := false }
def FnExactRatIntSaid : Prop := fnExactRatIntRow.holds Try.pinned (OpenSpec.ofChange fnExactRatIntSpec)

/-- ITS FALSE NEIGHBOUR: 'it returns false'. Refute it at one input. -/
def fnExactRatIntWrong : ChangeSpec := { name := "fnExactRatInt", fn := fun _ => fun
  | [d] => { results := [.lit (.bool false)], args := [d] }
  | _ => none }
def FnExactRatIntWrongFalsely : Prop := fnExactRatIntRow.holds Try.pinned (OpenSpec.ofChange fnExactRatIntWrong)

/-- 'laws.FnExactRatNeg': WHATEVER THE INPUT: true; the input reads as it did. -/
def fnExactRatNegSpec : ChangeSpec := { name := "fnExactRatNeg", fn := fun _ => fun
  | [d] => { results := [.lit (.bool true)], args := [d] }
  | _ => none }
def fnExactRatNegRow : OpenClaim := { program := "ytoandabopahmhaa", sum := "4297e5cd785b40d4d1ea8dcf20cf0e79a33b43f56bf98110d388f850ac20e1fd", func := "loop.example/g00793/laws.FnExactRatNeg", spec := "fnExactRatNeg", apart := false }
def FnExactRatNegSaid : Prop := fnExactRatNegRow.holds Try.pinned (OpenSpec.ofChange fnExactRatNegSpec)

/-- ITS FALSE NEIGHBOUR: 'it returns false'. Refute it at one input. -/
def fnExactRatNegWrong : ChangeSpec := { name := "fnExactRatNeg", fn := fun _ => fun
  | [d] => { results := [.lit (.bool false)], args := [d] }
  | _ => none }
def FnExactRatNegWrongFalsely : Prop := fnExactRatNegRow.holds Try.pinned (OpenSpec.ofChange fnExactRatNegWrong)

/-- 'laws.FnExactRatCmp': WHATEVER THE INPUT: true; the input reads as it did. -/
def fnExactRatCmpSpec : ChangeSpec := { name := "fnExactRatCmp", fn := fun _ => fun
  | [d1, d2] => { results := [.lit (.bool true)], args := [d1, d2] }
  | _ => none }
def fnExactRatCmpRow : OpenClaim := { program := "ytoandabopahmhaa", sum := "4297e5cd785b40d4d1ea8dcf20cf0e79a33b43f56bf98110d388f850ac20e1fd", func := "loop.example/g00793/laws.FnExactRatCmp", spec := "fnExactRatCmp", apart := false }
def FnExactRatCmpSaid : Prop := fnExactRatCmpRow.holds Try.pinned (OpenSpec.ofChange fnExactRatCmpSpec)

/-- ITS FALSE NEIGHBOUR: 'it returns false'. Refute it at one input. -/
def fnExactRatCmpWrong : ChangeSpec := { name := "fnExactRatCmp", fn := fun _ => fun
  | [d1, d2] => { results := [.lit (.bool false)], args := [d1, d2] }
  | _ => none }
def FnExactRatCmpWrongFalsely : Prop := fnExactRatCmpRow.holds Try.pinned (OpenSpec.ofChange fnExactRatCmpWrong)

/-- 'laws.FnExactRatDiv': WHATEVER THE INPUT: true; the input reads as it did. -/
def fnExactRatDivSpec : ChangeSpec := { name := "fnExactRatDiv", fn := fun _ => fun
  | [d1, d2] => { results := [.lit (.bool true)], args := [d1, d2] }
  | _ => none }
def fnExactRatDivRow : OpenClaim := { program := "ytoandabopahmhaa", sum := "4297e5cd785b40d4d1ea8dcf20cf0e79a33b43f56bf98110d388f850ac20e1fd", func := "loop.example/g00793/laws.FnExactRatDiv", spec := "fnExactRatDiv", apart := false }
def FnExactRatDivSaid : Prop := fnExactRatDivRow.holds Try.pinned (OpenSpec.ofChange fnExactRatDivSpec)

/-- ITS FALSE NEIGHBOUR: 'it returns false'. Refute it at one input. -/
def fnExactRatDivWrong : ChangeSpec := { name := "fnExactRatDiv", fn := fun _ => fun
  | [d1, d2] => { results := [.lit (.bool false)], args := [d1, d2] }
  | _ => none }
def FnExactRatDivWrongFalsely : Prop := fnExactRatDivRow.holds Try.pinned (OpenSpec.ofChange fnExactRatDivWrong)

/-- 'laws.FnExactRatMul': WHATEVER THE INPUT: true; the input reads as it did. -/
def fnExactRatMulSpec : ChangeSpec := { name := "fnExactRatMul", fn := fun _ => fun
  | [d1, d2] => { results := [.lit (.bool true)], args := [d1, d2] }
  | _ => none }
def fnExactRatMulRow : OpenClaim := { program := "ytoandabopahmhaa", sum := "4297e5cd785b40d4d1ea8dcf20cf0e79a33b43f56bf98110d388f850ac20e1fd", func := "loop.example/g00793/laws.FnExactRatMul", spec := "fnExactRatMul", apart := false }
def FnExactRatMulSaid : Prop := fnExactRatMulRow.holds Try.pinned (OpenSpec.ofChange fnExactRatMulSpec)

/-- ITS FALSE NEIGHBOUR: 'it returns false'. Refute it at one input. -/
def fnExactRatMulWrong : ChangeSpec := { name := "fnExactRatMul", fn := fun _ => fun
  | [d1, d2] => { results := [.lit (.bool false)], args := [d1, d2] }
  | _ => none }
def FnExactRatMulWrongFalsely : Prop := fnExactRatMulRow.holds Try.pinned (OpenSpec.ofChange fnExactRatMulWrong)

/-- 'laws.FnExactRatAdd': WHATEVER THE INPUT: true; the input reads as it did. -/
def fnExactRatAddSpec : ChangeSpec := { name := "fnExactRatAdd", fn := fun _ => fun
  | [d1, d2] => { results := [.lit (.bool true)], args := [d1, d2] }
  | _ => none }
def fnExactRatAddRow : OpenClaim := { program := "ytoandabopahmhaa", sum := "4297e5cd785b40d4d1ea8dcf20cf0e79a33b43f56bf98110d388f850ac20e1fd", func := "loop.example/g00793/laws.FnExactRatAdd", spec := "fnExactRatAdd", unfollowed := true, recurses := true, apart := false }
def FnExactRatAddSaid : Prop := fnExactRatAddRow.holds Try.pinned (OpenSpec.ofChange fnExactRatAddSpec)

/-- ITS FALSE NEIGHBOUR: 'it returns false'. Refute it at one input. -/
def fnExactRatAddWrong : ChangeSpec := { name := "fnExactRatAdd", fn := fun _ => fun
  | [d1, d2] => { results := [.lit (.bool false)], args := [d1, d2] }
  | _ => none }
def FnExactRatAddWrongFalsely : Prop := fnExactRatAddRow.holds Try.pinned (OpenSpec.ofChange fnExactRatAddWrong)

/-- 'laws.FnExactRatSub': WHATEVER THE INPUT: true; the input reads as it did. -/
def fnExactRatSubSpec : ChangeSpec := { name := "fnExactRatSub", fn := fun _ => fun
  | [d1, d2] => { results := [.lit (.bool true)], args := [d1, d2] }
  | _ => none }
def fnExactRatSubRow : OpenClaim := { program := "ytoandabopahmhaa", sum := "4297e5cd785b40d4d1ea8dcf20cf0e79a33b43f56bf98110d388f850ac20e1fd", func := "loop.example/g00793/laws.FnExactRatSub", spec := "fnExactRatSub", unfollowed := true, recurses := true, apart := false }
def FnExactRatSubSaid : Prop := fnExactRatSubRow.holds Try.pinned (OpenSpec.ofChange fnExactRatSubSpec)

/-- ITS FALSE NEIGHBOUR: 'it returns false'. Refute it at one input. -/
def fnExactRatSubWrong : ChangeSpec := { name := "fnExactRatSub", fn := fun _ => fun
  | [d1, d2] => { results := [.lit (.bool false)], args := [d1, d2] }
  | _ => none }
def FnExactRatSubWrongFalsely : Prop := fnExactRatSubRow.holds Try.pinned (OpenSpec.ofChange fnExactRatSubWrong)

/-- 'laws.FnStep': WHATEVER THE INPUT: true; the input reads as it did. -/
def fnStepSpec : ChangeSpec := { name := "fnStep", fn := fun _ => fun
  | [d] => { results := [.lit (.bool true)], args := [d] }
  | _ => none }
def fnStepRow : OpenClaim := { program := "ytoandabopahmhaa", sum := "4297e5cd785b40d4d1ea8dcf20cf0e79a33b43f56bf98110d388f850ac20e1fd", func := "loop.example/g00793/laws.FnStep", spec := "fnStep", unfollowed := true, recurses := true, apart := false }
def FnStepSaid : Prop := fnStepRow.holds Try.pinned (OpenSpec.ofChange fnStepSpec)

/-- ITS FALSE NEIGHBOUR: 'it returns false'. Refute it at one input. -/
def fnStepWrong : ChangeSpec := { name := "fnStep", fn := fun _ => fun
  | [d] => { results := [.lit (.bool false)], args := [d] }
  | _ => none }
def FnStepWrongFalsely : Prop := fnStepRow.holds Try.pinned (OpenSpec.ofChange fnStepWrong)

/- THE SECOND FORM. 'bulk': how many values and letters a reading holds, each counted each time it is reached (what is shared counts as often as it is met; a slice's spare places count too). A statement '..UptoSaid' is the law's where the arguments, and the package variables that the reading takes, are together of bulk at most 1048576: NARROWER than '..Said'. Prove '..Said' where nothing that the law and all that it calls make is longer than what came in: it says more and counts as full. Else prove '..UptoSaid'. A law counts once. -/
mutual
def uptoBulk {H : Type} : DataW H → Nat
  | .lit (.string bytes) => bytes.length + 1
  | .lit _ => 1
  | .nil => 1
  | .ptr d => uptoBulk d + 1
  | .slice elems spare => uptoBulkAll elems + uptoBulkAll spare + 1
  | .agg parts => uptoBulkAll parts + 1
  | .iface _ d => uptoBulk d + 1
  | .map entries => uptoBulkEntries entries + 1
  | .held _ => 1
def uptoBulkAll {H : Type} : List (DataW H) → Nat
  | [] => 0
  | d :: r => uptoBulk d + uptoBulkAll r
def uptoBulkEntries {H : Type} : List (Lit × DataW H) → Nat
  | [] => 0
  | x :: r => uptoBulkEntry x + uptoBulkEntries r
def uptoBulkEntry {H : Type} : Lit × DataW H → Nat
  | (.string bytes, d) => bytes.length + uptoBulk d + 1
  | (_, d) => uptoBulk d + 1
 end
def uptoSmall : (H : Type) → List (DataW H) → Bool := fun _ ds => decide (uptoBulkAll ds ≤ 1048576)
def OpenSpec.upto (s : _root_.Go.ChangeSpec) : _root_.Go.OpenSpec := { _root_.Go.OpenSpec.ofChange s with cond := some uptoSmall }

/-- 'laws.FnExactRatOk', WHERE WHAT IT READS IS OF BULK AT MOST 1048576: true; the input reads as it did. -/
def fnExactRatOkUptoRow : OpenClaim := { program := "ytoandabopahmhaa", sum := "4297e5cd785b40d4d1ea8dcf20cf0e79a33b43f56bf98110d388f850ac20e1fd", func := "loop.example/g00793/laws.FnExactRatOk", spec := "fnExactRatOk", apart := false, narrowed := true }
def FnExactRatOkUptoSaid : Prop := fnExactRatOkUptoRow.holds Try.pinned (OpenSpec.upto fnExactRatOkSpec)

/-- 'laws.FnExactRatHalf', WHERE WHAT IT READS IS OF BULK AT MOST 1048576: true; the input reads as it did. -/
def fnExactRatHalfUptoRow : OpenClaim := { program := "ytoandabopahmhaa", sum := "4297e5cd785b40d4d1ea8dcf20cf0e79a33b43f56bf98110d388f850ac20e1fd", func := "loop.example/g00793/laws.FnExactRatHalf", spec := "fnExactRatHalf", apart := false, narrowed := true }
def FnExactRatHalfUptoSaid : Prop := fnExactRatHalfUptoRow.holds Try.pinned (OpenSpec.upto fnExactRatHalfSpec)

/-- 'laws.FnExactRatSign', WHERE WHAT IT READS IS OF BULK AT MOST 1048576: true; the input reads as it did. -/
def fnExactRatSignUptoRow : OpenClaim := { program := "ytoandabopahmhaa", sum := "4297e5cd785b40d4d1ea8dcf20cf0e79a33b43f56bf98110d388f850ac20e1fd", func := "loop.example/g00793/laws.FnExactRatSign", spec := "fnExactRatSign", apart := false, narrowed := true }
def FnExactRatSignUptoSaid : Prop := fnExactRatSignUptoRow.holds Try.pinned (OpenSpec.upto fnExactRatSignSpec)

/-- 'laws.FnExactRatMake', WHERE WHAT IT READS IS OF BULK AT MOST 1048576: true; the input reads as it did. -/
def fnExactRatMakeUptoRow : OpenClaim := { program := "ytoandabopahmhaa", sum := "4297e5cd785b40d4d1ea8dcf20cf0e79a33b43f56bf98110d388f850ac20e1fd", func := "loop.example/g00793/laws.FnExactRatMake", spec := "fnExactRatMake", apart := false, narrowed := true }
def FnExactRatMakeUptoSaid : Prop := fnExactRatMakeUptoRow.holds Try.pinned (OpenSpec.upto fnExactRatMakeSpec)

/-- 'laws.FnExactRatInt', WHERE WHAT IT READS IS OF BULK AT MOST 1048576: true; the input reads as it did. -/
def fnExactRatIntUptoRow : OpenClaim := { program := "ytoandabopahmhaa", sum := "4297e5cd785b40d4d1ea8dcf20cf0e79a33b43f56bf98110d388f850ac20e1fd", func := "loop.example/g00793/laws.FnExactRatInt", spec := "fnExactRatInt", apart := false, narrowed := true }
def FnExactRatIntUptoSaid : Prop := fnExactRatIntUptoRow.holds Try.pinned (OpenSpec.upto fnExactRatIntSpec)

/-- 'laws.FnExactRatNeg', WHERE WHAT IT READS IS OF BULK AT MOST 1048576: true; the input reads as it did. -/
def fnExactRatNegUptoRow : OpenClaim := { program := "ytoandabopahmhaa", sum := "4297e5cd785b40d4d1ea8dcf20cf0e79a33b43f56bf98110d388f850ac20e1fd", func := "loop.example/g00793/laws.FnExactRatNeg", spec := "fnExactRatNeg", apart := false, narrowed := true }
def FnExactRatNegUptoSaid : Prop := fnExactRatNegUptoRow.holds Try.pinned (OpenSpec.upto fnExactRatNegSpec)

/-- 'laws.FnExactRatCmp', WHERE WHAT IT READS IS OF BULK AT MOST 1048576: true; the input reads as it did. -/
def fnExactRatCmpUptoRow : OpenClaim := { program := "ytoandabopahmhaa", sum := "4297e5cd785b40d4d1ea8dcf20cf0e79a33b43f56bf98110d388f850ac20e1fd", func := "loop.example/g00793/laws.FnExactRatCmp", spec := "fnExactRatCmp", apart := false, narrowed := true }
def FnExactRatCmpUptoSaid : Prop := fnExactRatCmpUptoRow.holds Try.pinned (OpenSpec.upto fnExactRatCmpSpec)

/-- 'laws.FnExactRatDiv', WHERE WHAT IT READS IS OF BULK AT MOST 1048576: true; the input reads as it did. -/
def fnExactRatDivUptoRow : OpenClaim := { program := "ytoandabopahmhaa", sum := "4297e5cd785b40d4d1ea8dcf20cf0e79a33b43f56bf98110d388f850ac20e1fd", func := "loop.example/g00793/laws.FnExactRatDiv", spec := "fnExactRatDiv", apart := false, narrowed := true }
def FnExactRatDivUptoSaid : Prop := fnExactRatDivUptoRow.holds Try.pinned (OpenSpec.upto fnExactRatDivSpec)

/-- 'laws.FnExactRatMul', WHERE WHAT IT READS IS OF BULK AT MOST 1048576: true; the input reads as it did. -/
def fnExactRatMulUptoRow : OpenClaim := { program := "ytoandabopahmhaa", sum := "4297e5cd785b40d4d1ea8dcf20cf0e79a33b43f56bf98110d388f850ac20e1fd", func := "loop.example/g00793/laws.FnExactRatMul", spec := "fnExactRatMul", apart := false, narrowed := true }
def FnExactRatMulUptoSaid : Prop := fnExactRatMulUptoRow.holds Try.pinned (OpenSpec.upto fnExactRatMulSpec)

/-- 'laws.FnExactRatAdd', WHERE WHAT IT READS IS OF BULK AT MOST 1048576: true; the input reads as it did. -/
def fnExactRatAddUptoRow : OpenClaim := { program := "ytoandabopahmhaa", sum := "4297e5cd785b40d4d1ea8dcf20cf0e79a33b43f56bf98110d388f850ac20e1fd", func := "loop.example/g00793/laws.FnExactRatAdd", spec := "fnExactRatAdd", unfollowed := true, recurses := true, apart := false, narrowed := true }
def FnExactRatAddUptoSaid : Prop := fnExactRatAddUptoRow.holds Try.pinned (OpenSpec.upto fnExactRatAddSpec)

/-- 'laws.FnExactRatSub', WHERE WHAT IT READS IS OF BULK AT MOST 1048576: true; the input reads as it did. -/
def fnExactRatSubUptoRow : OpenClaim := { program := "ytoandabopahmhaa", sum := "4297e5cd785b40d4d1ea8dcf20cf0e79a33b43f56bf98110d388f850ac20e1fd", func := "loop.example/g00793/laws.FnExactRatSub", spec := "fnExactRatSub", unfollowed := true, recurses := true, apart := false, narrowed := true }
def FnExactRatSubUptoSaid : Prop := fnExactRatSubUptoRow.holds Try.pinned (OpenSpec.upto fnExactRatSubSpec)

/-- 'laws.FnStep', WHERE WHAT IT READS IS OF BULK AT MOST 1048576: true; the input reads as it did. -/
def fnStepUptoRow : OpenClaim := { program := "ytoandabopahmhaa", sum := "4297e5cd785b40d4d1ea8dcf20cf0e79a33b43f56bf98110d388f850ac20e1fd", func := "loop.example/g00793/laws.FnStep", spec := "fnStep", unfollowed := true, recurses := true, apart := false, narrowed := true }
def FnStepUptoSaid : Prop := fnStepUptoRow.holds Try.pinned (OpenSpec.upto fnStepSpec)

end Rows
end Go.Proofs.Ytoandabopahmhaa
