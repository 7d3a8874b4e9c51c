/-
  No cell of these rows narrows 'for every input' (looked for: loops, veiled, ifaces, maps, wideKeys, modest, calm, conditions, laid).
  DERIVED. THE GIVEN ROWS OF THIS SEAT. 10 by the template 'for every input the law returns true; each argument reads behind the call as it read before'; 0 by the template 'total and deterministic' (their statements: YtfaiogmigibmmaaTotals.lean).
  GIVEN WITH THE SEED: the statements are not yours to turn. If you find one false, say at which input.
  Laid BY PROGRAM, IN A SANDBOX (cutbox-rows.mjs): the forced cells as the released guide's own fill.sh prints them over the translation 96db3cba965f6fa8… (all of the seat's roots in one cut). By AI agents, Wed Nov 11 2026. No macro, syntax, notation, axiom, sorry.
-/
import Derived.Test.YtfaiogmigibmmaaChecked
import GoSem.Claim
import GoSem.ClaimJoined
import GoSem.ClaimMapViews
import Derived.JoinedTies
import Derived.KernelRfl
namespace Go.Proofs.Ytfaiogmigibmmaa
/- THE CELL 'sum', in the pinned program and in every row, IS THE sha256 OF THE DUMP (.gsa) THAT YtfaiogmigibmmaaProg.lean LOADS. Nothing in Lean hashes anything: it is a label: what it is worth is what the hold of that sum in a sandbox is worth. -/
noncomputable def Try.pinned : Pinned := { name := "ytfaiogmigibmmaa", sum := "96db3cba965f6fa86e71aa0096990fb25f45c1bb039c60e118542c1f32105cbc", checked := Try.checked }
namespace Rows
def none {H : Type} : Left H := { results := [], args := [] }

/-- 'laws.FnExactNatEven': WHATEVER THE INPUT: true; the input reads as it did. -/
def fnExactNatEvenSpec : ChangeSpec := { name := "fnExactNatEven", fn := fun _ => fun
  | [d] => { results := [.lit (.bool true)], args := [d] }
  | _ => none }
def fnExactNatEvenRow : OpenClaim := { program := "ytfaiogmigibmmaa", sum := "96db3cba965f6fa86e71aa0096990fb25f45c1bb039c60e118542c1f32105cbc", func := "loop.example/g00793/laws.FnExactNatEven", spec := "fnExactNatEven", apart := false }
def FnExactNatEvenSaid : Prop := fnExactNatEvenRow.holds Try.pinned (OpenSpec.ofChange fnExactNatEvenSpec)

/-- ITS FALSE NEIGHBOUR: 'it returns false'. Refute it at one input. -/
def fnExactNatEvenWrong : ChangeSpec := { name := "fnExactNatEven", fn := fun _ => fun
  | [d] => { results := [.lit (.bool false)], args := [d] }
  | _ => none }
def FnExactNatEvenWrongFalsely : Prop := fnExactNatEvenRow.holds Try.pinned (OpenSpec.ofChange fnExactNatEvenWrong)

/-- 'laws.FnExactNatOf': WHATEVER THE INPUT: true; the input reads as it did. -/
def fnExactNatOfSpec : ChangeSpec := { name := "fnExactNatOf", fn := fun _ => fun
  | [d] => { results := [.lit (.bool true)], args := [d] }
  | _ => none }
def fnExactNatOfRow : OpenClaim := { program := "ytfaiogmigibmmaa", sum := "96db3cba965f6fa86e71aa0096990fb25f45c1bb039c60e118542c1f32105cbc", func := "loop.example/g00793/laws.FnExactNatOf", spec := "fnExactNatOf", apart := false }
def FnExactNatOfSaid : Prop := fnExactNatOfRow.holds Try.pinned (OpenSpec.ofChange fnExactNatOfSpec)

/-- ITS FALSE NEIGHBOUR: 'it returns false'. Refute it at one input. -/
def fnExactNatOfWrong : ChangeSpec := { name := "fnExactNatOf", fn := fun _ => fun
  | [d] => { results := [.lit (.bool false)], args := [d] }
  | _ => none }
def FnExactNatOfWrongFalsely : Prop := fnExactNatOfRow.holds Try.pinned (OpenSpec.ofChange fnExactNatOfWrong)

/-- 'laws.FnExactNatTen': WHATEVER THE INPUT: true; the input reads as it did. -/
def fnExactNatTenSpec : ChangeSpec := { name := "fnExactNatTen", fn := fun _ => fun
  | [d] => { results := [.lit (.bool true)], args := [d] }
  | _ => none }
def fnExactNatTenRow : OpenClaim := { program := "ytfaiogmigibmmaa", sum := "96db3cba965f6fa86e71aa0096990fb25f45c1bb039c60e118542c1f32105cbc", func := "loop.example/g00793/laws.FnExactNatTen", spec := "fnExactNatTen", apart := false }
def FnExactNatTenSaid : Prop := fnExactNatTenRow.holds Try.pinned (OpenSpec.ofChange fnExactNatTenSpec)

/-- ITS FALSE NEIGHBOUR: 'it returns false'. Refute it at one input. -/
def fnExactNatTenWrong : ChangeSpec := { name := "fnExactNatTen", fn := fun _ => fun
  | [d] => { results := [.lit (.bool false)], args := [d] }
  | _ => none }
def FnExactNatTenWrongFalsely : Prop := fnExactNatTenRow.holds Try.pinned (OpenSpec.ofChange fnExactNatTenWrong)

/-- 'laws.FnExactNatCmp': WHATEVER THE INPUT: true; the input reads as it did. -/
def fnExactNatCmpSpec : ChangeSpec := { name := "fnExactNatCmp", fn := fun _ => fun
  | [d1, d2] => { results := [.lit (.bool true)], args := [d1, d2] }
  | _ => none }
def fnExactNatCmpRow : OpenClaim := { program := "ytfaiogmigibmmaa", sum := "96db3cba965f6fa86e71aa0096990fb25f45c1bb039c60e118542c1f32105cbc", func := "loop.example/g00793/laws.FnExactNatCmp", spec := "fnExactNatCmp", apart := false }
def FnExactNatCmpSaid : Prop := fnExactNatCmpRow.holds Try.pinned (OpenSpec.ofChange fnExactNatCmpSpec)

/-- ITS FALSE NEIGHBOUR: 'it returns false'. Refute it at one input. -/
def fnExactNatCmpWrong : ChangeSpec := { name := "fnExactNatCmp", fn := fun _ => fun
  | [d1, d2] => { results := [.lit (.bool false)], args := [d1, d2] }
  | _ => none }
def FnExactNatCmpWrongFalsely : Prop := fnExactNatCmpRow.holds Try.pinned (OpenSpec.ofChange fnExactNatCmpWrong)

/-- 'laws.FnExactNatInt': WHATEVER THE INPUT: true; the input reads as it did. -/
def fnExactNatIntSpec : ChangeSpec := { name := "fnExactNatInt", fn := fun _ => fun
  | [d] => { results := [.lit (.bool true)], args := [d] }
  | _ => none }
def fnExactNatIntRow : OpenClaim := { program := "ytfaiogmigibmmaa", sum := "96db3cba965f6fa86e71aa0096990fb25f45c1bb039c60e118542c1f32105cbc", func := "loop.example/g00793/laws.FnExactNatInt", spec := "fnExactNatInt", apart := false }
def FnExactNatIntSaid : Prop := fnExactNatIntRow.holds Try.pinned (OpenSpec.ofChange fnExactNatIntSpec)

/-- ITS FALSE NEIGHBOUR: 'it returns false'. Refute it at one input. -/
def fnExactNatIntWrong : ChangeSpec := { name := "fnExactNatInt", fn := fun _ => fun
  | [d] => { results := [.lit (.bool false)], args := [d] }
  | _ => none }
def FnExactNatIntWrongFalsely : Prop := fnExactNatIntRow.holds Try.pinned (OpenSpec.ofChange fnExactNatIntWrong)

/-- 'laws.FnExactTextNat': WHATEVER THE INPUT: true; the input reads as it did. -/
def fnExactTextNatSpec : ChangeSpec := { name := "fnExactTextNat", fn := fun _ => fun
  | [d] => { results := [.lit (.bool true)], args := [d] }
  | _ => none }
def fnExactTextNatRow : OpenClaim := { program := "ytfaiogmigibmmaa", sum := "96db3cba965f6fa86e71aa0096990fb25f45c1bb039c60e118542c1f32105cbc", func := "loop.example/g00793/laws.FnExactTextNat", spec := "fnExactTextNat", apart := false }
def FnExactTextNatSaid : Prop := fnExactTextNatRow.holds Try.pinned (OpenSpec.ofChange fnExactTextNatSpec)

/-- ITS FALSE NEIGHBOUR: 'it returns false'. Refute it at one input. -/
def fnExactTextNatWrong : ChangeSpec := { name := "fnExactTextNat", fn := fun _ => fun
  | [d] => { results := [.lit (.bool false)], args := [d] }
  | _ => none }
def FnExactTextNatWrongFalsely : Prop := fnExactTextNatRow.holds Try.pinned (OpenSpec.ofChange fnExactTextNatWrong)

/-- 'laws.FnExactNatAdd': WHATEVER THE INPUT: true; the input reads as it did. -/
def fnExactNatAddSpec : ChangeSpec := { name := "fnExactNatAdd", fn := fun _ => fun
  | [d1, d2] => { results := [.lit (.bool true)], args := [d1, d2] }
  | _ => none }
def fnExactNatAddRow : OpenClaim := { program := "ytfaiogmigibmmaa", sum := "96db3cba965f6fa86e71aa0096990fb25f45c1bb039c60e118542c1f32105cbc", func := "loop.example/g00793/laws.FnExactNatAdd", spec := "fnExactNatAdd", apart := false }
def FnExactNatAddSaid : Prop := fnExactNatAddRow.holds Try.pinned (OpenSpec.ofChange fnExactNatAddSpec)

/-- ITS FALSE NEIGHBOUR: 'it returns false'. Refute it at one input. -/
def fnExactNatAddWrong : ChangeSpec := { name := "fnExactNatAdd", fn := fun _ => fun
  | [d1, d2] => { results := [.lit (.bool false)], args := [d1, d2] }
  | _ => none }
def FnExactNatAddWrongFalsely : Prop := fnExactNatAddRow.holds Try.pinned (OpenSpec.ofChange fnExactNatAddWrong)

/-- 'laws.FnExactNatSub': WHATEVER THE INPUT: true; the input reads as it did. -/
def fnExactNatSubSpec : ChangeSpec := { name := "fnExactNatSub", fn := fun _ => fun
  | [d1, d2] => { results := [.lit (.bool true)], args := [d1, d2] }
  | _ => none }
def fnExactNatSubRow : OpenClaim := { program := "ytfaiogmigibmmaa", sum := "96db3cba965f6fa86e71aa0096990fb25f45c1bb039c60e118542c1f32105cbc", func := "loop.example/g00793/laws.FnExactNatSub", spec := "fnExactNatSub", apart := false }
def FnExactNatSubSaid : Prop := fnExactNatSubRow.holds Try.pinned (OpenSpec.ofChange fnExactNatSubSpec)

/-- ITS FALSE NEIGHBOUR: 'it returns false'. Refute it at one input. -/
def fnExactNatSubWrong : ChangeSpec := { name := "fnExactNatSub", fn := fun _ => fun
  | [d1, d2] => { results := [.lit (.bool false)], args := [d1, d2] }
  | _ => none }
def FnExactNatSubWrongFalsely : Prop := fnExactNatSubRow.holds Try.pinned (OpenSpec.ofChange fnExactNatSubWrong)

/-- 'laws.FnExactNatMul': WHATEVER THE INPUT: true; the input reads as it did. -/
def fnExactNatMulSpec : ChangeSpec := { name := "fnExactNatMul", fn := fun _ => fun
  | [d1, d2] => { results := [.lit (.bool true)], args := [d1, d2] }
  | _ => none }
def fnExactNatMulRow : OpenClaim := { program := "ytfaiogmigibmmaa", sum := "96db3cba965f6fa86e71aa0096990fb25f45c1bb039c60e118542c1f32105cbc", func := "loop.example/g00793/laws.FnExactNatMul", spec := "fnExactNatMul", apart := false }
def FnExactNatMulSaid : Prop := fnExactNatMulRow.holds Try.pinned (OpenSpec.ofChange fnExactNatMulSpec)

/-- ITS FALSE NEIGHBOUR: 'it returns false'. Refute it at one input. -/
def fnExactNatMulWrong : ChangeSpec := { name := "fnExactNatMul", fn := fun _ => fun
  | [d1, d2] => { results := [.lit (.bool false)], args := [d1, d2] }
  | _ => none }
def FnExactNatMulWrongFalsely : Prop := fnExactNatMulRow.holds Try.pinned (OpenSpec.ofChange fnExactNatMulWrong)

/-- 'laws.FnExactNatScale': WHATEVER THE INPUT: true; the input reads as it did. -/
def fnExactNatScaleSpec : ChangeSpec := { name := "fnExactNatScale", fn := fun _ => fun
  | [d1, d2] => { results := [.lit (.bool true)], args := [d1, d2] }
  | _ => none }
def fnExactNatScaleRow : OpenClaim := { program := "ytfaiogmigibmmaa", sum := "96db3cba965f6fa86e71aa0096990fb25f45c1bb039c60e118542c1f32105cbc", func := "loop.example/g00793/laws.FnExactNatScale", spec := "fnExactNatScale", apart := false }
def FnExactNatScaleSaid : Prop := fnExactNatScaleRow.holds Try.pinned (OpenSpec.ofChange fnExactNatScaleSpec)

/-- ITS FALSE NEIGHBOUR: 'it returns false'. Refute it at one input. -/
def fnExactNatScaleWrong : ChangeSpec := { name := "fnExactNatScale", fn := fun _ => fun
  | [d1, d2] => { results := [.lit (.bool false)], args := [d1, d2] }
  | _ => none }
def FnExactNatScaleWrongFalsely : Prop := fnExactNatScaleRow.holds Try.pinned (OpenSpec.ofChange fnExactNatScaleWrong)

/- THE SECOND FORM. 'bulk': how many values and letters a reading holds, each counted each time it is reached (what is shared counts as often as it is met; a slice's spare places count too). A statement '..UptoSaid' is the law's where the arguments, and the package variables that the reading takes, are together of bulk at most 1048576: NARROWER than '..Said'. Prove '..Said' where nothing that the law and all that it calls make is longer than what came in: it says more and counts as full. Else prove '..UptoSaid'. A law counts once. -/
mutual
def uptoBulk {H : Type} : DataW H → Nat
  | .lit (.string bytes) => bytes.length + 1
  | .lit _ => 1
  | .nil => 1
  | .ptr d => uptoBulk d + 1
  | .slice elems spare => uptoBulkAll elems + uptoBulkAll spare + 1
  | .agg parts => uptoBulkAll parts + 1
  | .iface _ d => uptoBulk d + 1
  | .map entries => uptoBulkEntries entries + 1
  | .held _ => 1
def uptoBulkAll {H : Type} : List (DataW H) → Nat
  | [] => 0
  | d :: r => uptoBulk d + uptoBulkAll r
def uptoBulkEntries {H : Type} : List (Lit × DataW H) → Nat
  | [] => 0
  | x :: r => uptoBulkEntry x + uptoBulkEntries r
def uptoBulkEntry {H : Type} : Lit × DataW H → Nat
  | (.string bytes, d) => bytes.length + uptoBulk d + 1
  | (_, d) => uptoBulk d + 1
 end
def uptoSmall : (H : Type) → List (DataW H) → Bool := fun _ ds => decide (uptoBulkAll ds ≤ 1048576)
def OpenSpec.upto (s : _root_.Go.ChangeSpec) : _root_.Go.OpenSpec := { _root_.Go.OpenSpec.ofChange s with cond := some uptoSmall }

/-- 'laws.FnExactNatEven', WHERE WHAT IT READS IS OF BULK AT MOST 1048576: true; the input reads as it did. -/
def fnExactNatEvenUptoRow : OpenClaim := { program := "ytfaiogmigibmmaa", sum := "96db3cba965f6fa86e71aa0096990fb25f45c1bb039c60e118542c1f32105cbc", func := "loop.example/g00793/laws.FnExactNatEven", spec := "fnExactNatEven", apart := false, narrowed := true }
def FnExactNatEvenUptoSaid : Prop := fnExactNatEvenUptoRow.holds Try.pinned (OpenSpec.upto fnExactNatEvenSpec)

/-- 'laws.FnExactNatOf', WHERE WHAT IT READS IS OF BULK AT MOST 1048576: true; the input reads as it did. -/
def fnExactNatOfUptoRow : OpenClaim := { program := "ytfaiogmigibmmaa", sum := "96db3cba965f6fa86e71aa0096990fb25f45c1bb039c60e118542c1f32105cbc", func := "loop.example/g00793/laws.FnExactNatOf", spec := "fnExactNatOf", apart := false, narrowed := true }
def FnExactNatOfUptoSaid : Prop := fnExactNatOfUptoRow.holds Try.pinned (OpenSpec.upto fnExactNatOfSpec)

/-- 'laws.FnExactNatTen', WHERE WHAT IT READS IS OF BULK AT MOST 1048576: true; the input reads as it did. -/
def fnExactNatTenUptoRow : OpenClaim := { program := "ytfaiogmigibmmaa", sum := "96db3cba965f6fa86e71aa0096990fb25f45c1bb039c60e118542c1f32105cbc", func := "loop.example/g00793/laws.FnExactNatTen", spec := "fnExactNatTen", apart := false, narrowed := true }
def FnExactNatTenUptoSaid : Prop := fnExactNatTenUptoRow.holds Try.pinned (OpenSpec.upto fnExactNatTenSpec)

/-- 'laws.FnExactNatCmp', WHERE WHAT IT READS IS OF BULK AT MOST 1048576: true; the input reads as it did. -/
def fnExactNatCmpUptoRow : OpenClaim := { program := "ytfaiogmigibmmaa", sum := "96db3cba965f6fa86e71aa0096990fb25f45c1bb039c60e118542c1f32105cbc", func := "loop.example/g00793/laws.FnExactNatCmp", spec := "fnExactNatCmp", apart := false, narrowed := true }
def FnExactNatCmpUptoSaid : Prop := fnExactNatCmpUptoRow.holds Try.pinned (OpenSpec.upto fnExactNatCmpSpec)

/-- 'laws.FnExactNatInt', WHERE WHAT IT READS IS OF BULK AT MOST 1048576: true; the input reads as it did. -/
def fnExactNatIntUptoRow : OpenClaim := { program := "ytfaiogmigibmmaa", sum := "96db3cba965f6fa86e71aa0096990fb25f45c1bb039c60e118542c1f32105cbc", func := "loop.example/g00793/laws.FnExactNatInt", spec := "fnExactNatInt", apart := false, narrowed := true }
def FnExactNatIntUptoSaid : Prop := fnExactNatIntUptoRow.holds Try.pinned (OpenSpec.upto fnExactNatIntSpec)

/-- 'laws.FnExactTextNat', WHERE WHAT IT READS IS OF BULK AT MOST 1048576: true; the input reads as it did. -/
def fnExactTextNatUptoRow : OpenClaim := { program := "ytfaiogmigibmmaa", sum := "96db3cba965f6fa86e71aa0096990fb25f45c1bb039c60e118542c1f32105cbc", func := "loop.example/g00793/laws.FnExactTextNat", spec := "fnExactTextNat", apart := false, narrowed := true }
def FnExactTextNatUptoSaid : Prop := fnExactTextNatUptoRow.holds Try.pinned (OpenSpec.upto fnExactTextNatSpec)

/-- 'laws.FnExactNatAdd', WHERE WHAT IT READS IS OF BULK AT MOST 1048576: true; the input reads as it did. -/
def fnExactNatAddUptoRow : OpenClaim := { program := "ytfaiogmigibmmaa", sum := "96db3cba965f6fa86e71aa0096990fb25f45c1bb039c60e118542c1f32105cbc", func := "loop.example/g00793/laws.FnExactNatAdd", spec := "fnExactNatAdd", apart := false, narrowed := true }
def FnExactNatAddUptoSaid : Prop := fnExactNatAddUptoRow.holds Try.pinned (OpenSpec.upto fnExactNatAddSpec)

/-- 'laws.FnExactNatSub', WHERE WHAT IT READS IS OF BULK AT MOST 1048576: true; the input reads as it did. -/
def fnExactNatSubUptoRow : OpenClaim := { program := "ytfaiogmigibmmaa", sum := "96db3cba965f6fa86e71aa0096990fb25f45c1bb039c60e118542c1f32105cbc", func := "loop.example/g00793/laws.FnExactNatSub", spec := "fnExactNatSub", apart := false, narrowed := true }
def FnExactNatSubUptoSaid : Prop := fnExactNatSubUptoRow.holds Try.pinned (OpenSpec.upto fnExactNatSubSpec)

/-- 'laws.FnExactNatMul', WHERE WHAT IT READS IS OF BULK AT MOST 1048576: true; the input reads as it did. -/
def fnExactNatMulUptoRow : OpenClaim := { program := "ytfaiogmigibmmaa", sum := "96db3cba965f6fa86e71aa0096990fb25f45c1bb039c60e118542c1f32105cbc", func := "loop.example/g00793/laws.FnExactNatMul", spec := "fnExactNatMul", apart := false, narrowed := true }
def FnExactNatMulUptoSaid : Prop := fnExactNatMulUptoRow.holds Try.pinned (OpenSpec.upto fnExactNatMulSpec)

/-- 'laws.FnExactNatScale', WHERE WHAT IT READS IS OF BULK AT MOST 1048576: true; the input reads as it did. -/
def fnExactNatScaleUptoRow : OpenClaim := { program := "ytfaiogmigibmmaa", sum := "96db3cba965f6fa86e71aa0096990fb25f45c1bb039c60e118542c1f32105cbc", func := "loop.example/g00793/laws.FnExactNatScale", spec := "fnExactNatScale", apart := false, narrowed := true }
def FnExactNatScaleUptoSaid : Prop := fnExactNatScaleUptoRow.holds Try.pinned (OpenSpec.upto fnExactNatScaleSpec)

end Rows
end Go.Proofs.Ytfaiogmigibmmaa
