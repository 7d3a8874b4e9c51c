/-
  NARROWER THAN 'FOR EVERY INPUT', by the rows' own cells (each row's printed sentence says how): FnExactIntText: laid · FnExactTextInt: laid · FnExactNatText: laid · FnExactNatDigits: laid · FnExactNatZeros: laid · FnExactIntStr: laid · FnExactRatText: laid.
  DERIVED. THE GIVEN ROWS OF THIS SEAT. 7 by the template 'for every input the law returns true; each argument reads behind the call as it read before'; 0 by the template 'total and deterministic' (their statements: YtmakcgiekfcofaaDoorTotals.lean).
  GIVEN WITH THE SEED: the statements are not yours to turn. If you find one false, say at which input.
  Laid BY PROGRAM, IN A SANDBOX (cutbox-rows.mjs): the forced cells as the released guide's own fill.sh prints them over the translation e2b6e9c396391fe5… (all of the seat's roots in one cut). By AI agents, Wed Nov 11 2026. No macro, syntax, notation, axiom, sorry.
-/
import Derived.Test.YtmakcgiekfcofaaDoorChecked
import GoSem.Claim
import GoSem.ClaimJoined
import GoSem.ClaimMapViews
import Derived.JoinedTies
import Derived.KernelRfl
namespace Go.Proofs.YtmakcgiekfcofaaDoor
/- THE CELL 'sum', in the pinned program and in every row, IS THE sha256 OF THE DUMP (.gsa) THAT YtmakcgiekfcofaaDoorProg.lean LOADS. Nothing in Lean hashes anything: it is a label: what it is worth is what the hold of that sum in a sandbox is worth. -/
noncomputable def Tryd.pinned : Pinned := { name := "ytmakcgiekfcofaadoor", sum := "e2b6e9c396391fe56ffe2dc0714a1fbfdd50563a10c673e4e99a3e966cb40775", checked := Tryd.checked }
namespace Rows
def none {H : Type} : Left H := { results := [], args := [] }

/- WHAT THE LISTED PACKAGE-LEVEL VARIABLES READ AS WHEN THE CALL BEGINS. Each datum BY PROGRAM (the guide's laid-datum.mjs) off the statement by which the dump's own 'gosem.cut.vars' lays the variable. In a bare row this is a premise. The card (YtmakcgiekfcofaaDoorCards.lean) ties it to the program's text. -/
def laid_math_bits_deBruijn32tab {H : Type} : DataW H := .agg [.lit (.int .u8 0), .lit (.int .u8 1), .lit (.int .u8 28), .lit (.int .u8 2), .lit (.int .u8 29), .lit (.int .u8 14), .lit (.int .u8 24), .lit (.int .u8 3), .lit (.int .u8 30), .lit (.int .u8 22), .lit (.int .u8 20), .lit (.int .u8 15), .lit (.int .u8 25), .lit (.int .u8 17), .lit (.int .u8 4), .lit (.int .u8 8), .lit (.int .u8 31), .lit (.int .u8 27), .lit (.int .u8 13), .lit (.int .u8 23), .lit (.int .u8 21), .lit (.int .u8 19), .lit (.int .u8 16), .lit (.int .u8 7), .lit (.int .u8 26), .lit (.int .u8 12), .lit (.int .u8 18), .lit (.int .u8 6), .lit (.int .u8 11), .lit (.int .u8 5), .lit (.int .u8 10), .lit (.int .u8 9)]
def laid_math_bits_deBruijn64tab {H : Type} : DataW H := .agg [.lit (.int .u8 0), .lit (.int .u8 1), .lit (.int .u8 56), .lit (.int .u8 2), .lit (.int .u8 57), .lit (.int .u8 49), .lit (.int .u8 28), .lit (.int .u8 3), .lit (.int .u8 61), .lit (.int .u8 58), .lit (.int .u8 42), .lit (.int .u8 50), .lit (.int .u8 38), .lit (.int .u8 29), .lit (.int .u8 17), .lit (.int .u8 4), .lit (.int .u8 62), .lit (.int .u8 47), .lit (.int .u8 59), .lit (.int .u8 36), .lit (.int .u8 45), .lit (.int .u8 43), .lit (.int .u8 51), .lit (.int .u8 22), .lit (.int .u8 53), .lit (.int .u8 39), .lit (.int .u8 33), .lit (.int .u8 30), .lit (.int .u8 24), .lit (.int .u8 18), .lit (.int .u8 12), .lit (.int .u8 5), .lit (.int .u8 63), .lit (.int .u8 55), .lit (.int .u8 48), .lit (.int .u8 27), .lit (.int .u8 60), .lit (.int .u8 41), .lit (.int .u8 37), .lit (.int .u8 16), .lit (.int .u8 46), .lit (.int .u8 35), .lit (.int .u8 44), .lit (.int .u8 21), .lit (.int .u8 52), .lit (.int .u8 32), .lit (.int .u8 23), .lit (.int .u8 11), .lit (.int .u8 54), .lit (.int .u8 26), .lit (.int .u8 40), .lit (.int .u8 15), .lit (.int .u8 34), .lit (.int .u8 20), .lit (.int .u8 31), .lit (.int .u8 10), .lit (.int .u8 25), .lit (.int .u8 14), .lit (.int .u8 19), .lit (.int .u8 9), .lit (.int .u8 13), .lit (.int .u8 8), .lit (.int .u8 7), .lit (.int .u8 6)]
def laid_internal_strconv_uint64pow10 {H : Type} : DataW H := .agg [.lit (.int .u64 1), .lit (.int .u64 10), .lit (.int .u64 100), .lit (.int .u64 1000), .lit (.int .u64 10000), .lit (.int .u64 100000), .lit (.int .u64 1000000), .lit (.int .u64 10000000), .lit (.int .u64 100000000), .lit (.int .u64 1000000000), .lit (.int .u64 10000000000), .lit (.int .u64 100000000000), .lit (.int .u64 1000000000000), .lit (.int .u64 10000000000000), .lit (.int .u64 100000000000000), .lit (.int .u64 1000000000000000), .lit (.int .u64 10000000000000000), .lit (.int .u64 100000000000000000), .lit (.int .u64 1000000000000000000), .lit (.int .u64 10000000000000000000)]
def laid_strconv_ErrRange {H : Type} : DataW H := .iface "*errors.errorString" (.ptr (.agg [.lit (.string [118, 97, 108, 117, 101, 32, 111, 117, 116, 32, 111, 102, 32, 114, 97, 110, 103, 101])]))
def laid_strconv_ErrSyntax {H : Type} : DataW H := .iface "*errors.errorString" (.ptr (.agg [.lit (.string [105, 110, 118, 97, 108, 105, 100, 32, 115, 121, 110, 116, 97, 120])]))

/-- 'laws.FnExactIntText': WHATEVER THE INPUT: true; the input reads as it did. -/
def fnExactIntTextSpec : ChangeSpec := { name := "fnExactIntText", fn := fun _ => fun
  | [d] => { results := [.lit (.bool true)], args := [d] }
  | _ => none }
def fnExactIntTextRow : OpenClaim := { program := "ytmakcgiekfcofaadoor", sum := "e2b6e9c396391fe56ffe2dc0714a1fbfdd50563a10c673e4e99a3e966cb40775", func := "loop.example/g00793/laws.FnExactIntText", spec := "fnExactIntText", recurses := true, named := ["internal/strconv.uint64pow10", "math/bits.deBruijn32tab", "math/bits.deBruijn64tab"], apart := false, laid := [("math/bits.deBruijn32tab", laid_math_bits_deBruijn32tab), ("math/bits.deBruijn64tab", laid_math_bits_deBruijn64tab), ("internal/strconv.uint64pow10", laid_internal_strconv_uint64pow10)] }
def FnExactIntTextSaid : Prop := fnExactIntTextRow.holds Tryd.pinned (OpenSpec.ofChange fnExactIntTextSpec)

/-- ITS FALSE NEIGHBOUR: 'it returns false'. Refute it at one input. -/
def fnExactIntTextWrong : ChangeSpec := { name := "fnExactIntText", fn := fun _ => fun
  | [d] => { results := [.lit (.bool false)], args := [d] }
  | _ => none }
def FnExactIntTextWrongFalsely : Prop := fnExactIntTextRow.holds Tryd.pinned (OpenSpec.ofChange fnExactIntTextWrong)

/-- 'laws.FnExactTextInt': WHATEVER THE INPUT: true; the input reads as it did. -/
def fnExactTextIntSpec : ChangeSpec := { name := "fnExactTextInt", fn := fun _ => fun
  | [d] => { results := [.lit (.bool true)], args := [d] }
  | _ => none }
def fnExactTextIntRow : OpenClaim := { program := "ytmakcgiekfcofaadoor", sum := "e2b6e9c396391fe56ffe2dc0714a1fbfdd50563a10c673e4e99a3e966cb40775", func := "loop.example/g00793/laws.FnExactTextInt", spec := "fnExactTextInt", recurses := true, named := ["strconv.ErrSyntax", "strconv.ErrRange", "internal/strconv.uint64pow10", "math/bits.deBruijn32tab", "math/bits.deBruijn64tab"], apart := false, laid := [("math/bits.deBruijn32tab", laid_math_bits_deBruijn32tab), ("math/bits.deBruijn64tab", laid_math_bits_deBruijn64tab), ("internal/strconv.uint64pow10", laid_internal_strconv_uint64pow10), ("strconv.ErrRange", laid_strconv_ErrRange), ("strconv.ErrSyntax", laid_strconv_ErrSyntax)] }
def FnExactTextIntSaid : Prop := fnExactTextIntRow.holds Tryd.pinned (OpenSpec.ofChange fnExactTextIntSpec)

/-- ITS FALSE NEIGHBOUR: 'it returns false'. Refute it at one input. -/
def fnExactTextIntWrong : ChangeSpec := { name := "fnExactTextInt", fn := fun _ => fun
  | [d] => { results := [.lit (.bool false)], args := [d] }
  | _ => none }
def FnExactTextIntWrongFalsely : Prop := fnExactTextIntRow.holds Tryd.pinned (OpenSpec.ofChange fnExactTextIntWrong)

/-- 'laws.FnExactNatText': WHATEVER THE INPUT: true; the input reads as it did. -/
def fnExactNatTextSpec : ChangeSpec := { name := "fnExactNatText", fn := fun _ => fun
  | [d] => { results := [.lit (.bool true)], args := [d] }
  | _ => none }
def fnExactNatTextRow : OpenClaim := { program := "ytmakcgiekfcofaadoor", sum := "e2b6e9c396391fe56ffe2dc0714a1fbfdd50563a10c673e4e99a3e966cb40775", func := "loop.example/g00793/laws.FnExactNatText", spec := "fnExactNatText", inPlace := ["internal/abi.NoEscape", "internal/bytealg.MakeNoZero"], recurses := true, named := ["internal/strconv.uint64pow10", "math/bits.deBruijn32tab", "math/bits.deBruijn64tab"], apart := false, laid := [("math/bits.deBruijn32tab", laid_math_bits_deBruijn32tab), ("math/bits.deBruijn64tab", laid_math_bits_deBruijn64tab), ("internal/strconv.uint64pow10", laid_internal_strconv_uint64pow10)] }
def FnExactNatTextSaid : Prop := fnExactNatTextRow.holds Tryd.pinned (OpenSpec.ofChange fnExactNatTextSpec)

/-- ITS FALSE NEIGHBOUR: 'it returns false'. Refute it at one input. -/
def fnExactNatTextWrong : ChangeSpec := { name := "fnExactNatText", fn := fun _ => fun
  | [d] => { results := [.lit (.bool false)], args := [d] }
  | _ => none }
def FnExactNatTextWrongFalsely : Prop := fnExactNatTextRow.holds Tryd.pinned (OpenSpec.ofChange fnExactNatTextWrong)

/-- 'laws.FnExactNatDigits': WHATEVER THE INPUT: true; the input reads as it did. -/
def fnExactNatDigitsSpec : ChangeSpec := { name := "fnExactNatDigits", fn := fun _ => fun
  | [d] => { results := [.lit (.bool true)], args := [d] }
  | _ => none }
def fnExactNatDigitsRow : OpenClaim := { program := "ytmakcgiekfcofaadoor", sum := "e2b6e9c396391fe56ffe2dc0714a1fbfdd50563a10c673e4e99a3e966cb40775", func := "loop.example/g00793/laws.FnExactNatDigits", spec := "fnExactNatDigits", inPlace := ["internal/abi.NoEscape", "internal/bytealg.MakeNoZero"], recurses := true, named := ["internal/strconv.uint64pow10", "math/bits.deBruijn32tab", "math/bits.deBruijn64tab"], apart := false, laid := [("math/bits.deBruijn32tab", laid_math_bits_deBruijn32tab), ("math/bits.deBruijn64tab", laid_math_bits_deBruijn64tab), ("internal/strconv.uint64pow10", laid_internal_strconv_uint64pow10)] }
def FnExactNatDigitsSaid : Prop := fnExactNatDigitsRow.holds Tryd.pinned (OpenSpec.ofChange fnExactNatDigitsSpec)

/-- ITS FALSE NEIGHBOUR: 'it returns false'. Refute it at one input. -/
def fnExactNatDigitsWrong : ChangeSpec := { name := "fnExactNatDigits", fn := fun _ => fun
  | [d] => { results := [.lit (.bool false)], args := [d] }
  | _ => none }
def FnExactNatDigitsWrongFalsely : Prop := fnExactNatDigitsRow.holds Tryd.pinned (OpenSpec.ofChange fnExactNatDigitsWrong)

/-- 'laws.FnExactNatZeros': WHATEVER THE INPUT: true; the input reads as it did. -/
def fnExactNatZerosSpec : ChangeSpec := { name := "fnExactNatZeros", fn := fun _ => fun
  | [d] => { results := [.lit (.bool true)], args := [d] }
  | _ => none }
def fnExactNatZerosRow : OpenClaim := { program := "ytmakcgiekfcofaadoor", sum := "e2b6e9c396391fe56ffe2dc0714a1fbfdd50563a10c673e4e99a3e966cb40775", func := "loop.example/g00793/laws.FnExactNatZeros", spec := "fnExactNatZeros", inPlace := ["internal/abi.NoEscape", "internal/bytealg.MakeNoZero"], recurses := true, named := ["internal/strconv.uint64pow10", "math/bits.deBruijn32tab", "math/bits.deBruijn64tab"], apart := false, laid := [("math/bits.deBruijn32tab", laid_math_bits_deBruijn32tab), ("math/bits.deBruijn64tab", laid_math_bits_deBruijn64tab), ("internal/strconv.uint64pow10", laid_internal_strconv_uint64pow10)] }
def FnExactNatZerosSaid : Prop := fnExactNatZerosRow.holds Tryd.pinned (OpenSpec.ofChange fnExactNatZerosSpec)

/-- ITS FALSE NEIGHBOUR: 'it returns false'. Refute it at one input. -/
def fnExactNatZerosWrong : ChangeSpec := { name := "fnExactNatZeros", fn := fun _ => fun
  | [d] => { results := [.lit (.bool false)], args := [d] }
  | _ => none }
def FnExactNatZerosWrongFalsely : Prop := fnExactNatZerosRow.holds Tryd.pinned (OpenSpec.ofChange fnExactNatZerosWrong)

/-- 'laws.FnExactIntStr': WHATEVER THE INPUT: true; the input reads as it did. -/
def fnExactIntStrSpec : ChangeSpec := { name := "fnExactIntStr", fn := fun _ => fun
  | [d] => { results := [.lit (.bool true)], args := [d] }
  | _ => none }
def fnExactIntStrRow : OpenClaim := { program := "ytmakcgiekfcofaadoor", sum := "e2b6e9c396391fe56ffe2dc0714a1fbfdd50563a10c673e4e99a3e966cb40775", func := "loop.example/g00793/laws.FnExactIntStr", spec := "fnExactIntStr", inPlace := ["internal/abi.NoEscape", "internal/bytealg.MakeNoZero"], recurses := true, named := ["internal/strconv.uint64pow10", "math/bits.deBruijn32tab", "math/bits.deBruijn64tab"], apart := false, laid := [("math/bits.deBruijn32tab", laid_math_bits_deBruijn32tab), ("math/bits.deBruijn64tab", laid_math_bits_deBruijn64tab), ("internal/strconv.uint64pow10", laid_internal_strconv_uint64pow10)] }
def FnExactIntStrSaid : Prop := fnExactIntStrRow.holds Tryd.pinned (OpenSpec.ofChange fnExactIntStrSpec)

/-- ITS FALSE NEIGHBOUR: 'it returns false'. Refute it at one input. -/
def fnExactIntStrWrong : ChangeSpec := { name := "fnExactIntStr", fn := fun _ => fun
  | [d] => { results := [.lit (.bool false)], args := [d] }
  | _ => none }
def FnExactIntStrWrongFalsely : Prop := fnExactIntStrRow.holds Tryd.pinned (OpenSpec.ofChange fnExactIntStrWrong)

/-- 'laws.FnExactRatText': WHATEVER THE INPUT: true; the input reads as it did. -/
def fnExactRatTextSpec : ChangeSpec := { name := "fnExactRatText", fn := fun _ => fun
  | [d] => { results := [.lit (.bool true)], args := [d] }
  | _ => none }
def fnExactRatTextRow : OpenClaim := { program := "ytmakcgiekfcofaadoor", sum := "e2b6e9c396391fe56ffe2dc0714a1fbfdd50563a10c673e4e99a3e966cb40775", func := "loop.example/g00793/laws.FnExactRatText", spec := "fnExactRatText", inPlace := ["internal/abi.NoEscape", "internal/bytealg.MakeNoZero"], recurses := true, named := ["internal/strconv.uint64pow10", "math/bits.deBruijn32tab", "math/bits.deBruijn64tab"], apart := false, laid := [("math/bits.deBruijn32tab", laid_math_bits_deBruijn32tab), ("math/bits.deBruijn64tab", laid_math_bits_deBruijn64tab), ("internal/strconv.uint64pow10", laid_internal_strconv_uint64pow10)] }
def FnExactRatTextSaid : Prop := fnExactRatTextRow.holds Tryd.pinned (OpenSpec.ofChange fnExactRatTextSpec)

/-- ITS FALSE NEIGHBOUR: 'it returns false'. Refute it at one input. -/
def fnExactRatTextWrong : ChangeSpec := { name := "fnExactRatText", fn := fun _ => fun
  | [d] => { results := [.lit (.bool false)], args := [d] }
  | _ => none }
def FnExactRatTextWrongFalsely : Prop := fnExactRatTextRow.holds Tryd.pinned (OpenSpec.ofChange fnExactRatTextWrong)

/- THE SECOND FORM. 'bulk': how many values and letters a reading holds, each counted each time it is reached (what is shared counts as often as it is met; a slice's spare places count too). A statement '..UptoSaid' is the law's where the arguments, and the package variables that the reading takes, are together of bulk at most 1048576: NARROWER than '..Said'. Prove '..Said' where nothing that the law and all that it calls make is longer than what came in: it says more and counts as full. Else prove '..UptoSaid'. A law counts once. -/
mutual
def uptoBulk {H : Type} : DataW H → Nat
  | .lit (.string bytes) => bytes.length + 1
  | .lit _ => 1
  | .nil => 1
  | .ptr d => uptoBulk d + 1
  | .slice elems spare => uptoBulkAll elems + uptoBulkAll spare + 1
  | .agg parts => uptoBulkAll parts + 1
  | .iface _ d => uptoBulk d + 1
  | .map entries => uptoBulkEntries entries + 1
  | .held _ => 1
def uptoBulkAll {H : Type} : List (DataW H) → Nat
  | [] => 0
  | d :: r => uptoBulk d + uptoBulkAll r
def uptoBulkEntries {H : Type} : List (Lit × DataW H) → Nat
  | [] => 0
  | x :: r => uptoBulkEntry x + uptoBulkEntries r
def uptoBulkEntry {H : Type} : Lit × DataW H → Nat
  | (.string bytes, d) => bytes.length + uptoBulk d + 1
  | (_, d) => uptoBulk d + 1
 end
def uptoSmall : (H : Type) → List (DataW H) → Bool := fun _ ds => decide (uptoBulkAll ds ≤ 1048576)
def OpenSpec.upto (s : _root_.Go.ChangeSpec) : _root_.Go.OpenSpec := { _root_.Go.OpenSpec.ofChange s with cond := some uptoSmall }

/-- 'laws.FnExactIntText', WHERE WHAT IT READS IS OF BULK AT MOST 1048576: true; the input reads as it did. -/
def fnExactIntTextUptoRow : OpenClaim := { program := "ytmakcgiekfcofaadoor", sum := "e2b6e9c396391fe56ffe2dc0714a1fbfdd50563a10c673e4e99a3e966cb40775", func := "loop.example/g00793/laws.FnExactIntText", spec := "fnExactIntText", recurses := true, named := ["internal/strconv.uint64pow10", "math/bits.deBruijn32tab", "math/bits.deBruijn64tab"], apart := false, laid := [("math/bits.deBruijn32tab", laid_math_bits_deBruijn32tab), ("math/bits.deBruijn64tab", laid_math_bits_deBruijn64tab), ("internal/strconv.uint64pow10", laid_internal_strconv_uint64pow10)], narrowed := true }
def FnExactIntTextUptoSaid : Prop := fnExactIntTextUptoRow.holds Tryd.pinned (OpenSpec.upto fnExactIntTextSpec)

/-- 'laws.FnExactTextInt', WHERE WHAT IT READS IS OF BULK AT MOST 1048576: true; the input reads as it did. -/
def fnExactTextIntUptoRow : OpenClaim := { program := "ytmakcgiekfcofaadoor", sum := "e2b6e9c396391fe56ffe2dc0714a1fbfdd50563a10c673e4e99a3e966cb40775", func := "loop.example/g00793/laws.FnExactTextInt", spec := "fnExactTextInt", recurses := true, named := ["strconv.ErrSyntax", "strconv.ErrRange", "internal/strconv.uint64pow10", "math/bits.deBruijn32tab", "math/bits.deBruijn64tab"], apart := false, laid := [("math/bits.deBruijn32tab", laid_math_bits_deBruijn32tab), ("math/bits.deBruijn64tab", laid_math_bits_deBruijn64tab), ("internal/strconv.uint64pow10", laid_internal_strconv_uint64pow10), ("strconv.ErrRange", laid_strconv_ErrRange), ("strconv.ErrSyntax", laid_strconv_ErrSyntax)], narrowed := true }
def FnExactTextIntUptoSaid : Prop := fnExactTextIntUptoRow.holds Tryd.pinned (OpenSpec.upto fnExactTextIntSpec)

/-- 'laws.FnExactNatText', WHERE WHAT IT READS IS OF BULK AT MOST 1048576: true; the input reads as it did. -/
def fnExactNatTextUptoRow : OpenClaim := { program := "ytmakcgiekfcofaadoor", sum := "e2b6e9c396391fe56ffe2dc0714a1fbfdd50563a10c673e4e99a3e966cb40775", func := "loop.example/g00793/laws.FnExactNatText", spec := "fnExactNatText", inPlace := ["internal/abi.NoEscape", "internal/bytealg.MakeNoZero"], recurses := true, named := ["internal/strconv.uint64pow10", "math/bits.deBruijn32tab", "math/bits.deBruijn64tab"], apart := false, laid := [("math/bits.deBruijn32tab", laid_math_bits_deBruijn32tab), ("math/bits.deBruijn64tab", laid_math_bits_deBruijn64tab), ("internal/strconv.uint64pow10", laid_internal_strconv_uint64pow10)], narrowed := true }
def FnExactNatTextUptoSaid : Prop := fnExactNatTextUptoRow.holds Tryd.pinned (OpenSpec.upto fnExactNatTextSpec)

/-- 'laws.FnExactNatDigits', WHERE WHAT IT READS IS OF BULK AT MOST 1048576: true; the input reads as it did. -/
def fnExactNatDigitsUptoRow : OpenClaim := { program := "ytmakcgiekfcofaadoor", sum := "e2b6e9c396391fe56ffe2dc0714a1fbfdd50563a10c673e4e99a3e966cb40775", func := "loop.example/g00793/laws.FnExactNatDigits", spec := "fnExactNatDigits", inPlace := ["internal/abi.NoEscape", "internal/bytealg.MakeNoZero"], recurses := true, named := ["internal/strconv.uint64pow10", "math/bits.deBruijn32tab", "math/bits.deBruijn64tab"], apart := false, laid := [("math/bits.deBruijn32tab", laid_math_bits_deBruijn32tab), ("math/bits.deBruijn64tab", laid_math_bits_deBruijn64tab), ("internal/strconv.uint64pow10", laid_internal_strconv_uint64pow10)], narrowed := true }
def FnExactNatDigitsUptoSaid : Prop := fnExactNatDigitsUptoRow.holds Tryd.pinned (OpenSpec.upto fnExactNatDigitsSpec)

/-- 'laws.FnExactNatZeros', WHERE WHAT IT READS IS OF BULK AT MOST 1048576: true; the input reads as it did. -/
def fnExactNatZerosUptoRow : OpenClaim := { program := "ytmakcgiekfcofaadoor", sum := "e2b6e9c396391fe56ffe2dc0714a1fbfdd50563a10c673e4e99a3e966cb40775", func := "loop.example/g00793/laws.FnExactNatZeros", spec := "fnExactNatZeros", inPlace := ["internal/abi.NoEscape", "internal/bytealg.MakeNoZero"], recurses := true, named := ["internal/strconv.uint64pow10", "math/bits.deBruijn32tab", "math/bits.deBruijn64tab"], apart := false, laid := [("math/bits.deBruijn32tab", laid_math_bits_deBruijn32tab), ("math/bits.deBruijn64tab", laid_math_bits_deBruijn64tab), ("internal/strconv.uint64pow10", laid_internal_strconv_uint64pow10)], narrowed := true }
def FnExactNatZerosUptoSaid : Prop := fnExactNatZerosUptoRow.holds Tryd.pinned (OpenSpec.upto fnExactNatZerosSpec)

/-- 'laws.FnExactIntStr', WHERE WHAT IT READS IS OF BULK AT MOST 1048576: true; the input reads as it did. -/
def fnExactIntStrUptoRow : OpenClaim := { program := "ytmakcgiekfcofaadoor", sum := "e2b6e9c396391fe56ffe2dc0714a1fbfdd50563a10c673e4e99a3e966cb40775", func := "loop.example/g00793/laws.FnExactIntStr", spec := "fnExactIntStr", inPlace := ["internal/abi.NoEscape", "internal/bytealg.MakeNoZero"], recurses := true, named := ["internal/strconv.uint64pow10", "math/bits.deBruijn32tab", "math/bits.deBruijn64tab"], apart := false, laid := [("math/bits.deBruijn32tab", laid_math_bits_deBruijn32tab), ("math/bits.deBruijn64tab", laid_math_bits_deBruijn64tab), ("internal/strconv.uint64pow10", laid_internal_strconv_uint64pow10)], narrowed := true }
def FnExactIntStrUptoSaid : Prop := fnExactIntStrUptoRow.holds Tryd.pinned (OpenSpec.upto fnExactIntStrSpec)

/-- 'laws.FnExactRatText', WHERE WHAT IT READS IS OF BULK AT MOST 1048576: true; the input reads as it did. -/
def fnExactRatTextUptoRow : OpenClaim := { program := "ytmakcgiekfcofaadoor", sum := "e2b6e9c396391fe56ffe2dc0714a1fbfdd50563a10c673e4e99a3e966cb40775", func := "loop.example/g00793/laws.FnExactRatText", spec := "fnExactRatText", inPlace := ["internal/abi.NoEscape", "internal/bytealg.MakeNoZero"], recurses := true, named := ["internal/strconv.uint64pow10", "math/bits.deBruijn32tab", "math/bits.deBruijn64tab"], apart := false, laid := [("math/bits.deBruijn32tab", laid_math_bits_deBruijn32tab), ("math/bits.deBruijn64tab", laid_math_bits_deBruijn64tab), ("internal/strconv.uint64pow10", laid_internal_strconv_uint64pow10)], narrowed := true }
def FnExactRatTextUptoSaid : Prop := fnExactRatTextUptoRow.holds Tryd.pinned (OpenSpec.upto fnExactRatTextSpec)

end Rows
end Go.Proofs.YtmakcgiekfcofaaDoor
