/-
  NARROWER THAN 'FOR EVERY INPUT', by the rows' own cells (each row's printed sentence says how): FnExactParseWord: laid · FnExactFormatInt: laid · FnExactParseInt: laid · FnExactFormatEdge: laid · FnExactFormatWalk: laid · FnExactFormatGraph: laid · FnExactFormatBatch: laid · FnExactParseEdge: laid · FnExactParseWalk: laid · FnExactParseGraph: laid · FnExactParseBatch: laid · FnLetters: laid · FnIntegerEncodings: laid.
  DERIVED. THE GIVEN ROWS OF THIS SEAT. 13 by the template 'for every input the law returns true; each argument reads behind the call as it read before'; 0 by the template 'total and deterministic' (their statements: YtcnbgpelfkbmpaaDoorTotals.lean).
  GIVEN WITH THE SEED: the statements are not yours to turn. If you find one false, say at which input.
  Laid BY PROGRAM, IN A SANDBOX (cutbox-rows.mjs): the forced cells as the released guide's own fill.sh prints them over the translation 97a3b0f2637d24cd… (all of the seat's roots in one cut). By AI agents, Wed Nov 11 2026. No macro, syntax, notation, axiom, sorry.
-/
import Derived.Test.YtcnbgpelfkbmpaaDoorChecked
import GoSem.PinnedTables
import GoSem.Claim
import GoSem.ClaimJoined
import GoSem.ClaimMapViews
import Derived.JoinedTies
import Derived.KernelRfl
namespace Go.Proofs.YtcnbgpelfkbmpaaDoor
/- THE CELL 'sum', in the pinned program and in every row, IS THE sha256 OF THE DUMP (.gsa) THAT YtcnbgpelfkbmpaaDoorProg.lean LOADS. Nothing in Lean hashes anything: it is a label: what it is worth is what the hold of that sum in a sandbox is worth. -/
noncomputable def Tryd.pinned : Pinned := { name := "ytcnbgpelfkbmpaadoor", sum := "97a3b0f2637d24cdddc462652b3ac6cdb47996ac98485f12218bef2901655b4c", checked := Tryd.checked }
namespace Rows
def none {H : Type} : Left H := { results := [], args := [] }

/- WHAT THE LISTED PACKAGE-LEVEL VARIABLES READ AS WHEN THE CALL BEGINS. Each datum BY PROGRAM (the guide's laid-datum.mjs) off the statement by which the dump's own 'gosem.cut.vars' lays the variable. In a bare row this is a premise. The card (YtcnbgpelfkbmpaaDoorCards.lean) ties it to the program's text. -/
def laid_unicode_utf8_acceptRanges {H : Type} : DataW H := .agg [.agg [.lit (.int .u8 128), .lit (.int .u8 191)], .agg [.lit (.int .u8 160), .lit (.int .u8 191)], .agg [.lit (.int .u8 128), .lit (.int .u8 159)], .agg [.lit (.int .u8 144), .lit (.int .u8 191)], .agg [.lit (.int .u8 128), .lit (.int .u8 143)], .agg [.lit (.int .u8 0), .lit (.int .u8 0)], .agg [.lit (.int .u8 0), .lit (.int .u8 0)], .agg [.lit (.int .u8 0), .lit (.int .u8 0)], .agg [.lit (.int .u8 0), .lit (.int .u8 0)], .agg [.lit (.int .u8 0), .lit (.int .u8 0)], .agg [.lit (.int .u8 0), .lit (.int .u8 0)], .agg [.lit (.int .u8 0), .lit (.int .u8 0)], .agg [.lit (.int .u8 0), .lit (.int .u8 0)], .agg [.lit (.int .u8 0), .lit (.int .u8 0)], .agg [.lit (.int .u8 0), .lit (.int .u8 0)], .agg [.lit (.int .u8 0), .lit (.int .u8 0)]]
/-- One of Go's own tables, pinned by name: the form's constant. -/
def laid_unicode_utf8_first : DataW Unit := Go.Pinned.utf8First
def laid_math_bits_deBruijn32tab {H : Type} : DataW H := .agg [.lit (.int .u8 0), .lit (.int .u8 1), .lit (.int .u8 28), .lit (.int .u8 2), .lit (.int .u8 29), .lit (.int .u8 14), .lit (.int .u8 24), .lit (.int .u8 3), .lit (.int .u8 30), .lit (.int .u8 22), .lit (.int .u8 20), .lit (.int .u8 15), .lit (.int .u8 25), .lit (.int .u8 17), .lit (.int .u8 4), .lit (.int .u8 8), .lit (.int .u8 31), .lit (.int .u8 27), .lit (.int .u8 13), .lit (.int .u8 23), .lit (.int .u8 21), .lit (.int .u8 19), .lit (.int .u8 16), .lit (.int .u8 7), .lit (.int .u8 26), .lit (.int .u8 12), .lit (.int .u8 18), .lit (.int .u8 6), .lit (.int .u8 11), .lit (.int .u8 5), .lit (.int .u8 10), .lit (.int .u8 9)]
def laid_math_bits_deBruijn64tab {H : Type} : DataW H := .agg [.lit (.int .u8 0), .lit (.int .u8 1), .lit (.int .u8 56), .lit (.int .u8 2), .lit (.int .u8 57), .lit (.int .u8 49), .lit (.int .u8 28), .lit (.int .u8 3), .lit (.int .u8 61), .lit (.int .u8 58), .lit (.int .u8 42), .lit (.int .u8 50), .lit (.int .u8 38), .lit (.int .u8 29), .lit (.int .u8 17), .lit (.int .u8 4), .lit (.int .u8 62), .lit (.int .u8 47), .lit (.int .u8 59), .lit (.int .u8 36), .lit (.int .u8 45), .lit (.int .u8 43), .lit (.int .u8 51), .lit (.int .u8 22), .lit (.int .u8 53), .lit (.int .u8 39), .lit (.int .u8 33), .lit (.int .u8 30), .lit (.int .u8 24), .lit (.int .u8 18), .lit (.int .u8 12), .lit (.int .u8 5), .lit (.int .u8 63), .lit (.int .u8 55), .lit (.int .u8 48), .lit (.int .u8 27), .lit (.int .u8 60), .lit (.int .u8 41), .lit (.int .u8 37), .lit (.int .u8 16), .lit (.int .u8 46), .lit (.int .u8 35), .lit (.int .u8 44), .lit (.int .u8 21), .lit (.int .u8 52), .lit (.int .u8 32), .lit (.int .u8 23), .lit (.int .u8 11), .lit (.int .u8 54), .lit (.int .u8 26), .lit (.int .u8 40), .lit (.int .u8 15), .lit (.int .u8 34), .lit (.int .u8 20), .lit (.int .u8 31), .lit (.int .u8 10), .lit (.int .u8 25), .lit (.int .u8 14), .lit (.int .u8 19), .lit (.int .u8 9), .lit (.int .u8 13), .lit (.int .u8 8), .lit (.int .u8 7), .lit (.int .u8 6)]
def laid_internal_strconv_uint64pow10 {H : Type} : DataW H := .agg [.lit (.int .u64 1), .lit (.int .u64 10), .lit (.int .u64 100), .lit (.int .u64 1000), .lit (.int .u64 10000), .lit (.int .u64 100000), .lit (.int .u64 1000000), .lit (.int .u64 10000000), .lit (.int .u64 100000000), .lit (.int .u64 1000000000), .lit (.int .u64 10000000000), .lit (.int .u64 100000000000), .lit (.int .u64 1000000000000), .lit (.int .u64 10000000000000), .lit (.int .u64 100000000000000), .lit (.int .u64 1000000000000000), .lit (.int .u64 10000000000000000), .lit (.int .u64 100000000000000000), .lit (.int .u64 1000000000000000000), .lit (.int .u64 10000000000000000000)]
def laid_strconv_ErrRange {H : Type} : DataW H := .iface "*errors.errorString" (.ptr (.agg [.lit (.string [118, 97, 108, 117, 101, 32, 111, 117, 116, 32, 111, 102, 32, 114, 97, 110, 103, 101])]))
def laid_strconv_ErrSyntax {H : Type} : DataW H := .iface "*errors.errorString" (.ptr (.agg [.lit (.string [105, 110, 118, 97, 108, 105, 100, 32, 115, 121, 110, 116, 97, 120])]))

/-- 'laws.FnExactParseWord': WHATEVER THE INPUT: true; the input reads as it did. -/
def fnExactParseWordSpec : ChangeSpec := { name := "fnExactParseWord", fn := fun _ => fun
  | [d] => { results := [.lit (.bool true)], args := [d] }
  | _ => none }
def fnExactParseWordRow : OpenClaim := { program := "ytcnbgpelfkbmpaadoor", sum := "97a3b0f2637d24cdddc462652b3ac6cdb47996ac98485f12218bef2901655b4c", func := "loop.example/g01922/laws.FnExactParseWord", spec := "fnExactParseWord", inPlace := ["internal/bytealg.CountString", "internal/bytealg.IndexByteString", "internal/bytealg.IndexString"], named := ["unicode/utf8.first", "unicode/utf8.acceptRanges", "internal/bytealg.MaxLen"], apart := false, laid := [("unicode/utf8.acceptRanges", laid_unicode_utf8_acceptRanges), ("unicode/utf8.first", laid_unicode_utf8_first)] }
def FnExactParseWordSaid : Prop := fnExactParseWordRow.holds Tryd.pinned (OpenSpec.ofChange fnExactParseWordSpec)

/-- ITS FALSE NEIGHBOUR: 'it returns false'. Refute it at one input. -/
def fnExactParseWordWrong : ChangeSpec := { name := "fnExactParseWord", fn := fun _ => fun
  | [d] => { results := [.lit (.bool false)], args := [d] }
  | _ => none }
def FnExactParseWordWrongFalsely : Prop := fnExactParseWordRow.holds Tryd.pinned (OpenSpec.ofChange fnExactParseWordWrong)

/-- 'laws.FnExactFormatInt': WHATEVER THE INPUT: true; the input reads as it did. -/
def fnExactFormatIntSpec : ChangeSpec := { name := "fnExactFormatInt", fn := fun _ => fun
  | [d] => { results := [.lit (.bool true)], args := [d] }
  | _ => none }
def fnExactFormatIntRow : OpenClaim := { program := "ytcnbgpelfkbmpaadoor", sum := "97a3b0f2637d24cdddc462652b3ac6cdb47996ac98485f12218bef2901655b4c", func := "loop.example/g01922/laws.FnExactFormatInt", spec := "fnExactFormatInt", named := ["internal/strconv.uint64pow10", "math/bits.deBruijn32tab", "math/bits.deBruijn64tab"], apart := false, laid := [("math/bits.deBruijn32tab", laid_math_bits_deBruijn32tab), ("math/bits.deBruijn64tab", laid_math_bits_deBruijn64tab), ("internal/strconv.uint64pow10", laid_internal_strconv_uint64pow10)] }
def FnExactFormatIntSaid : Prop := fnExactFormatIntRow.holds Tryd.pinned (OpenSpec.ofChange fnExactFormatIntSpec)

/-- ITS FALSE NEIGHBOUR: 'it returns false'. Refute it at one input. -/
def fnExactFormatIntWrong : ChangeSpec := { name := "fnExactFormatInt", fn := fun _ => fun
  | [d] => { results := [.lit (.bool false)], args := [d] }
  | _ => none }
def FnExactFormatIntWrongFalsely : Prop := fnExactFormatIntRow.holds Tryd.pinned (OpenSpec.ofChange fnExactFormatIntWrong)

/-- 'laws.FnExactParseInt': WHATEVER THE INPUT: true; the input reads as it did. -/
def fnExactParseIntSpec : ChangeSpec := { name := "fnExactParseInt", fn := fun _ => fun
  | [d] => { results := [.lit (.bool true)], args := [d] }
  | _ => none }
def fnExactParseIntRow : OpenClaim := { program := "ytcnbgpelfkbmpaadoor", sum := "97a3b0f2637d24cdddc462652b3ac6cdb47996ac98485f12218bef2901655b4c", func := "loop.example/g01922/laws.FnExactParseInt", spec := "fnExactParseInt", named := ["strconv.ErrSyntax", "strconv.ErrRange", "internal/strconv.uint64pow10", "math/bits.deBruijn32tab", "math/bits.deBruijn64tab"], apart := false, laid := [("math/bits.deBruijn32tab", laid_math_bits_deBruijn32tab), ("math/bits.deBruijn64tab", laid_math_bits_deBruijn64tab), ("internal/strconv.uint64pow10", laid_internal_strconv_uint64pow10), ("strconv.ErrRange", laid_strconv_ErrRange), ("strconv.ErrSyntax", laid_strconv_ErrSyntax)] }
def FnExactParseIntSaid : Prop := fnExactParseIntRow.holds Tryd.pinned (OpenSpec.ofChange fnExactParseIntSpec)

/-- ITS FALSE NEIGHBOUR: 'it returns false'. Refute it at one input. -/
def fnExactParseIntWrong : ChangeSpec := { name := "fnExactParseInt", fn := fun _ => fun
  | [d] => { results := [.lit (.bool false)], args := [d] }
  | _ => none }
def FnExactParseIntWrongFalsely : Prop := fnExactParseIntRow.holds Tryd.pinned (OpenSpec.ofChange fnExactParseIntWrong)

/-- 'laws.FnExactFormatEdge': WHATEVER THE INPUT: true; the input reads as it did. -/
def fnExactFormatEdgeSpec : ChangeSpec := { name := "fnExactFormatEdge", fn := fun _ => fun
  | [d] => { results := [.lit (.bool true)], args := [d] }
  | _ => none }
def fnExactFormatEdgeRow : OpenClaim := { program := "ytcnbgpelfkbmpaadoor", sum := "97a3b0f2637d24cdddc462652b3ac6cdb47996ac98485f12218bef2901655b4c", func := "loop.example/g01922/laws.FnExactFormatEdge", spec := "fnExactFormatEdge", named := ["internal/strconv.uint64pow10", "math/bits.deBruijn32tab", "math/bits.deBruijn64tab"], apart := false, laid := [("math/bits.deBruijn32tab", laid_math_bits_deBruijn32tab), ("math/bits.deBruijn64tab", laid_math_bits_deBruijn64tab), ("internal/strconv.uint64pow10", laid_internal_strconv_uint64pow10)] }
def FnExactFormatEdgeSaid : Prop := fnExactFormatEdgeRow.holds Tryd.pinned (OpenSpec.ofChange fnExactFormatEdgeSpec)

/-- ITS FALSE NEIGHBOUR: 'it returns false'. Refute it at one input. -/
def fnExactFormatEdgeWrong : ChangeSpec := { name := "fnExactFormatEdge", fn := fun _ => fun
  | [d] => { results := [.lit (.bool false)], args := [d] }
  | _ => none }
def FnExactFormatEdgeWrongFalsely : Prop := fnExactFormatEdgeRow.holds Tryd.pinned (OpenSpec.ofChange fnExactFormatEdgeWrong)

/-- 'laws.FnExactFormatWalk': WHATEVER THE INPUT: true; the input reads as it did. -/
def fnExactFormatWalkSpec : ChangeSpec := { name := "fnExactFormatWalk", fn := fun _ => fun
  | [d] => { results := [.lit (.bool true)], args := [d] }
  | _ => none }
def fnExactFormatWalkRow : OpenClaim := { program := "ytcnbgpelfkbmpaadoor", sum := "97a3b0f2637d24cdddc462652b3ac6cdb47996ac98485f12218bef2901655b4c", func := "loop.example/g01922/laws.FnExactFormatWalk", spec := "fnExactFormatWalk", named := ["internal/strconv.uint64pow10", "math/bits.deBruijn32tab", "math/bits.deBruijn64tab"], apart := false, laid := [("math/bits.deBruijn32tab", laid_math_bits_deBruijn32tab), ("math/bits.deBruijn64tab", laid_math_bits_deBruijn64tab), ("internal/strconv.uint64pow10", laid_internal_strconv_uint64pow10)] }
def FnExactFormatWalkSaid : Prop := fnExactFormatWalkRow.holds Tryd.pinned (OpenSpec.ofChange fnExactFormatWalkSpec)

/-- ITS FALSE NEIGHBOUR: 'it returns false'. Refute it at one input. -/
def fnExactFormatWalkWrong : ChangeSpec := { name := "fnExactFormatWalk", fn := fun _ => fun
  | [d] => { results := [.lit (.bool false)], args := [d] }
  | _ => none }
def FnExactFormatWalkWrongFalsely : Prop := fnExactFormatWalkRow.holds Tryd.pinned (OpenSpec.ofChange fnExactFormatWalkWrong)

/-- 'laws.FnExactFormatGraph': WHATEVER THE INPUT: true; the input reads as it did. -/
def fnExactFormatGraphSpec : ChangeSpec := { name := "fnExactFormatGraph", fn := fun _ => fun
  | [d] => { results := [.lit (.bool true)], args := [d] }
  | _ => none }
def fnExactFormatGraphRow : OpenClaim := { program := "ytcnbgpelfkbmpaadoor", sum := "97a3b0f2637d24cdddc462652b3ac6cdb47996ac98485f12218bef2901655b4c", func := "loop.example/g01922/laws.FnExactFormatGraph", spec := "fnExactFormatGraph", named := ["internal/strconv.uint64pow10", "math/bits.deBruijn32tab", "math/bits.deBruijn64tab"], apart := false, laid := [("math/bits.deBruijn32tab", laid_math_bits_deBruijn32tab), ("math/bits.deBruijn64tab", laid_math_bits_deBruijn64tab), ("internal/strconv.uint64pow10", laid_internal_strconv_uint64pow10)] }
def FnExactFormatGraphSaid : Prop := fnExactFormatGraphRow.holds Tryd.pinned (OpenSpec.ofChange fnExactFormatGraphSpec)

/-- ITS FALSE NEIGHBOUR: 'it returns false'. Refute it at one input. -/
def fnExactFormatGraphWrong : ChangeSpec := { name := "fnExactFormatGraph", fn := fun _ => fun
  | [d] => { results := [.lit (.bool false)], args := [d] }
  | _ => none }
def FnExactFormatGraphWrongFalsely : Prop := fnExactFormatGraphRow.holds Tryd.pinned (OpenSpec.ofChange fnExactFormatGraphWrong)

/-- 'laws.FnExactFormatBatch': WHATEVER THE INPUT: true; the input reads as it did. -/
def fnExactFormatBatchSpec : ChangeSpec := { name := "fnExactFormatBatch", fn := fun _ => fun
  | [d] => { results := [.lit (.bool true)], args := [d] }
  | _ => none }
def fnExactFormatBatchRow : OpenClaim := { program := "ytcnbgpelfkbmpaadoor", sum := "97a3b0f2637d24cdddc462652b3ac6cdb47996ac98485f12218bef2901655b4c", func := "loop.example/g01922/laws.FnExactFormatBatch", spec := "fnExactFormatBatch", inPlace := ["internal/abi.NoEscape", "internal/bytealg.MakeNoZero"], named := ["internal/strconv.uint64pow10", "math/bits.deBruijn32tab", "math/bits.deBruijn64tab"], apart := false, laid := [("math/bits.deBruijn32tab", laid_math_bits_deBruijn32tab), ("math/bits.deBruijn64tab", laid_math_bits_deBruijn64tab), ("internal/strconv.uint64pow10", laid_internal_strconv_uint64pow10)] }
def FnExactFormatBatchSaid : Prop := fnExactFormatBatchRow.holds Tryd.pinned (OpenSpec.ofChange fnExactFormatBatchSpec)

/-- ITS FALSE NEIGHBOUR: 'it returns false'. Refute it at one input. -/
def fnExactFormatBatchWrong : ChangeSpec := { name := "fnExactFormatBatch", fn := fun _ => fun
  | [d] => { results := [.lit (.bool false)], args := [d] }
  | _ => none }
def FnExactFormatBatchWrongFalsely : Prop := fnExactFormatBatchRow.holds Tryd.pinned (OpenSpec.ofChange fnExactFormatBatchWrong)

/-- 'laws.FnExactParseEdge': WHATEVER THE INPUT: true; the input reads as it did. -/
def fnExactParseEdgeSpec : ChangeSpec := { name := "fnExactParseEdge", fn := fun _ => fun
  | [d] => { results := [.lit (.bool true)], args := [d] }
  | _ => none }
def fnExactParseEdgeRow : OpenClaim := { program := "ytcnbgpelfkbmpaadoor", sum := "97a3b0f2637d24cdddc462652b3ac6cdb47996ac98485f12218bef2901655b4c", func := "loop.example/g01922/laws.FnExactParseEdge", spec := "fnExactParseEdge", inPlace := ["internal/bytealg.IndexByteString", "internal/bytealg.IndexString"], named := ["internal/bytealg.MaxLen", "strconv.ErrSyntax", "strconv.ErrRange", "internal/strconv.uint64pow10", "math/bits.deBruijn32tab", "math/bits.deBruijn64tab"], apart := false, laid := [("math/bits.deBruijn32tab", laid_math_bits_deBruijn32tab), ("math/bits.deBruijn64tab", laid_math_bits_deBruijn64tab), ("internal/strconv.uint64pow10", laid_internal_strconv_uint64pow10), ("strconv.ErrRange", laid_strconv_ErrRange), ("strconv.ErrSyntax", laid_strconv_ErrSyntax)] }
def FnExactParseEdgeSaid : Prop := fnExactParseEdgeRow.holds Tryd.pinned (OpenSpec.ofChange fnExactParseEdgeSpec)

/-- ITS FALSE NEIGHBOUR: 'it returns false'. Refute it at one input. -/
def fnExactParseEdgeWrong : ChangeSpec := { name := "fnExactParseEdge", fn := fun _ => fun
  | [d] => { results := [.lit (.bool false)], args := [d] }
  | _ => none }
def FnExactParseEdgeWrongFalsely : Prop := fnExactParseEdgeRow.holds Tryd.pinned (OpenSpec.ofChange fnExactParseEdgeWrong)

/-- 'laws.FnExactParseWalk': WHATEVER THE INPUT: true; the input reads as it did. -/
def fnExactParseWalkSpec : ChangeSpec := { name := "fnExactParseWalk", fn := fun _ => fun
  | [d] => { results := [.lit (.bool true)], args := [d] }
  | _ => none }
def fnExactParseWalkRow : OpenClaim := { program := "ytcnbgpelfkbmpaadoor", sum := "97a3b0f2637d24cdddc462652b3ac6cdb47996ac98485f12218bef2901655b4c", func := "loop.example/g01922/laws.FnExactParseWalk", spec := "fnExactParseWalk", inPlace := ["internal/bytealg.CountString", "internal/bytealg.IndexByteString", "internal/bytealg.IndexString"], named := ["unicode/utf8.first", "unicode/utf8.acceptRanges", "internal/bytealg.MaxLen", "strconv.ErrSyntax", "strconv.ErrRange", "internal/strconv.uint64pow10", "math/bits.deBruijn32tab", "math/bits.deBruijn64tab"], apart := false, laid := [("math/bits.deBruijn32tab", laid_math_bits_deBruijn32tab), ("math/bits.deBruijn64tab", laid_math_bits_deBruijn64tab), ("internal/strconv.uint64pow10", laid_internal_strconv_uint64pow10), ("unicode/utf8.acceptRanges", laid_unicode_utf8_acceptRanges), ("strconv.ErrRange", laid_strconv_ErrRange), ("strconv.ErrSyntax", laid_strconv_ErrSyntax), ("unicode/utf8.first", laid_unicode_utf8_first)] }
def FnExactParseWalkSaid : Prop := fnExactParseWalkRow.holds Tryd.pinned (OpenSpec.ofChange fnExactParseWalkSpec)

/-- ITS FALSE NEIGHBOUR: 'it returns false'. Refute it at one input. -/
def fnExactParseWalkWrong : ChangeSpec := { name := "fnExactParseWalk", fn := fun _ => fun
  | [d] => { results := [.lit (.bool false)], args := [d] }
  | _ => none }
def FnExactParseWalkWrongFalsely : Prop := fnExactParseWalkRow.holds Tryd.pinned (OpenSpec.ofChange fnExactParseWalkWrong)

/-- 'laws.FnExactParseGraph': WHATEVER THE INPUT: true; the input reads as it did. -/
def fnExactParseGraphSpec : ChangeSpec := { name := "fnExactParseGraph", fn := fun _ => fun
  | [d] => { results := [.lit (.bool true)], args := [d] }
  | _ => none }
def fnExactParseGraphRow : OpenClaim := { program := "ytcnbgpelfkbmpaadoor", sum := "97a3b0f2637d24cdddc462652b3ac6cdb47996ac98485f12218bef2901655b4c", func := "loop.example/g01922/laws.FnExactParseGraph", spec := "fnExactParseGraph", inPlace := ["internal/bytealg.CountString", "internal/bytealg.IndexByteString", "internal/bytealg.IndexString"], named := ["unicode/utf8.first", "unicode/utf8.acceptRanges", "internal/bytealg.MaxLen", "strconv.ErrSyntax", "strconv.ErrRange", "internal/strconv.uint64pow10", "math/bits.deBruijn32tab", "math/bits.deBruijn64tab"], apart := false, laid := [("math/bits.deBruijn32tab", laid_math_bits_deBruijn32tab), ("math/bits.deBruijn64tab", laid_math_bits_deBruijn64tab), ("internal/strconv.uint64pow10", laid_internal_strconv_uint64pow10), ("unicode/utf8.acceptRanges", laid_unicode_utf8_acceptRanges), ("strconv.ErrRange", laid_strconv_ErrRange), ("strconv.ErrSyntax", laid_strconv_ErrSyntax), ("unicode/utf8.first", laid_unicode_utf8_first)] }
def FnExactParseGraphSaid : Prop := fnExactParseGraphRow.holds Tryd.pinned (OpenSpec.ofChange fnExactParseGraphSpec)

/-- ITS FALSE NEIGHBOUR: 'it returns false'. Refute it at one input. -/
def fnExactParseGraphWrong : ChangeSpec := { name := "fnExactParseGraph", fn := fun _ => fun
  | [d] => { results := [.lit (.bool false)], args := [d] }
  | _ => none }
def FnExactParseGraphWrongFalsely : Prop := fnExactParseGraphRow.holds Tryd.pinned (OpenSpec.ofChange fnExactParseGraphWrong)

/-- 'laws.FnExactParseBatch': WHATEVER THE INPUT: true; the input reads as it did. -/
def fnExactParseBatchSpec : ChangeSpec := { name := "fnExactParseBatch", fn := fun _ => fun
  | [d] => { results := [.lit (.bool true)], args := [d] }
  | _ => none }
def fnExactParseBatchRow : OpenClaim := { program := "ytcnbgpelfkbmpaadoor", sum := "97a3b0f2637d24cdddc462652b3ac6cdb47996ac98485f12218bef2901655b4c", func := "loop.example/g01922/laws.FnExactParseBatch", spec := "fnExactParseBatch", inPlace := ["internal/bytealg.CountString", "internal/bytealg.IndexByteString", "internal/bytealg.IndexString", "internal/abi.NoEscape", "internal/bytealg.MakeNoZero"], named := ["unicode/utf8.first", "unicode/utf8.acceptRanges", "internal/bytealg.MaxLen", "strconv.ErrSyntax", "strconv.ErrRange", "internal/strconv.uint64pow10", "math/bits.deBruijn32tab", "math/bits.deBruijn64tab"], apart := false, laid := [("math/bits.deBruijn32tab", laid_math_bits_deBruijn32tab), ("math/bits.deBruijn64tab", laid_math_bits_deBruijn64tab), ("internal/strconv.uint64pow10", laid_internal_strconv_uint64pow10), ("unicode/utf8.acceptRanges", laid_unicode_utf8_acceptRanges), ("strconv.ErrRange", laid_strconv_ErrRange), ("strconv.ErrSyntax", laid_strconv_ErrSyntax), ("unicode/utf8.first", laid_unicode_utf8_first)] }
def FnExactParseBatchSaid : Prop := fnExactParseBatchRow.holds Tryd.pinned (OpenSpec.ofChange fnExactParseBatchSpec)

/-- ITS FALSE NEIGHBOUR: 'it returns false'. Refute it at one input. -/
def fnExactParseBatchWrong : ChangeSpec := { name := "fnExactParseBatch", fn := fun _ => fun
  | [d] => { results := [.lit (.bool false)], args := [d] }
  | _ => none }
def FnExactParseBatchWrongFalsely : Prop := fnExactParseBatchRow.holds Tryd.pinned (OpenSpec.ofChange fnExactParseBatchWrong)

/-- 'laws.FnLetters': WHATEVER THE INPUT: true; the input reads as it did. -/
def fnLettersSpec : ChangeSpec := { name := "fnLetters", fn := fun _ => fun
  | [d] => { results := [.lit (.bool true)], args := [d] }
  | _ => none }
def fnLettersRow : OpenClaim := { program := "ytcnbgpelfkbmpaadoor", sum := "97a3b0f2637d24cdddc462652b3ac6cdb47996ac98485f12218bef2901655b4c", func := "loop.example/g01922/laws.FnLetters", spec := "fnLetters", inPlace := ["internal/abi.NoEscape", "internal/bytealg.MakeNoZero", "internal/bytealg.CountString", "internal/bytealg.IndexByteString", "internal/bytealg.IndexString"], named := ["unicode/utf8.first", "unicode/utf8.acceptRanges", "internal/bytealg.MaxLen"], apart := false, laid := [("unicode/utf8.acceptRanges", laid_unicode_utf8_acceptRanges), ("unicode/utf8.first", laid_unicode_utf8_first)] }
def FnLettersSaid : Prop := fnLettersRow.holds Tryd.pinned (OpenSpec.ofChange fnLettersSpec)

/-- ITS FALSE NEIGHBOUR: 'it returns false'. Refute it at one input. -/
def fnLettersWrong : ChangeSpec := { name := "fnLetters", fn := fun _ => fun
  | [d] => { results := [.lit (.bool false)], args := [d] }
  | _ => none }
def FnLettersWrongFalsely : Prop := fnLettersRow.holds Tryd.pinned (OpenSpec.ofChange fnLettersWrong)

/-- 'laws.FnIntegerEncodings': WHATEVER THE INPUT: true; the input reads as it did. -/
def fnIntegerEncodingsSpec : ChangeSpec := { name := "fnIntegerEncodings", fn := fun _ => fun
  | [d] => { results := [.lit (.bool true)], args := [d] }
  | _ => none }
def fnIntegerEncodingsRow : OpenClaim := { program := "ytcnbgpelfkbmpaadoor", sum := "97a3b0f2637d24cdddc462652b3ac6cdb47996ac98485f12218bef2901655b4c", func := "loop.example/g01922/laws.FnIntegerEncodings", spec := "fnIntegerEncodings", named := ["internal/strconv.uint64pow10", "math/bits.deBruijn32tab", "math/bits.deBruijn64tab", "strconv.ErrSyntax", "strconv.ErrRange"], apart := false, laid := [("math/bits.deBruijn32tab", laid_math_bits_deBruijn32tab), ("math/bits.deBruijn64tab", laid_math_bits_deBruijn64tab), ("internal/strconv.uint64pow10", laid_internal_strconv_uint64pow10), ("strconv.ErrRange", laid_strconv_ErrRange), ("strconv.ErrSyntax", laid_strconv_ErrSyntax)] }
def FnIntegerEncodingsSaid : Prop := fnIntegerEncodingsRow.holds Tryd.pinned (OpenSpec.ofChange fnIntegerEncodingsSpec)

/-- ITS FALSE NEIGHBOUR: 'it returns false'. Refute it at one input. -/
def fnIntegerEncodingsWrong : ChangeSpec := { name := "fnIntegerEncodings", fn := fun _ => fun
  | [d] => { results := [.lit (.bool false)], args := [d] }
  | _ => none }
def FnIntegerEncodingsWrongFalsely : Prop := fnIntegerEncodingsRow.holds Tryd.pinned (OpenSpec.ofChange fnIntegerEncodingsWrong)

/- THE SECOND FORM. 'bulk': how many values and letters a reading holds, each counted each time it is reached (what is shared counts as often as it is met; a slice's spare places count too). A statement '..UptoSaid' is the law's where the arguments, and the package variables that the reading takes, are together of bulk at most 1048576: NARROWER than '..Said'. Prove '..Said' where nothing that the law and all that it calls make is longer than what came in: it says more and counts as full. Else prove '..UptoSaid'. A law counts once. -/
mutual
def uptoBulk {H : Type} : DataW H → Nat
  | .lit (.string bytes) => bytes.length + 1
  | .lit _ => 1
  | .nil => 1
  | .ptr d => uptoBulk d + 1
  | .slice elems spare => uptoBulkAll elems + uptoBulkAll spare + 1
  | .agg parts => uptoBulkAll parts + 1
  | .iface _ d => uptoBulk d + 1
  | .map entries => uptoBulkEntries entries + 1
  | .held _ => 1
def uptoBulkAll {H : Type} : List (DataW H) → Nat
  | [] => 0
  | d :: r => uptoBulk d + uptoBulkAll r
def uptoBulkEntries {H : Type} : List (Lit × DataW H) → Nat
  | [] => 0
  | x :: r => uptoBulkEntry x + uptoBulkEntries r
def uptoBulkEntry {H : Type} : Lit × DataW H → Nat
  | (.string bytes, d) => bytes.length + uptoBulk d + 1
  | (_, d) => uptoBulk d + 1
 end
def uptoSmall : (H : Type) → List (DataW H) → Bool := fun _ ds => decide (uptoBulkAll ds ≤ 1048576)
def OpenSpec.upto (s : _root_.Go.ChangeSpec) : _root_.Go.OpenSpec := { _root_.Go.OpenSpec.ofChange s with cond := some uptoSmall }

/-- 'laws.FnExactParseWord', WHERE WHAT IT READS IS OF BULK AT MOST 1048576: true; the input reads as it did. -/
def fnExactParseWordUptoRow : OpenClaim := { program := "ytcnbgpelfkbmpaadoor", sum := "97a3b0f2637d24cdddc462652b3ac6cdb47996ac98485f12218bef2901655b4c", func := "loop.example/g01922/laws.FnExactParseWord", spec := "fnExactParseWord", inPlace := ["internal/bytealg.CountString", "internal/bytealg.IndexByteString", "internal/bytealg.IndexString"], named := ["unicode/utf8.first", "unicode/utf8.acceptRanges", "internal/bytealg.MaxLen"], apart := false, laid := [("unicode/utf8.acceptRanges", laid_unicode_utf8_acceptRanges), ("unicode/utf8.first", laid_unicode_utf8_first)], narrowed := true }
def FnExactParseWordUptoSaid : Prop := fnExactParseWordUptoRow.holds Tryd.pinned (OpenSpec.upto fnExactParseWordSpec)

/-- 'laws.FnExactFormatInt', WHERE WHAT IT READS IS OF BULK AT MOST 1048576: true; the input reads as it did. -/
def fnExactFormatIntUptoRow : OpenClaim := { program := "ytcnbgpelfkbmpaadoor", sum := "97a3b0f2637d24cdddc462652b3ac6cdb47996ac98485f12218bef2901655b4c", func := "loop.example/g01922/laws.FnExactFormatInt", spec := "fnExactFormatInt", named := ["internal/strconv.uint64pow10", "math/bits.deBruijn32tab", "math/bits.deBruijn64tab"], apart := false, laid := [("math/bits.deBruijn32tab", laid_math_bits_deBruijn32tab), ("math/bits.deBruijn64tab", laid_math_bits_deBruijn64tab), ("internal/strconv.uint64pow10", laid_internal_strconv_uint64pow10)], narrowed := true }
def FnExactFormatIntUptoSaid : Prop := fnExactFormatIntUptoRow.holds Tryd.pinned (OpenSpec.upto fnExactFormatIntSpec)

/-- 'laws.FnExactParseInt', WHERE WHAT IT READS IS OF BULK AT MOST 1048576: true; the input reads as it did. -/
def fnExactParseIntUptoRow : OpenClaim := { program := "ytcnbgpelfkbmpaadoor", sum := "97a3b0f2637d24cdddc462652b3ac6cdb47996ac98485f12218bef2901655b4c", func := "loop.example/g01922/laws.FnExactParseInt", spec := "fnExactParseInt", named := ["strconv.ErrSyntax", "strconv.ErrRange", "internal/strconv.uint64pow10", "math/bits.deBruijn32tab", "math/bits.deBruijn64tab"], apart := false, laid := [("math/bits.deBruijn32tab", laid_math_bits_deBruijn32tab), ("math/bits.deBruijn64tab", laid_math_bits_deBruijn64tab), ("internal/strconv.uint64pow10", laid_internal_strconv_uint64pow10), ("strconv.ErrRange", laid_strconv_ErrRange), ("strconv.ErrSyntax", laid_strconv_ErrSyntax)], narrowed := true }
def FnExactParseIntUptoSaid : Prop := fnExactParseIntUptoRow.holds Tryd.pinned (OpenSpec.upto fnExactParseIntSpec)

/-- 'laws.FnExactFormatEdge', WHERE WHAT IT READS IS OF BULK AT MOST 1048576: true; the input reads as it did. -/
def fnExactFormatEdgeUptoRow : OpenClaim := { program := "ytcnbgpelfkbmpaadoor", sum := "97a3b0f2637d24cdddc462652b3ac6cdb47996ac98485f12218bef2901655b4c", func := "loop.example/g01922/laws.FnExactFormatEdge", spec := "fnExactFormatEdge", named := ["internal/strconv.uint64pow10", "math/bits.deBruijn32tab", "math/bits.deBruijn64tab"], apart := false, laid := [("math/bits.deBruijn32tab", laid_math_bits_deBruijn32tab), ("math/bits.deBruijn64tab", laid_math_bits_deBruijn64tab), ("internal/strconv.uint64pow10", laid_internal_strconv_uint64pow10)], narrowed := true }
def FnExactFormatEdgeUptoSaid : Prop := fnExactFormatEdgeUptoRow.holds Tryd.pinned (OpenSpec.upto fnExactFormatEdgeSpec)

/-- 'laws.FnExactFormatWalk', WHERE WHAT IT READS IS OF BULK AT MOST 1048576: true; the input reads as it did. -/
def fnExactFormatWalkUptoRow : OpenClaim := { program := "ytcnbgpelfkbmpaadoor", sum := "97a3b0f2637d24cdddc462652b3ac6cdb47996ac98485f12218bef2901655b4c", func := "loop.example/g01922/laws.FnExactFormatWalk", spec := "fnExactFormatWalk", named := ["internal/strconv.uint64pow10", "math/bits.deBruijn32tab", "math/bits.deBruijn64tab"], apart := false, laid := [("math/bits.deBruijn32tab", laid_math_bits_deBruijn32tab), ("math/bits.deBruijn64tab", laid_math_bits_deBruijn64tab), ("internal/strconv.uint64pow10", laid_internal_strconv_uint64pow10)], narrowed := true }
def FnExactFormatWalkUptoSaid : Prop := fnExactFormatWalkUptoRow.holds Tryd.pinned (OpenSpec.upto fnExactFormatWalkSpec)

/-- 'laws.FnExactFormatGraph', WHERE WHAT IT READS IS OF BULK AT MOST 1048576: true; the input reads as it did. -/
def fnExactFormatGraphUptoRow : OpenClaim := { program := "ytcnbgpelfkbmpaadoor", sum := "97a3b0f2637d24cdddc462652b3ac6cdb47996ac98485f12218bef2901655b4c", func := "loop.example/g01922/laws.FnExactFormatGraph", spec := "fnExactFormatGraph", named := ["internal/strconv.uint64pow10", "math/bits.deBruijn32tab", "math/bits.deBruijn64tab"], apart := false, laid := [("math/bits.deBruijn32tab", laid_math_bits_deBruijn32tab), ("math/bits.deBruijn64tab", laid_math_bits_deBruijn64tab), ("internal/strconv.uint64pow10", laid_internal_strconv_uint64pow10)], narrowed := true }
def FnExactFormatGraphUptoSaid : Prop := fnExactFormatGraphUptoRow.holds Tryd.pinned (OpenSpec.upto fnExactFormatGraphSpec)

/-- 'laws.FnExactFormatBatch', WHERE WHAT IT READS IS OF BULK AT MOST 1048576: true; the input reads as it did. -/
def fnExactFormatBatchUptoRow : OpenClaim := { program := "ytcnbgpelfkbmpaadoor", sum := "97a3b0f2637d24cdddc462652b3ac6cdb47996ac98485f12218bef2901655b4c", func := "loop.example/g01922/laws.FnExactFormatBatch", spec := "fnExactFormatBatch", inPlace := ["internal/abi.NoEscape", "internal/bytealg.MakeNoZero"], named := ["internal/strconv.uint64pow10", "math/bits.deBruijn32tab", "math/bits.deBruijn64tab"], apart := false, laid := [("math/bits.deBruijn32tab", laid_math_bits_deBruijn32tab), ("math/bits.deBruijn64tab", laid_math_bits_deBruijn64tab), ("internal/strconv.uint64pow10", laid_internal_strconv_uint64pow10)], narrowed := true }
def FnExactFormatBatchUptoSaid : Prop := fnExactFormatBatchUptoRow.holds Tryd.pinned (OpenSpec.upto fnExactFormatBatchSpec)

/-- 'laws.FnExactParseEdge', WHERE WHAT IT READS IS OF BULK AT MOST 1048576: true; the input reads as it did. -/
def fnExactParseEdgeUptoRow : OpenClaim := { program := "ytcnbgpelfkbmpaadoor", sum := "97a3b0f2637d24cdddc462652b3ac6cdb47996ac98485f12218bef2901655b4c", func := "loop.example/g01922/laws.FnExactParseEdge", spec := "fnExactParseEdge", inPlace := ["internal/bytealg.IndexByteString", "internal/bytealg.IndexString"], named := ["internal/bytealg.MaxLen", "strconv.ErrSyntax", "strconv.ErrRange", "internal/strconv.uint64pow10", "math/bits.deBruijn32tab", "math/bits.deBruijn64tab"], apart := false, laid := [("math/bits.deBruijn32tab", laid_math_bits_deBruijn32tab), ("math/bits.deBruijn64tab", laid_math_bits_deBruijn64tab), ("internal/strconv.uint64pow10", laid_internal_strconv_uint64pow10), ("strconv.ErrRange", laid_strconv_ErrRange), ("strconv.ErrSyntax", laid_strconv_ErrSyntax)], narrowed := true }
def FnExactParseEdgeUptoSaid : Prop := fnExactParseEdgeUptoRow.holds Tryd.pinned (OpenSpec.upto fnExactParseEdgeSpec)

/-- 'laws.FnExactParseWalk', WHERE WHAT IT READS IS OF BULK AT MOST 1048576: true; the input reads as it did. -/
def fnExactParseWalkUptoRow : OpenClaim := { program := "ytcnbgpelfkbmpaadoor", sum := "97a3b0f2637d24cdddc462652b3ac6cdb47996ac98485f12218bef2901655b4c", func := "loop.example/g01922/laws.FnExactParseWalk", spec := "fnExactParseWalk", inPlace := ["internal/bytealg.CountString", "internal/bytealg.IndexByteString", "internal/bytealg.IndexString"], named := ["unicode/utf8.first", "unicode/utf8.acceptRanges", "internal/bytealg.MaxLen", "strconv.ErrSyntax", "strconv.ErrRange", "internal/strconv.uint64pow10", "math/bits.deBruijn32tab", "math/bits.deBruijn64tab"], apart := false, laid := [("math/bits.deBruijn32tab", laid_math_bits_deBruijn32tab), ("math/bits.deBruijn64tab", laid_math_bits_deBruijn64tab), ("internal/strconv.uint64pow10", laid_internal_strconv_uint64pow10), ("unicode/utf8.acceptRanges", laid_unicode_utf8_acceptRanges), ("strconv.ErrRange", laid_strconv_ErrRange), ("strconv.ErrSyntax", laid_strconv_ErrSyntax), ("unicode/utf8.first", laid_unicode_utf8_first)], narrowed := true }
def FnExactParseWalkUptoSaid : Prop := fnExactParseWalkUptoRow.holds Tryd.pinned (OpenSpec.upto fnExactParseWalkSpec)

/-- 'laws.FnExactParseGraph', WHERE WHAT IT READS IS OF BULK AT MOST 1048576: true; the input reads as it did. -/
def fnExactParseGraphUptoRow : OpenClaim := { program := "ytcnbgpelfkbmpaadoor", sum := "97a3b0f2637d24cdddc462652b3ac6cdb47996ac98485f12218bef2901655b4c", func := "loop.example/g01922/laws.FnExactParseGraph", spec := "fnExactParseGraph", inPlace := ["internal/bytealg.CountString", "internal/bytealg.IndexByteString", "internal/bytealg.IndexString"], named := ["unicode/utf8.first", "unicode/utf8.acceptRanges", "internal/bytealg.MaxLen", "strconv.ErrSyntax", "strconv.ErrRange", "internal/strconv.uint64pow10", "math/bits.deBruijn32tab", "math/bits.deBruijn64tab"], apart := false, laid := [("math/bits.deBruijn32tab", laid_math_bits_deBruijn32tab), ("math/bits.deBruijn64tab", laid_math_bits_deBruijn64tab), ("internal/strconv.uint64pow10", laid_internal_strconv_uint64pow10), ("unicode/utf8.acceptRanges", laid_unicode_utf8_acceptRanges), ("strconv.ErrRange", laid_strconv_ErrRange), ("strconv.ErrSyntax", laid_strconv_ErrSyntax), ("unicode/utf8.first", laid_unicode_utf8_first)], narrowed := true }
def FnExactParseGraphUptoSaid : Prop := fnExactParseGraphUptoRow.holds Tryd.pinned (OpenSpec.upto fnExactParseGraphSpec)

/-- 'laws.FnExactParseBatch', WHERE WHAT IT READS IS OF BULK AT MOST 1048576: true; the input reads as it did. -/
def fnExactParseBatchUptoRow : OpenClaim := { program := "ytcnbgpelfkbmpaadoor", sum := "97a3b0f2637d24cdddc462652b3ac6cdb47996ac98485f12218bef2901655b4c", func := "loop.example/g01922/laws.FnExactParseBatch", spec := "fnExactParseBatch", inPlace := ["internal/bytealg.CountString", "internal/bytealg.IndexByteString", "internal/bytealg.IndexString", "internal/abi.NoEscape", "internal/bytealg.MakeNoZero"], named := ["unicode/utf8.first", "unicode/utf8.acceptRanges", "internal/bytealg.MaxLen", "strconv.ErrSyntax", "strconv.ErrRange", "internal/strconv.uint64pow10", "math/bits.deBruijn32tab", "math/bits.deBruijn64tab"], apart := false, laid := [("math/bits.deBruijn32tab", laid_math_bits_deBruijn32tab), ("math/bits.deBruijn64tab", laid_math_bits_deBruijn64tab), ("internal/strconv.uint64pow10", laid_internal_strconv_uint64pow10), ("unicode/utf8.acceptRanges", laid_unicode_utf8_acceptRanges), ("strconv.ErrRange", laid_strconv_ErrRange), ("strconv.ErrSyntax", laid_strconv_ErrSyntax), ("unicode/utf8.first", laid_unicode_utf8_first)], narrowed := true }
def FnExactParseBatchUptoSaid : Prop := fnExactParseBatchUptoRow.holds Tryd.pinned (OpenSpec.upto fnExactParseBatchSpec)

/-- 'laws.FnLetters', WHERE WHAT IT READS IS OF BULK AT MOST 1048576: true; the input reads as it did. -/
def fnLettersUptoRow : OpenClaim := { program := "ytcnbgpelfkbmpaadoor", sum := "97a3b0f2637d24cdddc462652b3ac6cdb47996ac98485f12218bef2901655b4c", func := "loop.example/g01922/laws.FnLetters", spec := "fnLetters", inPlace := ["internal/abi.NoEscape", "internal/bytealg.MakeNoZero", "internal/bytealg.CountString", "internal/bytealg.IndexByteString", "internal/bytealg.IndexString"], named := ["unicode/utf8.first", "unicode/utf8.acceptRanges", "internal/bytealg.MaxLen"], apart := false, laid := [("unicode/utf8.acceptRanges", laid_unicode_utf8_acceptRanges), ("unicode/utf8.first", laid_unicode_utf8_first)], narrowed := true }
def FnLettersUptoSaid : Prop := fnLettersUptoRow.holds Tryd.pinned (OpenSpec.upto fnLettersSpec)

/-- 'laws.FnIntegerEncodings', WHERE WHAT IT READS IS OF BULK AT MOST 1048576: true; the input reads as it did. -/
def fnIntegerEncodingsUptoRow : OpenClaim := { program := "ytcnbgpelfkbmpaadoor", sum := "97a3b0f2637d24cdddc462652b3ac6cdb47996ac98485f12218bef2901655b4c", func := "loop.example/g01922/laws.FnIntegerEncodings", spec := "fnIntegerEncodings", named := ["internal/strconv.uint64pow10", "math/bits.deBruijn32tab", "math/bits.deBruijn64tab", "strconv.ErrSyntax", "strconv.ErrRange"], apart := false, laid := [("math/bits.deBruijn32tab", laid_math_bits_deBruijn32tab), ("math/bits.deBruijn64tab", laid_math_bits_deBruijn64tab), ("internal/strconv.uint64pow10", laid_internal_strconv_uint64pow10), ("strconv.ErrRange", laid_strconv_ErrRange), ("strconv.ErrSyntax", laid_strconv_ErrSyntax)], narrowed := true }
def FnIntegerEncodingsUptoSaid : Prop := fnIntegerEncodingsUptoRow.holds Tryd.pinned (OpenSpec.upto fnIntegerEncodingsSpec)

end Rows
end Go.Proofs.YtcnbgpelfkbmpaaDoor
