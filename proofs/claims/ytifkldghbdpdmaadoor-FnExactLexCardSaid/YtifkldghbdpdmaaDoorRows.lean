/-
  NARROWER THAN 'FOR EVERY INPUT', by the rows' own cells (each row's printed sentence says how): FnExactDigits: laid · FnExactKeyText: laid · FnExactKeyOf: laid · FnExactQuoteText: laid · FnExactPlainName: laid · FnExactNameText: laid · FnExactNumber: laid · FnExactValueText: laid · FnExactTokenOk: laid · FnExactTokenText: laid · FnExactNeedsGap: laid · FnExactLex: laid.
  DERIVED. THE GIVEN ROWS OF THIS SEAT. 12 by the template 'for every input the law returns true; each argument reads behind the call as it read before'; 0 by the template 'total and deterministic' (their statements: YtifkldghbdpdmaaDoorTotals.lean).
  GIVEN WITH THE SEED: the statements are not yours to turn. If you find one false, say at which input.
  Laid BY PROGRAM, IN A SANDBOX (cutbox-rows.mjs): the forced cells as the released guide's own fill.sh prints them over the translation 498f4e30bf85af87… (all of the seat's roots in one cut). By AI agents, Wed Nov 11 2026. No macro, syntax, notation, axiom, sorry.
-/
import Derived.Test.YtifkldghbdpdmaaDoorChecked
import GoSem.PinnedTables
import GoSem.Claim
import GoSem.ClaimJoined
import GoSem.ClaimMapViews
import Derived.JoinedTies
import Derived.KernelRfl
namespace Go.Proofs.YtifkldghbdpdmaaDoor
/- THE CELL 'sum', in the pinned program and in every row, IS THE sha256 OF THE DUMP (.gsa) THAT YtifkldghbdpdmaaDoorProg.lean LOADS. Nothing in Lean hashes anything: it is a label: what it is worth is what the hold of that sum in a sandbox is worth. -/
noncomputable def Tryd.pinned : Pinned := { name := "ytifkldghbdpdmaadoor", sum := "498f4e30bf85af87f8152712c83122bd696ab1fec94c7c3f976674643372d7be", checked := Tryd.checked }
namespace Rows
def none {H : Type} : Left H := { results := [], args := [] }

/- WHAT THE LISTED PACKAGE-LEVEL VARIABLES READ AS WHEN THE CALL BEGINS. Each datum BY PROGRAM (the guide's laid-datum.mjs) off the statement by which the dump's own 'gosem.cut.vars' lays the variable. In a bare row this is a premise. The card (YtifkldghbdpdmaaDoorCards.lean) ties it to the program's text. -/
def laid_math_bits_deBruijn32tab {H : Type} : DataW H := .agg [.lit (.int .u8 0), .lit (.int .u8 1), .lit (.int .u8 28), .lit (.int .u8 2), .lit (.int .u8 29), .lit (.int .u8 14), .lit (.int .u8 24), .lit (.int .u8 3), .lit (.int .u8 30), .lit (.int .u8 22), .lit (.int .u8 20), .lit (.int .u8 15), .lit (.int .u8 25), .lit (.int .u8 17), .lit (.int .u8 4), .lit (.int .u8 8), .lit (.int .u8 31), .lit (.int .u8 27), .lit (.int .u8 13), .lit (.int .u8 23), .lit (.int .u8 21), .lit (.int .u8 19), .lit (.int .u8 16), .lit (.int .u8 7), .lit (.int .u8 26), .lit (.int .u8 12), .lit (.int .u8 18), .lit (.int .u8 6), .lit (.int .u8 11), .lit (.int .u8 5), .lit (.int .u8 10), .lit (.int .u8 9)]
def laid_math_bits_deBruijn64tab {H : Type} : DataW H := .agg [.lit (.int .u8 0), .lit (.int .u8 1), .lit (.int .u8 56), .lit (.int .u8 2), .lit (.int .u8 57), .lit (.int .u8 49), .lit (.int .u8 28), .lit (.int .u8 3), .lit (.int .u8 61), .lit (.int .u8 58), .lit (.int .u8 42), .lit (.int .u8 50), .lit (.int .u8 38), .lit (.int .u8 29), .lit (.int .u8 17), .lit (.int .u8 4), .lit (.int .u8 62), .lit (.int .u8 47), .lit (.int .u8 59), .lit (.int .u8 36), .lit (.int .u8 45), .lit (.int .u8 43), .lit (.int .u8 51), .lit (.int .u8 22), .lit (.int .u8 53), .lit (.int .u8 39), .lit (.int .u8 33), .lit (.int .u8 30), .lit (.int .u8 24), .lit (.int .u8 18), .lit (.int .u8 12), .lit (.int .u8 5), .lit (.int .u8 63), .lit (.int .u8 55), .lit (.int .u8 48), .lit (.int .u8 27), .lit (.int .u8 60), .lit (.int .u8 41), .lit (.int .u8 37), .lit (.int .u8 16), .lit (.int .u8 46), .lit (.int .u8 35), .lit (.int .u8 44), .lit (.int .u8 21), .lit (.int .u8 52), .lit (.int .u8 32), .lit (.int .u8 23), .lit (.int .u8 11), .lit (.int .u8 54), .lit (.int .u8 26), .lit (.int .u8 40), .lit (.int .u8 15), .lit (.int .u8 34), .lit (.int .u8 20), .lit (.int .u8 31), .lit (.int .u8 10), .lit (.int .u8 25), .lit (.int .u8 14), .lit (.int .u8 19), .lit (.int .u8 9), .lit (.int .u8 13), .lit (.int .u8 8), .lit (.int .u8 7), .lit (.int .u8 6)]
def laid_internal_strconv_uint64pow10 {H : Type} : DataW H := .agg [.lit (.int .u64 1), .lit (.int .u64 10), .lit (.int .u64 100), .lit (.int .u64 1000), .lit (.int .u64 10000), .lit (.int .u64 100000), .lit (.int .u64 1000000), .lit (.int .u64 10000000), .lit (.int .u64 100000000), .lit (.int .u64 1000000000), .lit (.int .u64 10000000000), .lit (.int .u64 100000000000), .lit (.int .u64 1000000000000), .lit (.int .u64 10000000000000), .lit (.int .u64 100000000000000), .lit (.int .u64 1000000000000000), .lit (.int .u64 10000000000000000), .lit (.int .u64 100000000000000000), .lit (.int .u64 1000000000000000000), .lit (.int .u64 10000000000000000000)]
def laid_unicode_utf8_acceptRanges {H : Type} : DataW H := .agg [.agg [.lit (.int .u8 128), .lit (.int .u8 191)], .agg [.lit (.int .u8 160), .lit (.int .u8 191)], .agg [.lit (.int .u8 128), .lit (.int .u8 159)], .agg [.lit (.int .u8 144), .lit (.int .u8 191)], .agg [.lit (.int .u8 128), .lit (.int .u8 143)], .agg [.lit (.int .u8 0), .lit (.int .u8 0)], .agg [.lit (.int .u8 0), .lit (.int .u8 0)], .agg [.lit (.int .u8 0), .lit (.int .u8 0)], .agg [.lit (.int .u8 0), .lit (.int .u8 0)], .agg [.lit (.int .u8 0), .lit (.int .u8 0)], .agg [.lit (.int .u8 0), .lit (.int .u8 0)], .agg [.lit (.int .u8 0), .lit (.int .u8 0)], .agg [.lit (.int .u8 0), .lit (.int .u8 0)], .agg [.lit (.int .u8 0), .lit (.int .u8 0)], .agg [.lit (.int .u8 0), .lit (.int .u8 0)], .agg [.lit (.int .u8 0), .lit (.int .u8 0)]]
/-- One of Go's own tables, pinned by name: the form's constant. -/
def laid_unicode_utf8_first : DataW Unit := Go.Pinned.utf8First
def laid_strconv_ErrRange {H : Type} : DataW H := .iface "*errors.errorString" (.ptr (.agg [.lit (.string [118, 97, 108, 117, 101, 32, 111, 117, 116, 32, 111, 102, 32, 114, 97, 110, 103, 101])]))
def laid_strconv_ErrSyntax {H : Type} : DataW H := .iface "*errors.errorString" (.ptr (.agg [.lit (.string [105, 110, 118, 97, 108, 105, 100, 32, 115, 121, 110, 116, 97, 120])]))

/-- 'laws.FnExactDigits': WHATEVER THE INPUT: true; the input reads as it did. -/
def fnExactDigitsSpec : ChangeSpec := { name := "fnExactDigits", fn := fun _ => fun
  | [d] => { results := [.lit (.bool true)], args := [d] }
  | _ => none }
def fnExactDigitsRow : OpenClaim := { program := "ytifkldghbdpdmaadoor", sum := "498f4e30bf85af87f8152712c83122bd696ab1fec94c7c3f976674643372d7be", func := "loop.example/g00495/laws.FnExactDigits", spec := "fnExactDigits", named := ["internal/strconv.uint64pow10", "math/bits.deBruijn32tab", "math/bits.deBruijn64tab"], apart := false, laid := [("math/bits.deBruijn32tab", laid_math_bits_deBruijn32tab), ("math/bits.deBruijn64tab", laid_math_bits_deBruijn64tab), ("internal/strconv.uint64pow10", laid_internal_strconv_uint64pow10)] }
def FnExactDigitsSaid : Prop := fnExactDigitsRow.holds Tryd.pinned (OpenSpec.ofChange fnExactDigitsSpec)

/-- ITS FALSE NEIGHBOUR: 'it returns false'. Refute it at one input. -/
def fnExactDigitsWrong : ChangeSpec := { name := "fnExactDigits", fn := fun _ => fun
  | [d] => { results := [.lit (.bool false)], args := [d] }
  | _ => none }
def FnExactDigitsWrongFalsely : Prop := fnExactDigitsRow.holds Tryd.pinned (OpenSpec.ofChange fnExactDigitsWrong)

/-- 'laws.FnExactKeyText': WHATEVER THE INPUT: true; the input reads as it did. -/
def fnExactKeyTextSpec : ChangeSpec := { name := "fnExactKeyText", fn := fun _ => fun
  | [d] => { results := [.lit (.bool true)], args := [d] }
  | _ => none }
def fnExactKeyTextRow : OpenClaim := { program := "ytifkldghbdpdmaadoor", sum := "498f4e30bf85af87f8152712c83122bd696ab1fec94c7c3f976674643372d7be", func := "loop.example/g00495/laws.FnExactKeyText", spec := "fnExactKeyText", inPlace := ["internal/bytealg.CountString", "internal/bytealg.IndexByteString", "internal/bytealg.IndexString"], named := ["unicode/utf8.first", "unicode/utf8.acceptRanges", "internal/bytealg.MaxLen"], apart := false, laid := [("unicode/utf8.acceptRanges", laid_unicode_utf8_acceptRanges), ("unicode/utf8.first", laid_unicode_utf8_first)] }
def FnExactKeyTextSaid : Prop := fnExactKeyTextRow.holds Tryd.pinned (OpenSpec.ofChange fnExactKeyTextSpec)

/-- ITS FALSE NEIGHBOUR: 'it returns false'. Refute it at one input. -/
def fnExactKeyTextWrong : ChangeSpec := { name := "fnExactKeyText", fn := fun _ => fun
  | [d] => { results := [.lit (.bool false)], args := [d] }
  | _ => none }
def FnExactKeyTextWrongFalsely : Prop := fnExactKeyTextRow.holds Tryd.pinned (OpenSpec.ofChange fnExactKeyTextWrong)

/-- 'laws.FnExactKeyOf': WHATEVER THE INPUT: true; the input reads as it did. -/
def fnExactKeyOfSpec : ChangeSpec := { name := "fnExactKeyOf", fn := fun _ => fun
  | [d] => { results := [.lit (.bool true)], args := [d] }
  | _ => none }
def fnExactKeyOfRow : OpenClaim := { program := "ytifkldghbdpdmaadoor", sum := "498f4e30bf85af87f8152712c83122bd696ab1fec94c7c3f976674643372d7be", func := "loop.example/g00495/laws.FnExactKeyOf", spec := "fnExactKeyOf", inPlace := ["internal/bytealg.CountString", "internal/bytealg.IndexByteString", "internal/bytealg.IndexString"], named := ["unicode/utf8.first", "unicode/utf8.acceptRanges", "internal/bytealg.MaxLen"], apart := false, laid := [("unicode/utf8.acceptRanges", laid_unicode_utf8_acceptRanges), ("unicode/utf8.first", laid_unicode_utf8_first)] }
def FnExactKeyOfSaid : Prop := fnExactKeyOfRow.holds Tryd.pinned (OpenSpec.ofChange fnExactKeyOfSpec)

/-- ITS FALSE NEIGHBOUR: 'it returns false'. Refute it at one input. -/
def fnExactKeyOfWrong : ChangeSpec := { name := "fnExactKeyOf", fn := fun _ => fun
  | [d] => { results := [.lit (.bool false)], args := [d] }
  | _ => none }
def FnExactKeyOfWrongFalsely : Prop := fnExactKeyOfRow.holds Tryd.pinned (OpenSpec.ofChange fnExactKeyOfWrong)

/-- 'laws.FnExactQuoteText': WHATEVER THE INPUT: true; the input reads as it did. -/
def fnExactQuoteTextSpec : ChangeSpec := { name := "fnExactQuoteText", fn := fun _ => fun
  | [d] => { results := [.lit (.bool true)], args := [d] }
  | _ => none }
def fnExactQuoteTextRow : OpenClaim := { program := "ytifkldghbdpdmaadoor", sum := "498f4e30bf85af87f8152712c83122bd696ab1fec94c7c3f976674643372d7be", func := "loop.example/g00495/laws.FnExactQuoteText", spec := "fnExactQuoteText", inPlace := ["internal/bytealg.CountString", "internal/bytealg.IndexByteString", "internal/bytealg.IndexString", "internal/abi.NoEscape", "internal/bytealg.MakeNoZero"], named := ["internal/bytealg.MaxLen", "unicode/utf8.first", "unicode/utf8.acceptRanges"], apart := false, laid := [("unicode/utf8.acceptRanges", laid_unicode_utf8_acceptRanges), ("unicode/utf8.first", laid_unicode_utf8_first)] }
def FnExactQuoteTextSaid : Prop := fnExactQuoteTextRow.holds Tryd.pinned (OpenSpec.ofChange fnExactQuoteTextSpec)

/-- ITS FALSE NEIGHBOUR: 'it returns false'. Refute it at one input. -/
def fnExactQuoteTextWrong : ChangeSpec := { name := "fnExactQuoteText", fn := fun _ => fun
  | [d] => { results := [.lit (.bool false)], args := [d] }
  | _ => none }
def FnExactQuoteTextWrongFalsely : Prop := fnExactQuoteTextRow.holds Tryd.pinned (OpenSpec.ofChange fnExactQuoteTextWrong)

/-- 'laws.FnExactPlainName': WHATEVER THE INPUT: true; the input reads as it did. -/
def fnExactPlainNameSpec : ChangeSpec := { name := "fnExactPlainName", fn := fun _ => fun
  | [d] => { results := [.lit (.bool true)], args := [d] }
  | _ => none }
def fnExactPlainNameRow : OpenClaim := { program := "ytifkldghbdpdmaadoor", sum := "498f4e30bf85af87f8152712c83122bd696ab1fec94c7c3f976674643372d7be", func := "loop.example/g00495/laws.FnExactPlainName", spec := "fnExactPlainName", inPlace := ["internal/bytealg.CountString", "internal/bytealg.IndexByteString", "internal/bytealg.IndexString"], named := ["unicode/utf8.first", "unicode/utf8.acceptRanges", "internal/bytealg.MaxLen"], apart := false, laid := [("unicode/utf8.acceptRanges", laid_unicode_utf8_acceptRanges), ("unicode/utf8.first", laid_unicode_utf8_first)] }
def FnExactPlainNameSaid : Prop := fnExactPlainNameRow.holds Tryd.pinned (OpenSpec.ofChange fnExactPlainNameSpec)

/-- ITS FALSE NEIGHBOUR: 'it returns false'. Refute it at one input. -/
def fnExactPlainNameWrong : ChangeSpec := { name := "fnExactPlainName", fn := fun _ => fun
  | [d] => { results := [.lit (.bool false)], args := [d] }
  | _ => none }
def FnExactPlainNameWrongFalsely : Prop := fnExactPlainNameRow.holds Tryd.pinned (OpenSpec.ofChange fnExactPlainNameWrong)

/-- 'laws.FnExactNameText': WHATEVER THE INPUT: true; the input reads as it did. -/
def fnExactNameTextSpec : ChangeSpec := { name := "fnExactNameText", fn := fun _ => fun
  | [d] => { results := [.lit (.bool true)], args := [d] }
  | _ => none }
def fnExactNameTextRow : OpenClaim := { program := "ytifkldghbdpdmaadoor", sum := "498f4e30bf85af87f8152712c83122bd696ab1fec94c7c3f976674643372d7be", func := "loop.example/g00495/laws.FnExactNameText", spec := "fnExactNameText", inPlace := ["internal/bytealg.CountString", "internal/bytealg.IndexByteString", "internal/bytealg.IndexString", "internal/abi.NoEscape", "internal/bytealg.MakeNoZero"], named := ["unicode/utf8.first", "unicode/utf8.acceptRanges", "internal/bytealg.MaxLen"], apart := false, laid := [("unicode/utf8.acceptRanges", laid_unicode_utf8_acceptRanges), ("unicode/utf8.first", laid_unicode_utf8_first)] }
def FnExactNameTextSaid : Prop := fnExactNameTextRow.holds Tryd.pinned (OpenSpec.ofChange fnExactNameTextSpec)

/-- ITS FALSE NEIGHBOUR: 'it returns false'. Refute it at one input. -/
def fnExactNameTextWrong : ChangeSpec := { name := "fnExactNameText", fn := fun _ => fun
  | [d] => { results := [.lit (.bool false)], args := [d] }
  | _ => none }
def FnExactNameTextWrongFalsely : Prop := fnExactNameTextRow.holds Tryd.pinned (OpenSpec.ofChange fnExactNameTextWrong)

/-- 'laws.FnExactNumber': WHATEVER THE INPUT: true; the input reads as it did. -/
def fnExactNumberSpec : ChangeSpec := { name := "fnExactNumber", fn := fun _ => fun
  | [d] => { results := [.lit (.bool true)], args := [d] }
  | _ => none }
def fnExactNumberRow : OpenClaim := { program := "ytifkldghbdpdmaadoor", sum := "498f4e30bf85af87f8152712c83122bd696ab1fec94c7c3f976674643372d7be", func := "loop.example/g00495/laws.FnExactNumber", spec := "fnExactNumber", named := ["strconv.ErrSyntax", "strconv.ErrRange", "internal/strconv.uint64pow10", "math/bits.deBruijn32tab", "math/bits.deBruijn64tab"], apart := false, laid := [("math/bits.deBruijn32tab", laid_math_bits_deBruijn32tab), ("math/bits.deBruijn64tab", laid_math_bits_deBruijn64tab), ("internal/strconv.uint64pow10", laid_internal_strconv_uint64pow10), ("strconv.ErrRange", laid_strconv_ErrRange), ("strconv.ErrSyntax", laid_strconv_ErrSyntax)] }
def FnExactNumberSaid : Prop := fnExactNumberRow.holds Tryd.pinned (OpenSpec.ofChange fnExactNumberSpec)

/-- ITS FALSE NEIGHBOUR: 'it returns false'. Refute it at one input. -/
def fnExactNumberWrong : ChangeSpec := { name := "fnExactNumber", fn := fun _ => fun
  | [d] => { results := [.lit (.bool false)], args := [d] }
  | _ => none }
def FnExactNumberWrongFalsely : Prop := fnExactNumberRow.holds Tryd.pinned (OpenSpec.ofChange fnExactNumberWrong)

/-- 'laws.FnExactValueText': WHATEVER THE INPUT: true; the input reads as it did. -/
def fnExactValueTextSpec : ChangeSpec := { name := "fnExactValueText", fn := fun _ => fun
  | [d] => { results := [.lit (.bool true)], args := [d] }
  | _ => none }
def fnExactValueTextRow : OpenClaim := { program := "ytifkldghbdpdmaadoor", sum := "498f4e30bf85af87f8152712c83122bd696ab1fec94c7c3f976674643372d7be", func := "loop.example/g00495/laws.FnExactValueText", spec := "fnExactValueText", inPlace := ["internal/bytealg.CountString", "internal/bytealg.IndexByteString", "internal/bytealg.IndexString", "internal/abi.NoEscape", "internal/bytealg.MakeNoZero"], named := ["internal/strconv.uint64pow10", "math/bits.deBruijn32tab", "math/bits.deBruijn64tab", "internal/bytealg.MaxLen", "unicode/utf8.first", "unicode/utf8.acceptRanges"], apart := false, laid := [("math/bits.deBruijn32tab", laid_math_bits_deBruijn32tab), ("math/bits.deBruijn64tab", laid_math_bits_deBruijn64tab), ("internal/strconv.uint64pow10", laid_internal_strconv_uint64pow10), ("unicode/utf8.acceptRanges", laid_unicode_utf8_acceptRanges), ("unicode/utf8.first", laid_unicode_utf8_first)] }
def FnExactValueTextSaid : Prop := fnExactValueTextRow.holds Tryd.pinned (OpenSpec.ofChange fnExactValueTextSpec)

/-- ITS FALSE NEIGHBOUR: 'it returns false'. Refute it at one input. -/
def fnExactValueTextWrong : ChangeSpec := { name := "fnExactValueText", fn := fun _ => fun
  | [d] => { results := [.lit (.bool false)], args := [d] }
  | _ => none }
def FnExactValueTextWrongFalsely : Prop := fnExactValueTextRow.holds Tryd.pinned (OpenSpec.ofChange fnExactValueTextWrong)

/-- 'laws.FnExactTokenOk': WHATEVER THE INPUT: true; the input reads as it did. -/
def fnExactTokenOkSpec : ChangeSpec := { name := "fnExactTokenOk", fn := fun _ => fun
  | [d] => { results := [.lit (.bool true)], args := [d] }
  | _ => none }
def fnExactTokenOkRow : OpenClaim := { program := "ytifkldghbdpdmaadoor", sum := "498f4e30bf85af87f8152712c83122bd696ab1fec94c7c3f976674643372d7be", func := "loop.example/g00495/laws.FnExactTokenOk", spec := "fnExactTokenOk", inPlace := ["internal/bytealg.CountString", "internal/bytealg.IndexByteString", "internal/bytealg.IndexString"], named := ["unicode/utf8.first", "unicode/utf8.acceptRanges", "internal/bytealg.MaxLen", "strconv.ErrSyntax", "strconv.ErrRange", "internal/strconv.uint64pow10", "math/bits.deBruijn32tab", "math/bits.deBruijn64tab"], apart := false, laid := [("math/bits.deBruijn32tab", laid_math_bits_deBruijn32tab), ("math/bits.deBruijn64tab", laid_math_bits_deBruijn64tab), ("internal/strconv.uint64pow10", laid_internal_strconv_uint64pow10), ("unicode/utf8.acceptRanges", laid_unicode_utf8_acceptRanges), ("strconv.ErrRange", laid_strconv_ErrRange), ("strconv.ErrSyntax", laid_strconv_ErrSyntax), ("unicode/utf8.first", laid_unicode_utf8_first)] }
def FnExactTokenOkSaid : Prop := fnExactTokenOkRow.holds Tryd.pinned (OpenSpec.ofChange fnExactTokenOkSpec)

/-- ITS FALSE NEIGHBOUR: 'it returns false'. Refute it at one input. -/
def fnExactTokenOkWrong : ChangeSpec := { name := "fnExactTokenOk", fn := fun _ => fun
  | [d] => { results := [.lit (.bool false)], args := [d] }
  | _ => none }
def FnExactTokenOkWrongFalsely : Prop := fnExactTokenOkRow.holds Tryd.pinned (OpenSpec.ofChange fnExactTokenOkWrong)

/-- 'laws.FnExactTokenText': WHATEVER THE INPUT: true; the input reads as it did. -/
def fnExactTokenTextSpec : ChangeSpec := { name := "fnExactTokenText", fn := fun _ => fun
  | [d] => { results := [.lit (.bool true)], args := [d] }
  | _ => none }
def fnExactTokenTextRow : OpenClaim := { program := "ytifkldghbdpdmaadoor", sum := "498f4e30bf85af87f8152712c83122bd696ab1fec94c7c3f976674643372d7be", func := "loop.example/g00495/laws.FnExactTokenText", spec := "fnExactTokenText", inPlace := ["internal/bytealg.CountString", "internal/bytealg.IndexByteString", "internal/bytealg.IndexString", "internal/abi.NoEscape", "internal/bytealg.MakeNoZero"], named := ["unicode/utf8.first", "unicode/utf8.acceptRanges", "internal/bytealg.MaxLen", "strconv.ErrSyntax", "strconv.ErrRange", "internal/strconv.uint64pow10", "math/bits.deBruijn32tab", "math/bits.deBruijn64tab"], apart := false, laid := [("math/bits.deBruijn32tab", laid_math_bits_deBruijn32tab), ("math/bits.deBruijn64tab", laid_math_bits_deBruijn64tab), ("internal/strconv.uint64pow10", laid_internal_strconv_uint64pow10), ("unicode/utf8.acceptRanges", laid_unicode_utf8_acceptRanges), ("strconv.ErrRange", laid_strconv_ErrRange), ("strconv.ErrSyntax", laid_strconv_ErrSyntax), ("unicode/utf8.first", laid_unicode_utf8_first)] }
def FnExactTokenTextSaid : Prop := fnExactTokenTextRow.holds Tryd.pinned (OpenSpec.ofChange fnExactTokenTextSpec)

/-- ITS FALSE NEIGHBOUR: 'it returns false'. Refute it at one input. -/
def fnExactTokenTextWrong : ChangeSpec := { name := "fnExactTokenText", fn := fun _ => fun
  | [d] => { results := [.lit (.bool false)], args := [d] }
  | _ => none }
def FnExactTokenTextWrongFalsely : Prop := fnExactTokenTextRow.holds Tryd.pinned (OpenSpec.ofChange fnExactTokenTextWrong)

/-- 'laws.FnExactNeedsGap': WHATEVER THE INPUT: true; the input reads as it did. -/
def fnExactNeedsGapSpec : ChangeSpec := { name := "fnExactNeedsGap", fn := fun _ => fun
  | [d1, d2] => { results := [.lit (.bool true)], args := [d1, d2] }
  | _ => none }
def fnExactNeedsGapRow : OpenClaim := { program := "ytifkldghbdpdmaadoor", sum := "498f4e30bf85af87f8152712c83122bd696ab1fec94c7c3f976674643372d7be", func := "loop.example/g00495/laws.FnExactNeedsGap", spec := "fnExactNeedsGap", inPlace := ["internal/bytealg.CountString", "internal/bytealg.IndexByteString", "internal/bytealg.IndexString"], named := ["unicode/utf8.first", "unicode/utf8.acceptRanges", "internal/bytealg.MaxLen", "strconv.ErrSyntax", "strconv.ErrRange", "internal/strconv.uint64pow10", "math/bits.deBruijn32tab", "math/bits.deBruijn64tab"], apart := false, laid := [("math/bits.deBruijn32tab", laid_math_bits_deBruijn32tab), ("math/bits.deBruijn64tab", laid_math_bits_deBruijn64tab), ("internal/strconv.uint64pow10", laid_internal_strconv_uint64pow10), ("unicode/utf8.acceptRanges", laid_unicode_utf8_acceptRanges), ("strconv.ErrRange", laid_strconv_ErrRange), ("strconv.ErrSyntax", laid_strconv_ErrSyntax), ("unicode/utf8.first", laid_unicode_utf8_first)] }
def FnExactNeedsGapSaid : Prop := fnExactNeedsGapRow.holds Tryd.pinned (OpenSpec.ofChange fnExactNeedsGapSpec)

/-- ITS FALSE NEIGHBOUR: 'it returns false'. Refute it at one input. -/
def fnExactNeedsGapWrong : ChangeSpec := { name := "fnExactNeedsGap", fn := fun _ => fun
  | [d1, d2] => { results := [.lit (.bool false)], args := [d1, d2] }
  | _ => none }
def FnExactNeedsGapWrongFalsely : Prop := fnExactNeedsGapRow.holds Tryd.pinned (OpenSpec.ofChange fnExactNeedsGapWrong)

/-- 'laws.FnExactLex': WHATEVER THE INPUT: true; the input reads as it did. -/
def fnExactLexSpec : ChangeSpec := { name := "fnExactLex", fn := fun _ => fun
  | [d] => { results := [.lit (.bool true)], args := [d] }
  | _ => none }
def fnExactLexRow : OpenClaim := { program := "ytifkldghbdpdmaadoor", sum := "498f4e30bf85af87f8152712c83122bd696ab1fec94c7c3f976674643372d7be", func := "loop.example/g00495/laws.FnExactLex", spec := "fnExactLex", inPlace := ["internal/bytealg.IndexByteString", "internal/bytealg.IndexString", "internal/bytealg.CountString"], named := ["internal/bytealg.MaxLen", "unicode/utf8.first", "unicode/utf8.acceptRanges", "strconv.ErrSyntax", "strconv.ErrRange", "internal/strconv.uint64pow10", "math/bits.deBruijn32tab", "math/bits.deBruijn64tab"], apart := false, laid := [("math/bits.deBruijn32tab", laid_math_bits_deBruijn32tab), ("math/bits.deBruijn64tab", laid_math_bits_deBruijn64tab), ("internal/strconv.uint64pow10", laid_internal_strconv_uint64pow10), ("unicode/utf8.acceptRanges", laid_unicode_utf8_acceptRanges), ("strconv.ErrRange", laid_strconv_ErrRange), ("strconv.ErrSyntax", laid_strconv_ErrSyntax), ("unicode/utf8.first", laid_unicode_utf8_first)] }
def FnExactLexSaid : Prop := fnExactLexRow.holds Tryd.pinned (OpenSpec.ofChange fnExactLexSpec)

/-- ITS FALSE NEIGHBOUR: 'it returns false'. Refute it at one input. -/
def fnExactLexWrong : ChangeSpec := { name := "fnExactLex", fn := fun _ => fun
  | [d] => { results := [.lit (.bool false)], args := [d] }
  | _ => none }
def FnExactLexWrongFalsely : Prop := fnExactLexRow.holds Tryd.pinned (OpenSpec.ofChange fnExactLexWrong)

/- THE SECOND FORM. 'bulk': how many values and letters a reading holds, each counted each time it is reached (what is shared counts as often as it is met; a slice's spare places count too). A statement '..UptoSaid' is the law's where the arguments, and the package variables that the reading takes, are together of bulk at most 1048576: NARROWER than '..Said'. Prove '..Said' where nothing that the law and all that it calls make is longer than what came in: it says more and counts as full. Else prove '..UptoSaid'. A law counts once. -/
mutual
def uptoBulk {H : Type} : DataW H → Nat
  | .lit (.string bytes) => bytes.length + 1
  | .lit _ => 1
  | .nil => 1
  | .ptr d => uptoBulk d + 1
  | .slice elems spare => uptoBulkAll elems + uptoBulkAll spare + 1
  | .agg parts => uptoBulkAll parts + 1
  | .iface _ d => uptoBulk d + 1
  | .map entries => uptoBulkEntries entries + 1
  | .held _ => 1
def uptoBulkAll {H : Type} : List (DataW H) → Nat
  | [] => 0
  | d :: r => uptoBulk d + uptoBulkAll r
def uptoBulkEntries {H : Type} : List (Lit × DataW H) → Nat
  | [] => 0
  | x :: r => uptoBulkEntry x + uptoBulkEntries r
def uptoBulkEntry {H : Type} : Lit × DataW H → Nat
  | (.string bytes, d) => bytes.length + uptoBulk d + 1
  | (_, d) => uptoBulk d + 1
 end
def uptoSmall : (H : Type) → List (DataW H) → Bool := fun _ ds => decide (uptoBulkAll ds ≤ 1048576)
def OpenSpec.upto (s : _root_.Go.ChangeSpec) : _root_.Go.OpenSpec := { _root_.Go.OpenSpec.ofChange s with cond := some uptoSmall }

/-- 'laws.FnExactDigits', WHERE WHAT IT READS IS OF BULK AT MOST 1048576: true; the input reads as it did. -/
def fnExactDigitsUptoRow : OpenClaim := { program := "ytifkldghbdpdmaadoor", sum := "498f4e30bf85af87f8152712c83122bd696ab1fec94c7c3f976674643372d7be", func := "loop.example/g00495/laws.FnExactDigits", spec := "fnExactDigits", named := ["internal/strconv.uint64pow10", "math/bits.deBruijn32tab", "math/bits.deBruijn64tab"], apart := false, laid := [("math/bits.deBruijn32tab", laid_math_bits_deBruijn32tab), ("math/bits.deBruijn64tab", laid_math_bits_deBruijn64tab), ("internal/strconv.uint64pow10", laid_internal_strconv_uint64pow10)], narrowed := true }
def FnExactDigitsUptoSaid : Prop := fnExactDigitsUptoRow.holds Tryd.pinned (OpenSpec.upto fnExactDigitsSpec)

/-- 'laws.FnExactKeyText', WHERE WHAT IT READS IS OF BULK AT MOST 1048576: true; the input reads as it did. -/
def fnExactKeyTextUptoRow : OpenClaim := { program := "ytifkldghbdpdmaadoor", sum := "498f4e30bf85af87f8152712c83122bd696ab1fec94c7c3f976674643372d7be", func := "loop.example/g00495/laws.FnExactKeyText", spec := "fnExactKeyText", inPlace := ["internal/bytealg.CountString", "internal/bytealg.IndexByteString", "internal/bytealg.IndexString"], named := ["unicode/utf8.first", "unicode/utf8.acceptRanges", "internal/bytealg.MaxLen"], apart := false, laid := [("unicode/utf8.acceptRanges", laid_unicode_utf8_acceptRanges), ("unicode/utf8.first", laid_unicode_utf8_first)], narrowed := true }
def FnExactKeyTextUptoSaid : Prop := fnExactKeyTextUptoRow.holds Tryd.pinned (OpenSpec.upto fnExactKeyTextSpec)

/-- 'laws.FnExactKeyOf', WHERE WHAT IT READS IS OF BULK AT MOST 1048576: true; the input reads as it did. -/
def fnExactKeyOfUptoRow : OpenClaim := { program := "ytifkldghbdpdmaadoor", sum := "498f4e30bf85af87f8152712c83122bd696ab1fec94c7c3f976674643372d7be", func := "loop.example/g00495/laws.FnExactKeyOf", spec := "fnExactKeyOf", inPlace := ["internal/bytealg.CountString", "internal/bytealg.IndexByteString", "internal/bytealg.IndexString"], named := ["unicode/utf8.first", "unicode/utf8.acceptRanges", "internal/bytealg.MaxLen"], apart := false, laid := [("unicode/utf8.acceptRanges", laid_unicode_utf8_acceptRanges), ("unicode/utf8.first", laid_unicode_utf8_first)], narrowed := true }
def FnExactKeyOfUptoSaid : Prop := fnExactKeyOfUptoRow.holds Tryd.pinned (OpenSpec.upto fnExactKeyOfSpec)

/-- 'laws.FnExactQuoteText', WHERE WHAT IT READS IS OF BULK AT MOST 1048576: true; the input reads as it did. -/
def fnExactQuoteTextUptoRow : OpenClaim := { program := "ytifkldghbdpdmaadoor", sum := "498f4e30bf85af87f8152712c83122bd696ab1fec94c7c3f976674643372d7be", func := "loop.example/g00495/laws.FnExactQuoteText", spec := "fnExactQuoteText", inPlace := ["internal/bytealg.CountString", "internal/bytealg.IndexByteString", "internal/bytealg.IndexString", "internal/abi.NoEscape", "internal/bytealg.MakeNoZero"], named := ["internal/bytealg.MaxLen", "unicode/utf8.first", "unicode/utf8.acceptRanges"], apart := false, laid := [("unicode/utf8.acceptRanges", laid_unicode_utf8_acceptRanges), ("unicode/utf8.first", laid_unicode_utf8_first)], narrowed := true }
def FnExactQuoteTextUptoSaid : Prop := fnExactQuoteTextUptoRow.holds Tryd.pinned (OpenSpec.upto fnExactQuoteTextSpec)

/-- 'laws.FnExactPlainName', WHERE WHAT IT READS IS OF BULK AT MOST 1048576: true; the input reads as it did. -/
def fnExactPlainNameUptoRow : OpenClaim := { program := "ytifkldghbdpdmaadoor", sum := "498f4e30bf85af87f8152712c83122bd696ab1fec94c7c3f976674643372d7be", func := "loop.example/g00495/laws.FnExactPlainName", spec := "fnExactPlainName", inPlace := ["internal/bytealg.CountString", "internal/bytealg.IndexByteString", "internal/bytealg.IndexString"], named := ["unicode/utf8.first", "unicode/utf8.acceptRanges", "internal/bytealg.MaxLen"], apart := false, laid := [("unicode/utf8.acceptRanges", laid_unicode_utf8_acceptRanges), ("unicode/utf8.first", laid_unicode_utf8_first)], narrowed := true }
def FnExactPlainNameUptoSaid : Prop := fnExactPlainNameUptoRow.holds Tryd.pinned (OpenSpec.upto fnExactPlainNameSpec)

/-- 'laws.FnExactNameText', WHERE WHAT IT READS IS OF BULK AT MOST 1048576: true; the input reads as it did. -/
def fnExactNameTextUptoRow : OpenClaim := { program := "ytifkldghbdpdmaadoor", sum := "498f4e30bf85af87f8152712c83122bd696ab1fec94c7c3f976674643372d7be", func := "loop.example/g00495/laws.FnExactNameText", spec := "fnExactNameText", inPlace := ["internal/bytealg.CountString", "internal/bytealg.IndexByteString", "internal/bytealg.IndexString", "internal/abi.NoEscape", "internal/bytealg.MakeNoZero"], named := ["unicode/utf8.first", "unicode/utf8.acceptRanges", "internal/bytealg.MaxLen"], apart := false, laid := [("unicode/utf8.acceptRanges", laid_unicode_utf8_acceptRanges), ("unicode/utf8.first", laid_unicode_utf8_first)], narrowed := true }
def FnExactNameTextUptoSaid : Prop := fnExactNameTextUptoRow.holds Tryd.pinned (OpenSpec.upto fnExactNameTextSpec)

/-- 'laws.FnExactNumber', WHERE WHAT IT READS IS OF BULK AT MOST 1048576: true; the input reads as it did. -/
def fnExactNumberUptoRow : OpenClaim := { program := "ytifkldghbdpdmaadoor", sum := "498f4e30bf85af87f8152712c83122bd696ab1fec94c7c3f976674643372d7be", func := "loop.example/g00495/laws.FnExactNumber", spec := "fnExactNumber", named := ["strconv.ErrSyntax", "strconv.ErrRange", "internal/strconv.uint64pow10", "math/bits.deBruijn32tab", "math/bits.deBruijn64tab"], apart := false, laid := [("math/bits.deBruijn32tab", laid_math_bits_deBruijn32tab), ("math/bits.deBruijn64tab", laid_math_bits_deBruijn64tab), ("internal/strconv.uint64pow10", laid_internal_strconv_uint64pow10), ("strconv.ErrRange", laid_strconv_ErrRange), ("strconv.ErrSyntax", laid_strconv_ErrSyntax)], narrowed := true }
def FnExactNumberUptoSaid : Prop := fnExactNumberUptoRow.holds Tryd.pinned (OpenSpec.upto fnExactNumberSpec)

/-- 'laws.FnExactValueText', WHERE WHAT IT READS IS OF BULK AT MOST 1048576: true; the input reads as it did. -/
def fnExactValueTextUptoRow : OpenClaim := { program := "ytifkldghbdpdmaadoor", sum := "498f4e30bf85af87f8152712c83122bd696ab1fec94c7c3f976674643372d7be", func := "loop.example/g00495/laws.FnExactValueText", spec := "fnExactValueText", inPlace := ["internal/bytealg.CountString", "internal/bytealg.IndexByteString", "internal/bytealg.IndexString", "internal/abi.NoEscape", "internal/bytealg.MakeNoZero"], named := ["internal/strconv.uint64pow10", "math/bits.deBruijn32tab", "math/bits.deBruijn64tab", "internal/bytealg.MaxLen", "unicode/utf8.first", "unicode/utf8.acceptRanges"], apart := false, laid := [("math/bits.deBruijn32tab", laid_math_bits_deBruijn32tab), ("math/bits.deBruijn64tab", laid_math_bits_deBruijn64tab), ("internal/strconv.uint64pow10", laid_internal_strconv_uint64pow10), ("unicode/utf8.acceptRanges", laid_unicode_utf8_acceptRanges), ("unicode/utf8.first", laid_unicode_utf8_first)], narrowed := true }
def FnExactValueTextUptoSaid : Prop := fnExactValueTextUptoRow.holds Tryd.pinned (OpenSpec.upto fnExactValueTextSpec)

/-- 'laws.FnExactTokenOk', WHERE WHAT IT READS IS OF BULK AT MOST 1048576: true; the input reads as it did. -/
def fnExactTokenOkUptoRow : OpenClaim := { program := "ytifkldghbdpdmaadoor", sum := "498f4e30bf85af87f8152712c83122bd696ab1fec94c7c3f976674643372d7be", func := "loop.example/g00495/laws.FnExactTokenOk", spec := "fnExactTokenOk", inPlace := ["internal/bytealg.CountString", "internal/bytealg.IndexByteString", "internal/bytealg.IndexString"], named := ["unicode/utf8.first", "unicode/utf8.acceptRanges", "internal/bytealg.MaxLen", "strconv.ErrSyntax", "strconv.ErrRange", "internal/strconv.uint64pow10", "math/bits.deBruijn32tab", "math/bits.deBruijn64tab"], apart := false, laid := [("math/bits.deBruijn32tab", laid_math_bits_deBruijn32tab), ("math/bits.deBruijn64tab", laid_math_bits_deBruijn64tab), ("internal/strconv.uint64pow10", laid_internal_strconv_uint64pow10), ("unicode/utf8.acceptRanges", laid_unicode_utf8_acceptRanges), ("strconv.ErrRange", laid_strconv_ErrRange), ("strconv.ErrSyntax", laid_strconv_ErrSyntax), ("unicode/utf8.first", laid_unicode_utf8_first)], narrowed := true }
def FnExactTokenOkUptoSaid : Prop := fnExactTokenOkUptoRow.holds Tryd.pinned (OpenSpec.upto fnExactTokenOkSpec)

/-- 'laws.FnExactTokenText', WHERE WHAT IT READS IS OF BULK AT MOST 1048576: true; the input reads as it did. -/
def fnExactTokenTextUptoRow : OpenClaim := { program := "ytifkldghbdpdmaadoor", sum := "498f4e30bf85af87f8152712c83122bd696ab1fec94c7c3f976674643372d7be", func := "loop.example/g00495/laws.FnExactTokenText", spec := "fnExactTokenText", inPlace := ["internal/bytealg.CountString", "internal/bytealg.IndexByteString", "internal/bytealg.IndexString", "internal/abi.NoEscape", "internal/bytealg.MakeNoZero"], named := ["unicode/utf8.first", "unicode/utf8.acceptRanges", "internal/bytealg.MaxLen", "strconv.ErrSyntax", "strconv.ErrRange", "internal/strconv.uint64pow10", "math/bits.deBruijn32tab", "math/bits.deBruijn64tab"], apart := false, laid := [("math/bits.deBruijn32tab", laid_math_bits_deBruijn32tab), ("math/bits.deBruijn64tab", laid_math_bits_deBruijn64tab), ("internal/strconv.uint64pow10", laid_internal_strconv_uint64pow10), ("unicode/utf8.acceptRanges", laid_unicode_utf8_acceptRanges), ("strconv.ErrRange", laid_strconv_ErrRange), ("strconv.ErrSyntax", laid_strconv_ErrSyntax), ("unicode/utf8.first", laid_unicode_utf8_first)], narrowed := true }
def FnExactTokenTextUptoSaid : Prop := fnExactTokenTextUptoRow.holds Tryd.pinned (OpenSpec.upto fnExactTokenTextSpec)

/-- 'laws.FnExactNeedsGap', WHERE WHAT IT READS IS OF BULK AT MOST 1048576: true; the input reads as it did. -/
def fnExactNeedsGapUptoRow : OpenClaim := { program := "ytifkldghbdpdmaadoor", sum := "498f4e30bf85af87f8152712c83122bd696ab1fec94c7c3f976674643372d7be", func := "loop.example/g00495/laws.FnExactNeedsGap", spec := "fnExactNeedsGap", inPlace := ["internal/bytealg.CountString", "internal/bytealg.IndexByteString", "internal/bytealg.IndexString"], named := ["unicode/utf8.first", "unicode/utf8.acceptRanges", "internal/bytealg.MaxLen", "strconv.ErrSyntax", "strconv.ErrRange", "internal/strconv.uint64pow10", "math/bits.deBruijn32tab", "math/bits.deBruijn64tab"], apart := false, laid := [("math/bits.deBruijn32tab", laid_math_bits_deBruijn32tab), ("math/bits.deBruijn64tab", laid_math_bits_deBruijn64tab), ("internal/strconv.uint64pow10", laid_internal_strconv_uint64pow10), ("unicode/utf8.acceptRanges", laid_unicode_utf8_acceptRanges), ("strconv.ErrRange", laid_strconv_ErrRange), ("strconv.ErrSyntax", laid_strconv_ErrSyntax), ("unicode/utf8.first", laid_unicode_utf8_first)], narrowed := true }
def FnExactNeedsGapUptoSaid : Prop := fnExactNeedsGapUptoRow.holds Tryd.pinned (OpenSpec.upto fnExactNeedsGapSpec)

/-- 'laws.FnExactLex', WHERE WHAT IT READS IS OF BULK AT MOST 1048576: true; the input reads as it did. -/
def fnExactLexUptoRow : OpenClaim := { program := "ytifkldghbdpdmaadoor", sum := "498f4e30bf85af87f8152712c83122bd696ab1fec94c7c3f976674643372d7be", func := "loop.example/g00495/laws.FnExactLex", spec := "fnExactLex", inPlace := ["internal/bytealg.IndexByteString", "internal/bytealg.IndexString", "internal/bytealg.CountString"], named := ["internal/bytealg.MaxLen", "unicode/utf8.first", "unicode/utf8.acceptRanges", "strconv.ErrSyntax", "strconv.ErrRange", "internal/strconv.uint64pow10", "math/bits.deBruijn32tab", "math/bits.deBruijn64tab"], apart := false, laid := [("math/bits.deBruijn32tab", laid_math_bits_deBruijn32tab), ("math/bits.deBruijn64tab", laid_math_bits_deBruijn64tab), ("internal/strconv.uint64pow10", laid_internal_strconv_uint64pow10), ("unicode/utf8.acceptRanges", laid_unicode_utf8_acceptRanges), ("strconv.ErrRange", laid_strconv_ErrRange), ("strconv.ErrSyntax", laid_strconv_ErrSyntax), ("unicode/utf8.first", laid_unicode_utf8_first)], narrowed := true }
def FnExactLexUptoSaid : Prop := fnExactLexUptoRow.holds Tryd.pinned (OpenSpec.upto fnExactLexSpec)

end Rows
end Go.Proofs.YtifkldghbdpdmaaDoor
