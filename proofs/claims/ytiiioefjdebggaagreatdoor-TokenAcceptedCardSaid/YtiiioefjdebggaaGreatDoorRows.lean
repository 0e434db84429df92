/-
  NARROWER THAN 'FOR EVERY INPUT', by the rows' own cells (each row's printed sentence says how): TokenSigns: laid · TokenVerifies: laid · TokenLefts: laid · TokenAccepted: laid · TokenSplits: laid · TokenForges: laid · TokenReturns: laid · TokenDiffers: laid · TokenRotates: laid.
  DERIVED. THE GIVEN ROWS OF THIS SEAT. 9 by the template 'for every input the law returns true; each argument reads behind the call as it read before'; 0 by the template 'total and deterministic' (their statements: YtiiioefjdebggaaGreatDoorTotals.lean).
  GIVEN WITH THE SEED: the statements are not yours to turn. If you find one false, say at which input.
  Laid BY PROGRAM, IN A SANDBOX (cutbox-rows.mjs): the forced cells as the released guide's own fill.sh prints them over the translation addc2a2c96d53eda… (all of the seat's roots in one cut). By AI agents, Wed Nov 11 2026. No macro, syntax, notation, axiom, sorry.
-/
import Derived.Test.YtiiioefjdebggaaGreatDoorChecked
import GoSem.PinnedTables
import GoSem.Claim
import GoSem.ClaimJoined
import GoSem.ClaimMapViews
import Derived.JoinedTies
import Derived.KernelRfl
namespace Go.Proofs.YtiiioefjdebggaaGreatDoor
/- THE CELL 'sum', in the pinned program and in every row, IS THE sha256 OF THE DUMP (.gsa) THAT YtiiioefjdebggaaGreatDoorProg.lean LOADS. Nothing in Lean hashes anything: it is a label: what it is worth is what the hold of that sum in a sandbox is worth. -/
noncomputable def Tryz.pinned : Pinned := { name := "ytiiioefjdebggaagreatdoor", sum := "addc2a2c96d53edabe8b249fad83747e9401139e9be40854981bbc13074177c5", checked := Tryz.checked }
namespace Rows
def none {H : Type} : Left H := { results := [], args := [] }

/- WHAT THE LISTED PACKAGE-LEVEL VARIABLES READ AS WHEN THE CALL BEGINS. Each datum BY PROGRAM (the guide's laid-datum.mjs) off the statement by which the dump's own 'gosem.cut.vars' lays the variable. In a bare row this is a premise. The card (YtiiioefjdebggaaGreatDoorCards.lean) ties it to the program's text. -/
def laid_math_bits_deBruijn32tab {H : Type} : DataW H := .agg [.lit (.int .u8 0), .lit (.int .u8 1), .lit (.int .u8 28), .lit (.int .u8 2), .lit (.int .u8 29), .lit (.int .u8 14), .lit (.int .u8 24), .lit (.int .u8 3), .lit (.int .u8 30), .lit (.int .u8 22), .lit (.int .u8 20), .lit (.int .u8 15), .lit (.int .u8 25), .lit (.int .u8 17), .lit (.int .u8 4), .lit (.int .u8 8), .lit (.int .u8 31), .lit (.int .u8 27), .lit (.int .u8 13), .lit (.int .u8 23), .lit (.int .u8 21), .lit (.int .u8 19), .lit (.int .u8 16), .lit (.int .u8 7), .lit (.int .u8 26), .lit (.int .u8 12), .lit (.int .u8 18), .lit (.int .u8 6), .lit (.int .u8 11), .lit (.int .u8 5), .lit (.int .u8 10), .lit (.int .u8 9)]
def laid_math_bits_deBruijn64tab {H : Type} : DataW H := .agg [.lit (.int .u8 0), .lit (.int .u8 1), .lit (.int .u8 56), .lit (.int .u8 2), .lit (.int .u8 57), .lit (.int .u8 49), .lit (.int .u8 28), .lit (.int .u8 3), .lit (.int .u8 61), .lit (.int .u8 58), .lit (.int .u8 42), .lit (.int .u8 50), .lit (.int .u8 38), .lit (.int .u8 29), .lit (.int .u8 17), .lit (.int .u8 4), .lit (.int .u8 62), .lit (.int .u8 47), .lit (.int .u8 59), .lit (.int .u8 36), .lit (.int .u8 45), .lit (.int .u8 43), .lit (.int .u8 51), .lit (.int .u8 22), .lit (.int .u8 53), .lit (.int .u8 39), .lit (.int .u8 33), .lit (.int .u8 30), .lit (.int .u8 24), .lit (.int .u8 18), .lit (.int .u8 12), .lit (.int .u8 5), .lit (.int .u8 63), .lit (.int .u8 55), .lit (.int .u8 48), .lit (.int .u8 27), .lit (.int .u8 60), .lit (.int .u8 41), .lit (.int .u8 37), .lit (.int .u8 16), .lit (.int .u8 46), .lit (.int .u8 35), .lit (.int .u8 44), .lit (.int .u8 21), .lit (.int .u8 52), .lit (.int .u8 32), .lit (.int .u8 23), .lit (.int .u8 11), .lit (.int .u8 54), .lit (.int .u8 26), .lit (.int .u8 40), .lit (.int .u8 15), .lit (.int .u8 34), .lit (.int .u8 20), .lit (.int .u8 31), .lit (.int .u8 10), .lit (.int .u8 25), .lit (.int .u8 14), .lit (.int .u8 19), .lit (.int .u8 9), .lit (.int .u8 13), .lit (.int .u8 8), .lit (.int .u8 7), .lit (.int .u8 6)]
def laid_internal_strconv_uint64pow10 {H : Type} : DataW H := .agg [.lit (.int .u64 1), .lit (.int .u64 10), .lit (.int .u64 100), .lit (.int .u64 1000), .lit (.int .u64 10000), .lit (.int .u64 100000), .lit (.int .u64 1000000), .lit (.int .u64 10000000), .lit (.int .u64 100000000), .lit (.int .u64 1000000000), .lit (.int .u64 10000000000), .lit (.int .u64 100000000000), .lit (.int .u64 1000000000000), .lit (.int .u64 10000000000000), .lit (.int .u64 100000000000000), .lit (.int .u64 1000000000000000), .lit (.int .u64 10000000000000000), .lit (.int .u64 100000000000000000), .lit (.int .u64 1000000000000000000), .lit (.int .u64 10000000000000000000)]
def laid_unicode_utf8_acceptRanges {H : Type} : DataW H := .agg [.agg [.lit (.int .u8 128), .lit (.int .u8 191)], .agg [.lit (.int .u8 160), .lit (.int .u8 191)], .agg [.lit (.int .u8 128), .lit (.int .u8 159)], .agg [.lit (.int .u8 144), .lit (.int .u8 191)], .agg [.lit (.int .u8 128), .lit (.int .u8 143)], .agg [.lit (.int .u8 0), .lit (.int .u8 0)], .agg [.lit (.int .u8 0), .lit (.int .u8 0)], .agg [.lit (.int .u8 0), .lit (.int .u8 0)], .agg [.lit (.int .u8 0), .lit (.int .u8 0)], .agg [.lit (.int .u8 0), .lit (.int .u8 0)], .agg [.lit (.int .u8 0), .lit (.int .u8 0)], .agg [.lit (.int .u8 0), .lit (.int .u8 0)], .agg [.lit (.int .u8 0), .lit (.int .u8 0)], .agg [.lit (.int .u8 0), .lit (.int .u8 0)], .agg [.lit (.int .u8 0), .lit (.int .u8 0)], .agg [.lit (.int .u8 0), .lit (.int .u8 0)]]
def laid_strconv_ErrRange {H : Type} : DataW H := .iface "*errors.errorString" (.ptr (.agg [.lit (.string [118, 97, 108, 117, 101, 32, 111, 117, 116, 32, 111, 102, 32, 114, 97, 110, 103, 101])]))
def laid_strconv_ErrSyntax {H : Type} : DataW H := .iface "*errors.errorString" (.ptr (.agg [.lit (.string [105, 110, 118, 97, 108, 105, 100, 32, 115, 121, 110, 116, 97, 120])]))
def laid_identity_digest_digits {H : Type} : DataW H := .agg [.lit (.int .u8 48), .lit (.int .u8 49), .lit (.int .u8 50), .lit (.int .u8 51), .lit (.int .u8 52), .lit (.int .u8 53), .lit (.int .u8 54), .lit (.int .u8 55), .lit (.int .u8 56), .lit (.int .u8 57), .lit (.int .u8 97), .lit (.int .u8 98), .lit (.int .u8 99), .lit (.int .u8 100), .lit (.int .u8 101), .lit (.int .u8 102)]
def laid_identity_claims_keys {H : Type} : DataW H := .agg [.lit (.string [107, 105, 110, 100]), .lit (.string [105, 115, 115, 117, 101, 114]), .lit (.string [115, 117, 98, 106, 101, 99, 116]), .lit (.string [99, 108, 105, 101, 110, 116]), .lit (.string [116, 101, 110, 97, 110, 116]), .lit (.string [105, 100]), .lit (.string [115, 101, 115, 115, 105, 111, 110]), .lit (.string [110, 111, 110, 99, 101]), .lit (.string [97, 117, 100, 105, 101, 110, 99, 101]), .lit (.string [115, 99, 111, 112, 101, 115]), .lit (.string [97, 99, 116, 111, 114, 115]), .lit (.string [105, 115, 115, 117, 101, 100]), .lit (.string [110, 111, 116, 98, 101, 102, 111, 114, 101]), .lit (.string [101, 120, 112, 105, 114, 101, 115]), .lit (.string [97, 117, 116, 104, 116, 105, 109, 101]), .lit (.string [108, 101, 118, 101, 108])]
/-- One of Go's own tables, pinned by name: the form's constant. -/
def laid_unicode_utf8_first : DataW Unit := Go.Pinned.utf8First

/-- 'identitylaw26.TokenSigns': WHATEVER THE INPUT: true; the input reads as it did. -/
def tokenSignsSpec : ChangeSpec := { name := "tokenSigns", fn := fun _ => fun
  | [d1, d2, d3] => { results := [.lit (.bool true)], args := [d1, d2, d3] }
  | _ => none }
def tokenSignsRow : OpenClaim := { program := "ytiiioefjdebggaagreatdoor", sum := "addc2a2c96d53edabe8b249fad83747e9401139e9be40854981bbc13074177c5", func := "identity/identitylaw26.TokenSigns", spec := "tokenSigns", inPlace := ["internal/bytealg.IndexByteString", "internal/bytealg.IndexString", "internal/abi.NoEscape", "internal/bytealg.MakeNoZero", "internal/bytealg.CountString"], unfollowed := true, recurses := true, named := ["unicode/utf8.first", "unicode/utf8.acceptRanges", "identity/claims.keys", "internal/strconv.uint64pow10", "math/bits.deBruijn32tab", "math/bits.deBruijn64tab", "identity/digest.digits", "internal/bytealg.MaxLen", "strconv.ErrSyntax", "strconv.ErrRange"], apart := false, laid := [("math/bits.deBruijn32tab", laid_math_bits_deBruijn32tab), ("math/bits.deBruijn64tab", laid_math_bits_deBruijn64tab), ("internal/strconv.uint64pow10", laid_internal_strconv_uint64pow10), ("unicode/utf8.acceptRanges", laid_unicode_utf8_acceptRanges), ("strconv.ErrRange", laid_strconv_ErrRange), ("strconv.ErrSyntax", laid_strconv_ErrSyntax), ("identity/digest.digits", laid_identity_digest_digits), ("identity/claims.keys", laid_identity_claims_keys), ("unicode/utf8.first", laid_unicode_utf8_first)] }
def TokenSignsSaid : Prop := tokenSignsRow.holds Tryz.pinned (OpenSpec.ofChange tokenSignsSpec)

/-- ITS FALSE NEIGHBOUR: 'it returns false'. Refute it at one input. -/
def tokenSignsWrong : ChangeSpec := { name := "tokenSigns", fn := fun _ => fun
  | [d1, d2, d3] => { results := [.lit (.bool false)], args := [d1, d2, d3] }
  | _ => none }
def TokenSignsWrongFalsely : Prop := tokenSignsRow.holds Tryz.pinned (OpenSpec.ofChange tokenSignsWrong)

/-- 'identitylaw26.TokenVerifies': WHATEVER THE INPUT: true; the input reads as it did. -/
def tokenVerifiesSpec : ChangeSpec := { name := "tokenVerifies", fn := fun _ => fun
  | [d1, d2, d3] => { results := [.lit (.bool true)], args := [d1, d2, d3] }
  | _ => none }
def tokenVerifiesRow : OpenClaim := { program := "ytiiioefjdebggaagreatdoor", sum := "addc2a2c96d53edabe8b249fad83747e9401139e9be40854981bbc13074177c5", func := "identity/identitylaw26.TokenVerifies", spec := "tokenVerifies", inPlace := ["internal/bytealg.IndexByteString", "internal/bytealg.IndexString", "internal/abi.NoEscape", "internal/bytealg.MakeNoZero", "internal/bytealg.CountString"], unfollowed := true, recurses := true, named := ["unicode/utf8.first", "unicode/utf8.acceptRanges", "identity/claims.keys", "internal/strconv.uint64pow10", "math/bits.deBruijn32tab", "math/bits.deBruijn64tab", "identity/digest.digits", "internal/bytealg.MaxLen", "strconv.ErrSyntax", "strconv.ErrRange"], apart := false, laid := [("math/bits.deBruijn32tab", laid_math_bits_deBruijn32tab), ("math/bits.deBruijn64tab", laid_math_bits_deBruijn64tab), ("internal/strconv.uint64pow10", laid_internal_strconv_uint64pow10), ("unicode/utf8.acceptRanges", laid_unicode_utf8_acceptRanges), ("strconv.ErrRange", laid_strconv_ErrRange), ("strconv.ErrSyntax", laid_strconv_ErrSyntax), ("identity/digest.digits", laid_identity_digest_digits), ("identity/claims.keys", laid_identity_claims_keys), ("unicode/utf8.first", laid_unicode_utf8_first)] }
def TokenVerifiesSaid : Prop := tokenVerifiesRow.holds Tryz.pinned (OpenSpec.ofChange tokenVerifiesSpec)

/-- ITS FALSE NEIGHBOUR: 'it returns false'. Refute it at one input. -/
def tokenVerifiesWrong : ChangeSpec := { name := "tokenVerifies", fn := fun _ => fun
  | [d1, d2, d3] => { results := [.lit (.bool false)], args := [d1, d2, d3] }
  | _ => none }
def TokenVerifiesWrongFalsely : Prop := tokenVerifiesRow.holds Tryz.pinned (OpenSpec.ofChange tokenVerifiesWrong)

/-- 'identitylaw26.TokenLefts': WHATEVER THE INPUT: true; the input reads as it did. -/
def tokenLeftsSpec : ChangeSpec := { name := "tokenLefts", fn := fun _ => fun
  | [d1, d2, d3] => { results := [.lit (.bool true)], args := [d1, d2, d3] }
  | _ => none }
def tokenLeftsRow : OpenClaim := { program := "ytiiioefjdebggaagreatdoor", sum := "addc2a2c96d53edabe8b249fad83747e9401139e9be40854981bbc13074177c5", func := "identity/identitylaw26.TokenLefts", spec := "tokenLefts", inPlace := ["internal/bytealg.IndexByteString", "internal/bytealg.IndexString", "internal/abi.NoEscape", "internal/bytealg.MakeNoZero", "internal/bytealg.CountString"], unfollowed := true, recurses := true, named := ["unicode/utf8.first", "unicode/utf8.acceptRanges", "identity/claims.keys", "internal/strconv.uint64pow10", "math/bits.deBruijn32tab", "math/bits.deBruijn64tab", "identity/digest.digits", "internal/bytealg.MaxLen", "strconv.ErrSyntax", "strconv.ErrRange"], apart := false, laid := [("math/bits.deBruijn32tab", laid_math_bits_deBruijn32tab), ("math/bits.deBruijn64tab", laid_math_bits_deBruijn64tab), ("internal/strconv.uint64pow10", laid_internal_strconv_uint64pow10), ("unicode/utf8.acceptRanges", laid_unicode_utf8_acceptRanges), ("strconv.ErrRange", laid_strconv_ErrRange), ("strconv.ErrSyntax", laid_strconv_ErrSyntax), ("identity/digest.digits", laid_identity_digest_digits), ("identity/claims.keys", laid_identity_claims_keys), ("unicode/utf8.first", laid_unicode_utf8_first)] }
def TokenLeftsSaid : Prop := tokenLeftsRow.holds Tryz.pinned (OpenSpec.ofChange tokenLeftsSpec)

/-- ITS FALSE NEIGHBOUR: 'it returns false'. Refute it at one input. -/
def tokenLeftsWrong : ChangeSpec := { name := "tokenLefts", fn := fun _ => fun
  | [d1, d2, d3] => { results := [.lit (.bool false)], args := [d1, d2, d3] }
  | _ => none }
def TokenLeftsWrongFalsely : Prop := tokenLeftsRow.holds Tryz.pinned (OpenSpec.ofChange tokenLeftsWrong)

/-- 'identitylaw26.TokenAccepted': WHATEVER THE INPUT: true; the input reads as it did. -/
def tokenAcceptedSpec : ChangeSpec := { name := "tokenAccepted", fn := fun _ => fun
  | [d1, d2, d3] => { results := [.lit (.bool true)], args := [d1, d2, d3] }
  | _ => none }
def tokenAcceptedRow : OpenClaim := { program := "ytiiioefjdebggaagreatdoor", sum := "addc2a2c96d53edabe8b249fad83747e9401139e9be40854981bbc13074177c5", func := "identity/identitylaw26.TokenAccepted", spec := "tokenAccepted", inPlace := ["internal/bytealg.IndexByteString", "internal/abi.NoEscape", "internal/bytealg.CountString", "internal/bytealg.IndexString", "internal/bytealg.MakeNoZero"], unfollowed := true, recurses := true, named := ["identity/digest.digits", "internal/strconv.uint64pow10", "math/bits.deBruijn32tab", "math/bits.deBruijn64tab", "unicode/utf8.first", "unicode/utf8.acceptRanges", "internal/bytealg.MaxLen", "identity/claims.keys", "strconv.ErrSyntax", "strconv.ErrRange"], apart := false, laid := [("math/bits.deBruijn32tab", laid_math_bits_deBruijn32tab), ("math/bits.deBruijn64tab", laid_math_bits_deBruijn64tab), ("internal/strconv.uint64pow10", laid_internal_strconv_uint64pow10), ("unicode/utf8.acceptRanges", laid_unicode_utf8_acceptRanges), ("strconv.ErrRange", laid_strconv_ErrRange), ("strconv.ErrSyntax", laid_strconv_ErrSyntax), ("identity/digest.digits", laid_identity_digest_digits), ("identity/claims.keys", laid_identity_claims_keys), ("unicode/utf8.first", laid_unicode_utf8_first)] }
def TokenAcceptedSaid : Prop := tokenAcceptedRow.holds Tryz.pinned (OpenSpec.ofChange tokenAcceptedSpec)

/-- ITS FALSE NEIGHBOUR: 'it returns false'. Refute it at one input. -/
def tokenAcceptedWrong : ChangeSpec := { name := "tokenAccepted", fn := fun _ => fun
  | [d1, d2, d3] => { results := [.lit (.bool false)], args := [d1, d2, d3] }
  | _ => none }
def TokenAcceptedWrongFalsely : Prop := tokenAcceptedRow.holds Tryz.pinned (OpenSpec.ofChange tokenAcceptedWrong)

/-- 'identitylaw26.TokenSplits': WHATEVER THE INPUT: true; the input reads as it did. -/
def tokenSplitsSpec : ChangeSpec := { name := "tokenSplits", fn := fun _ => fun
  | [d] => { results := [.lit (.bool true)], args := [d] }
  | _ => none }
def tokenSplitsRow : OpenClaim := { program := "ytiiioefjdebggaagreatdoor", sum := "addc2a2c96d53edabe8b249fad83747e9401139e9be40854981bbc13074177c5", func := "identity/identitylaw26.TokenSplits", spec := "tokenSplits", inPlace := ["internal/bytealg.IndexByteString", "internal/bytealg.IndexString", "internal/abi.NoEscape", "internal/bytealg.MakeNoZero", "internal/bytealg.CountString"], unfollowed := true, recurses := true, named := ["unicode/utf8.first", "unicode/utf8.acceptRanges", "identity/claims.keys", "internal/strconv.uint64pow10", "math/bits.deBruijn32tab", "math/bits.deBruijn64tab", "identity/digest.digits", "internal/bytealg.MaxLen", "strconv.ErrSyntax", "strconv.ErrRange"], apart := false, laid := [("math/bits.deBruijn32tab", laid_math_bits_deBruijn32tab), ("math/bits.deBruijn64tab", laid_math_bits_deBruijn64tab), ("internal/strconv.uint64pow10", laid_internal_strconv_uint64pow10), ("unicode/utf8.acceptRanges", laid_unicode_utf8_acceptRanges), ("strconv.ErrRange", laid_strconv_ErrRange), ("strconv.ErrSyntax", laid_strconv_ErrSyntax), ("identity/digest.digits", laid_identity_digest_digits), ("identity/claims.keys", laid_identity_claims_keys), ("unicode/utf8.first", laid_unicode_utf8_first)] }
def TokenSplitsSaid : Prop := tokenSplitsRow.holds Tryz.pinned (OpenSpec.ofChange tokenSplitsSpec)

/-- ITS FALSE NEIGHBOUR: 'it returns false'. Refute it at one input. -/
def tokenSplitsWrong : ChangeSpec := { name := "tokenSplits", fn := fun _ => fun
  | [d] => { results := [.lit (.bool false)], args := [d] }
  | _ => none }
def TokenSplitsWrongFalsely : Prop := tokenSplitsRow.holds Tryz.pinned (OpenSpec.ofChange tokenSplitsWrong)

/-- 'identitylaw26.TokenForges': WHATEVER THE INPUT: true; the input reads as it did. -/
def tokenForgesSpec : ChangeSpec := { name := "tokenForges", fn := fun _ => fun
  | [d1, d2, d3] => { results := [.lit (.bool true)], args := [d1, d2, d3] }
  | _ => none }
def tokenForgesRow : OpenClaim := { program := "ytiiioefjdebggaagreatdoor", sum := "addc2a2c96d53edabe8b249fad83747e9401139e9be40854981bbc13074177c5", func := "identity/identitylaw26.TokenForges", spec := "tokenForges", inPlace := ["internal/bytealg.IndexByteString", "internal/bytealg.IndexString", "internal/abi.NoEscape", "internal/bytealg.MakeNoZero", "internal/bytealg.CountString"], unfollowed := true, recurses := true, named := ["unicode/utf8.first", "unicode/utf8.acceptRanges", "identity/claims.keys", "internal/strconv.uint64pow10", "math/bits.deBruijn32tab", "math/bits.deBruijn64tab", "identity/digest.digits", "internal/bytealg.MaxLen", "strconv.ErrSyntax", "strconv.ErrRange"], apart := false, laid := [("math/bits.deBruijn32tab", laid_math_bits_deBruijn32tab), ("math/bits.deBruijn64tab", laid_math_bits_deBruijn64tab), ("internal/strconv.uint64pow10", laid_internal_strconv_uint64pow10), ("unicode/utf8.acceptRanges", laid_unicode_utf8_acceptRanges), ("strconv.ErrRange", laid_strconv_ErrRange), ("strconv.ErrSyntax", laid_strconv_ErrSyntax), ("identity/digest.digits", laid_identity_digest_digits), ("identity/claims.keys", laid_identity_claims_keys), ("unicode/utf8.first", laid_unicode_utf8_first)] }
def TokenForgesSaid : Prop := tokenForgesRow.holds Tryz.pinned (OpenSpec.ofChange tokenForgesSpec)

/-- ITS FALSE NEIGHBOUR: 'it returns false'. Refute it at one input. -/
def tokenForgesWrong : ChangeSpec := { name := "tokenForges", fn := fun _ => fun
  | [d1, d2, d3] => { results := [.lit (.bool false)], args := [d1, d2, d3] }
  | _ => none }
def TokenForgesWrongFalsely : Prop := tokenForgesRow.holds Tryz.pinned (OpenSpec.ofChange tokenForgesWrong)

/-- 'identitylaw26.TokenReturns': WHATEVER THE INPUT: true; the input reads as it did. -/
def tokenReturnsSpec : ChangeSpec := { name := "tokenReturns", fn := fun _ => fun
  | [d1, d2, d3] => { results := [.lit (.bool true)], args := [d1, d2, d3] }
  | _ => none }
def tokenReturnsRow : OpenClaim := { program := "ytiiioefjdebggaagreatdoor", sum := "addc2a2c96d53edabe8b249fad83747e9401139e9be40854981bbc13074177c5", func := "identity/identitylaw26.TokenReturns", spec := "tokenReturns", inPlace := ["internal/bytealg.IndexByteString", "internal/bytealg.IndexString", "internal/abi.NoEscape", "internal/bytealg.MakeNoZero", "internal/bytealg.CountString"], unfollowed := true, recurses := true, named := ["unicode/utf8.first", "unicode/utf8.acceptRanges", "identity/claims.keys", "internal/strconv.uint64pow10", "math/bits.deBruijn32tab", "math/bits.deBruijn64tab", "identity/digest.digits", "internal/bytealg.MaxLen", "strconv.ErrSyntax", "strconv.ErrRange"], apart := false, laid := [("math/bits.deBruijn32tab", laid_math_bits_deBruijn32tab), ("math/bits.deBruijn64tab", laid_math_bits_deBruijn64tab), ("internal/strconv.uint64pow10", laid_internal_strconv_uint64pow10), ("unicode/utf8.acceptRanges", laid_unicode_utf8_acceptRanges), ("strconv.ErrRange", laid_strconv_ErrRange), ("strconv.ErrSyntax", laid_strconv_ErrSyntax), ("identity/digest.digits", laid_identity_digest_digits), ("identity/claims.keys", laid_identity_claims_keys), ("unicode/utf8.first", laid_unicode_utf8_first)] }
def TokenReturnsSaid : Prop := tokenReturnsRow.holds Tryz.pinned (OpenSpec.ofChange tokenReturnsSpec)

/-- ITS FALSE NEIGHBOUR: 'it returns false'. Refute it at one input. -/
def tokenReturnsWrong : ChangeSpec := { name := "tokenReturns", fn := fun _ => fun
  | [d1, d2, d3] => { results := [.lit (.bool false)], args := [d1, d2, d3] }
  | _ => none }
def TokenReturnsWrongFalsely : Prop := tokenReturnsRow.holds Tryz.pinned (OpenSpec.ofChange tokenReturnsWrong)

/-- 'identitylaw26.TokenDiffers': WHATEVER THE INPUT: true; the input reads as it did. -/
def tokenDiffersSpec : ChangeSpec := { name := "tokenDiffers", fn := fun _ => fun
  | [d1, d2, d3] => { results := [.lit (.bool true)], args := [d1, d2, d3] }
  | _ => none }
def tokenDiffersRow : OpenClaim := { program := "ytiiioefjdebggaagreatdoor", sum := "addc2a2c96d53edabe8b249fad83747e9401139e9be40854981bbc13074177c5", func := "identity/identitylaw26.TokenDiffers", spec := "tokenDiffers", inPlace := ["internal/bytealg.IndexByteString", "internal/bytealg.IndexString", "internal/abi.NoEscape", "internal/bytealg.MakeNoZero", "internal/bytealg.CountString"], unfollowed := true, recurses := true, named := ["unicode/utf8.first", "unicode/utf8.acceptRanges", "identity/claims.keys", "internal/strconv.uint64pow10", "math/bits.deBruijn32tab", "math/bits.deBruijn64tab", "identity/digest.digits", "internal/bytealg.MaxLen", "strconv.ErrSyntax", "strconv.ErrRange"], apart := false, laid := [("math/bits.deBruijn32tab", laid_math_bits_deBruijn32tab), ("math/bits.deBruijn64tab", laid_math_bits_deBruijn64tab), ("internal/strconv.uint64pow10", laid_internal_strconv_uint64pow10), ("unicode/utf8.acceptRanges", laid_unicode_utf8_acceptRanges), ("strconv.ErrRange", laid_strconv_ErrRange), ("strconv.ErrSyntax", laid_strconv_ErrSyntax), ("identity/digest.digits", laid_identity_digest_digits), ("identity/claims.keys", laid_identity_claims_keys), ("unicode/utf8.first", laid_unicode_utf8_first)] }
def TokenDiffersSaid : Prop := tokenDiffersRow.holds Tryz.pinned (OpenSpec.ofChange tokenDiffersSpec)

/-- ITS FALSE NEIGHBOUR: 'it returns false'. Refute it at one input. -/
def tokenDiffersWrong : ChangeSpec := { name := "tokenDiffers", fn := fun _ => fun
  | [d1, d2, d3] => { results := [.lit (.bool false)], args := [d1, d2, d3] }
  | _ => none }
def TokenDiffersWrongFalsely : Prop := tokenDiffersRow.holds Tryz.pinned (OpenSpec.ofChange tokenDiffersWrong)

/-- 'identitylaw26.TokenRotates': WHATEVER THE INPUT: true; the input reads as it did. -/
def tokenRotatesSpec : ChangeSpec := { name := "tokenRotates", fn := fun _ => fun
  | [d1, d2, d3] => { results := [.lit (.bool true)], args := [d1, d2, d3] }
  | _ => none }
def tokenRotatesRow : OpenClaim := { program := "ytiiioefjdebggaagreatdoor", sum := "addc2a2c96d53edabe8b249fad83747e9401139e9be40854981bbc13074177c5", func := "identity/identitylaw26.TokenRotates", spec := "tokenRotates", inPlace := ["internal/bytealg.IndexByteString", "internal/bytealg.IndexString", "internal/abi.NoEscape", "internal/bytealg.MakeNoZero", "internal/bytealg.CountString"], unfollowed := true, recurses := true, named := ["unicode/utf8.first", "unicode/utf8.acceptRanges", "identity/digest.digits", "identity/claims.keys", "internal/strconv.uint64pow10", "math/bits.deBruijn32tab", "math/bits.deBruijn64tab", "internal/bytealg.MaxLen", "strconv.ErrSyntax", "strconv.ErrRange"], apart := false, laid := [("math/bits.deBruijn32tab", laid_math_bits_deBruijn32tab), ("math/bits.deBruijn64tab", laid_math_bits_deBruijn64tab), ("internal/strconv.uint64pow10", laid_internal_strconv_uint64pow10), ("unicode/utf8.acceptRanges", laid_unicode_utf8_acceptRanges), ("strconv.ErrRange", laid_strconv_ErrRange), ("strconv.ErrSyntax", laid_strconv_ErrSyntax), ("identity/digest.digits", laid_identity_digest_digits), ("identity/claims.keys", laid_identity_claims_keys), ("unicode/utf8.first", laid_unicode_utf8_first)] }
def TokenRotatesSaid : Prop := tokenRotatesRow.holds Tryz.pinned (OpenSpec.ofChange tokenRotatesSpec)

/-- ITS FALSE NEIGHBOUR: 'it returns false'. Refute it at one input. -/
def tokenRotatesWrong : ChangeSpec := { name := "tokenRotates", fn := fun _ => fun
  | [d1, d2, d3] => { results := [.lit (.bool false)], args := [d1, d2, d3] }
  | _ => none }
def TokenRotatesWrongFalsely : Prop := tokenRotatesRow.holds Tryz.pinned (OpenSpec.ofChange tokenRotatesWrong)

/- THE SECOND FORM. 'bulk': how many values and letters a reading holds, each counted each time it is reached (what is shared counts as often as it is met; a slice's spare places count too). A statement '..UptoSaid' is the law's where the arguments, and the package variables that the reading takes, are together of bulk at most 1048576: NARROWER than '..Said'. Prove '..Said' where nothing that the law and all that it calls make is longer than what came in: it says more and counts as full. Else prove '..UptoSaid'. A law counts once. -/
mutual
def uptoBulk {H : Type} : DataW H → Nat
  | .lit (.string bytes) => bytes.length + 1
  | .lit _ => 1
  | .nil => 1
  | .ptr d => uptoBulk d + 1
  | .slice elems spare => uptoBulkAll elems + uptoBulkAll spare + 1
  | .agg parts => uptoBulkAll parts + 1
  | .iface _ d => uptoBulk d + 1
  | .map entries => uptoBulkEntries entries + 1
  | .held _ => 1
def uptoBulkAll {H : Type} : List (DataW H) → Nat
  | [] => 0
  | d :: r => uptoBulk d + uptoBulkAll r
def uptoBulkEntries {H : Type} : List (Lit × DataW H) → Nat
  | [] => 0
  | x :: r => uptoBulkEntry x + uptoBulkEntries r
def uptoBulkEntry {H : Type} : Lit × DataW H → Nat
  | (.string bytes, d) => bytes.length + uptoBulk d + 1
  | (_, d) => uptoBulk d + 1
 end
def uptoSmall : (H : Type) → List (DataW H) → Bool := fun _ ds => decide (uptoBulkAll ds ≤ 1048576)
def OpenSpec.upto (s : _root_.Go.ChangeSpec) : _root_.Go.OpenSpec := { _root_.Go.OpenSpec.ofChange s with cond := some uptoSmall }

/-- 'identitylaw26.TokenSigns', WHERE WHAT IT READS IS OF BULK AT MOST 1048576: true; the input reads as it did. -/
def tokenSignsUptoRow : OpenClaim := { program := "ytiiioefjdebggaagreatdoor", sum := "addc2a2c96d53edabe8b249fad83747e9401139e9be40854981bbc13074177c5", func := "identity/identitylaw26.TokenSigns", spec := "tokenSigns", inPlace := ["internal/bytealg.IndexByteString", "internal/bytealg.IndexString", "internal/abi.NoEscape", "internal/bytealg.MakeNoZero", "internal/bytealg.CountString"], unfollowed := true, recurses := true, named := ["unicode/utf8.first", "unicode/utf8.acceptRanges", "identity/claims.keys", "internal/strconv.uint64pow10", "math/bits.deBruijn32tab", "math/bits.deBruijn64tab", "identity/digest.digits", "internal/bytealg.MaxLen", "strconv.ErrSyntax", "strconv.ErrRange"], apart := false, laid := [("math/bits.deBruijn32tab", laid_math_bits_deBruijn32tab), ("math/bits.deBruijn64tab", laid_math_bits_deBruijn64tab), ("internal/strconv.uint64pow10", laid_internal_strconv_uint64pow10), ("unicode/utf8.acceptRanges", laid_unicode_utf8_acceptRanges), ("strconv.ErrRange", laid_strconv_ErrRange), ("strconv.ErrSyntax", laid_strconv_ErrSyntax), ("identity/digest.digits", laid_identity_digest_digits), ("identity/claims.keys", laid_identity_claims_keys), ("unicode/utf8.first", laid_unicode_utf8_first)], narrowed := true }
def TokenSignsUptoSaid : Prop := tokenSignsUptoRow.holds Tryz.pinned (OpenSpec.upto tokenSignsSpec)

/-- 'identitylaw26.TokenVerifies', WHERE WHAT IT READS IS OF BULK AT MOST 1048576: true; the input reads as it did. -/
def tokenVerifiesUptoRow : OpenClaim := { program := "ytiiioefjdebggaagreatdoor", sum := "addc2a2c96d53edabe8b249fad83747e9401139e9be40854981bbc13074177c5", func := "identity/identitylaw26.TokenVerifies", spec := "tokenVerifies", inPlace := ["internal/bytealg.IndexByteString", "internal/bytealg.IndexString", "internal/abi.NoEscape", "internal/bytealg.MakeNoZero", "internal/bytealg.CountString"], unfollowed := true, recurses := true, named := ["unicode/utf8.first", "unicode/utf8.acceptRanges", "identity/claims.keys", "internal/strconv.uint64pow10", "math/bits.deBruijn32tab", "math/bits.deBruijn64tab", "identity/digest.digits", "internal/bytealg.MaxLen", "strconv.ErrSyntax", "strconv.ErrRange"], apart := false, laid := [("math/bits.deBruijn32tab", laid_math_bits_deBruijn32tab), ("math/bits.deBruijn64tab", laid_math_bits_deBruijn64tab), ("internal/strconv.uint64pow10", laid_internal_strconv_uint64pow10), ("unicode/utf8.acceptRanges", laid_unicode_utf8_acceptRanges), ("strconv.ErrRange", laid_strconv_ErrRange), ("strconv.ErrSyntax", laid_strconv_ErrSyntax), ("identity/digest.digits", laid_identity_digest_digits), ("identity/claims.keys", laid_identity_claims_keys), ("unicode/utf8.first", laid_unicode_utf8_first)], narrowed := true }
def TokenVerifiesUptoSaid : Prop := tokenVerifiesUptoRow.holds Tryz.pinned (OpenSpec.upto tokenVerifiesSpec)

/-- 'identitylaw26.TokenLefts', WHERE WHAT IT READS IS OF BULK AT MOST 1048576: true; the input reads as it did. -/
def tokenLeftsUptoRow : OpenClaim := { program := "ytiiioefjdebggaagreatdoor", sum := "addc2a2c96d53edabe8b249fad83747e9401139e9be40854981bbc13074177c5", func := "identity/identitylaw26.TokenLefts", spec := "tokenLefts", inPlace := ["internal/bytealg.IndexByteString", "internal/bytealg.IndexString", "internal/abi.NoEscape", "internal/bytealg.MakeNoZero", "internal/bytealg.CountString"], unfollowed := true, recurses := true, named := ["unicode/utf8.first", "unicode/utf8.acceptRanges", "identity/claims.keys", "internal/strconv.uint64pow10", "math/bits.deBruijn32tab", "math/bits.deBruijn64tab", "identity/digest.digits", "internal/bytealg.MaxLen", "strconv.ErrSyntax", "strconv.ErrRange"], apart := false, laid := [("math/bits.deBruijn32tab", laid_math_bits_deBruijn32tab), ("math/bits.deBruijn64tab", laid_math_bits_deBruijn64tab), ("internal/strconv.uint64pow10", laid_internal_strconv_uint64pow10), ("unicode/utf8.acceptRanges", laid_unicode_utf8_acceptRanges), ("strconv.ErrRange", laid_strconv_ErrRange), ("strconv.ErrSyntax", laid_strconv_ErrSyntax), ("identity/digest.digits", laid_identity_digest_digits), ("identity/claims.keys", laid_identity_claims_keys), ("unicode/utf8.first", laid_unicode_utf8_first)], narrowed := true }
def TokenLeftsUptoSaid : Prop := tokenLeftsUptoRow.holds Tryz.pinned (OpenSpec.upto tokenLeftsSpec)

/-- 'identitylaw26.TokenAccepted', WHERE WHAT IT READS IS OF BULK AT MOST 1048576: true; the input reads as it did. -/
def tokenAcceptedUptoRow : OpenClaim := { program := "ytiiioefjdebggaagreatdoor", sum := "addc2a2c96d53edabe8b249fad83747e9401139e9be40854981bbc13074177c5", func := "identity/identitylaw26.TokenAccepted", spec := "tokenAccepted", inPlace := ["internal/bytealg.IndexByteString", "internal/abi.NoEscape", "internal/bytealg.CountString", "internal/bytealg.IndexString", "internal/bytealg.MakeNoZero"], unfollowed := true, recurses := true, named := ["identity/digest.digits", "internal/strconv.uint64pow10", "math/bits.deBruijn32tab", "math/bits.deBruijn64tab", "unicode/utf8.first", "unicode/utf8.acceptRanges", "internal/bytealg.MaxLen", "identity/claims.keys", "strconv.ErrSyntax", "strconv.ErrRange"], apart := false, laid := [("math/bits.deBruijn32tab", laid_math_bits_deBruijn32tab), ("math/bits.deBruijn64tab", laid_math_bits_deBruijn64tab), ("internal/strconv.uint64pow10", laid_internal_strconv_uint64pow10), ("unicode/utf8.acceptRanges", laid_unicode_utf8_acceptRanges), ("strconv.ErrRange", laid_strconv_ErrRange), ("strconv.ErrSyntax", laid_strconv_ErrSyntax), ("identity/digest.digits", laid_identity_digest_digits), ("identity/claims.keys", laid_identity_claims_keys), ("unicode/utf8.first", laid_unicode_utf8_first)], narrowed := true }
def TokenAcceptedUptoSaid : Prop := tokenAcceptedUptoRow.holds Tryz.pinned (OpenSpec.upto tokenAcceptedSpec)

/-- 'identitylaw26.TokenSplits', WHERE WHAT IT READS IS OF BULK AT MOST 1048576: true; the input reads as it did. -/
def tokenSplitsUptoRow : OpenClaim := { program := "ytiiioefjdebggaagreatdoor", sum := "addc2a2c96d53edabe8b249fad83747e9401139e9be40854981bbc13074177c5", func := "identity/identitylaw26.TokenSplits", spec := "tokenSplits", inPlace := ["internal/bytealg.IndexByteString", "internal/bytealg.IndexString", "internal/abi.NoEscape", "internal/bytealg.MakeNoZero", "internal/bytealg.CountString"], unfollowed := true, recurses := true, named := ["unicode/utf8.first", "unicode/utf8.acceptRanges", "identity/claims.keys", "internal/strconv.uint64pow10", "math/bits.deBruijn32tab", "math/bits.deBruijn64tab", "identity/digest.digits", "internal/bytealg.MaxLen", "strconv.ErrSyntax", "strconv.ErrRange"], apart := false, laid := [("math/bits.deBruijn32tab", laid_math_bits_deBruijn32tab), ("math/bits.deBruijn64tab", laid_math_bits_deBruijn64tab), ("internal/strconv.uint64pow10", laid_internal_strconv_uint64pow10), ("unicode/utf8.acceptRanges", laid_unicode_utf8_acceptRanges), ("strconv.ErrRange", laid_strconv_ErrRange), ("strconv.ErrSyntax", laid_strconv_ErrSyntax), ("identity/digest.digits", laid_identity_digest_digits), ("identity/claims.keys", laid_identity_claims_keys), ("unicode/utf8.first", laid_unicode_utf8_first)], narrowed := true }
def TokenSplitsUptoSaid : Prop := tokenSplitsUptoRow.holds Tryz.pinned (OpenSpec.upto tokenSplitsSpec)

/-- 'identitylaw26.TokenForges', WHERE WHAT IT READS IS OF BULK AT MOST 1048576: true; the input reads as it did. -/
def tokenForgesUptoRow : OpenClaim := { program := "ytiiioefjdebggaagreatdoor", sum := "addc2a2c96d53edabe8b249fad83747e9401139e9be40854981bbc13074177c5", func := "identity/identitylaw26.TokenForges", spec := "tokenForges", inPlace := ["internal/bytealg.IndexByteString", "internal/bytealg.IndexString", "internal/abi.NoEscape", "internal/bytealg.MakeNoZero", "internal/bytealg.CountString"], unfollowed := true, recurses := true, named := ["unicode/utf8.first", "unicode/utf8.acceptRanges", "identity/claims.keys", "internal/strconv.uint64pow10", "math/bits.deBruijn32tab", "math/bits.deBruijn64tab", "identity/digest.digits", "internal/bytealg.MaxLen", "strconv.ErrSyntax", "strconv.ErrRange"], apart := false, laid := [("math/bits.deBruijn32tab", laid_math_bits_deBruijn32tab), ("math/bits.deBruijn64tab", laid_math_bits_deBruijn64tab), ("internal/strconv.uint64pow10", laid_internal_strconv_uint64pow10), ("unicode/utf8.acceptRanges", laid_unicode_utf8_acceptRanges), ("strconv.ErrRange", laid_strconv_ErrRange), ("strconv.ErrSyntax", laid_strconv_ErrSyntax), ("identity/digest.digits", laid_identity_digest_digits), ("identity/claims.keys", laid_identity_claims_keys), ("unicode/utf8.first", laid_unicode_utf8_first)], narrowed := true }
def TokenForgesUptoSaid : Prop := tokenForgesUptoRow.holds Tryz.pinned (OpenSpec.upto tokenForgesSpec)

/-- 'identitylaw26.TokenReturns', WHERE WHAT IT READS IS OF BULK AT MOST 1048576: true; the input reads as it did. -/
def tokenReturnsUptoRow : OpenClaim := { program := "ytiiioefjdebggaagreatdoor", sum := "addc2a2c96d53edabe8b249fad83747e9401139e9be40854981bbc13074177c5", func := "identity/identitylaw26.TokenReturns", spec := "tokenReturns", inPlace := ["internal/bytealg.IndexByteString", "internal/bytealg.IndexString", "internal/abi.NoEscape", "internal/bytealg.MakeNoZero", "internal/bytealg.CountString"], unfollowed := true, recurses := true, named := ["unicode/utf8.first", "unicode/utf8.acceptRanges", "identity/claims.keys", "internal/strconv.uint64pow10", "math/bits.deBruijn32tab", "math/bits.deBruijn64tab", "identity/digest.digits", "internal/bytealg.MaxLen", "strconv.ErrSyntax", "strconv.ErrRange"], apart := false, laid := [("math/bits.deBruijn32tab", laid_math_bits_deBruijn32tab), ("math/bits.deBruijn64tab", laid_math_bits_deBruijn64tab), ("internal/strconv.uint64pow10", laid_internal_strconv_uint64pow10), ("unicode/utf8.acceptRanges", laid_unicode_utf8_acceptRanges), ("strconv.ErrRange", laid_strconv_ErrRange), ("strconv.ErrSyntax", laid_strconv_ErrSyntax), ("identity/digest.digits", laid_identity_digest_digits), ("identity/claims.keys", laid_identity_claims_keys), ("unicode/utf8.first", laid_unicode_utf8_first)], narrowed := true }
def TokenReturnsUptoSaid : Prop := tokenReturnsUptoRow.holds Tryz.pinned (OpenSpec.upto tokenReturnsSpec)

/-- 'identitylaw26.TokenDiffers', WHERE WHAT IT READS IS OF BULK AT MOST 1048576: true; the input reads as it did. -/
def tokenDiffersUptoRow : OpenClaim := { program := "ytiiioefjdebggaagreatdoor", sum := "addc2a2c96d53edabe8b249fad83747e9401139e9be40854981bbc13074177c5", func := "identity/identitylaw26.TokenDiffers", spec := "tokenDiffers", inPlace := ["internal/bytealg.IndexByteString", "internal/bytealg.IndexString", "internal/abi.NoEscape", "internal/bytealg.MakeNoZero", "internal/bytealg.CountString"], unfollowed := true, recurses := true, named := ["unicode/utf8.first", "unicode/utf8.acceptRanges", "identity/claims.keys", "internal/strconv.uint64pow10", "math/bits.deBruijn32tab", "math/bits.deBruijn64tab", "identity/digest.digits", "internal/bytealg.MaxLen", "strconv.ErrSyntax", "strconv.ErrRange"], apart := false, laid := [("math/bits.deBruijn32tab", laid_math_bits_deBruijn32tab), ("math/bits.deBruijn64tab", laid_math_bits_deBruijn64tab), ("internal/strconv.uint64pow10", laid_internal_strconv_uint64pow10), ("unicode/utf8.acceptRanges", laid_unicode_utf8_acceptRanges), ("strconv.ErrRange", laid_strconv_ErrRange), ("strconv.ErrSyntax", laid_strconv_ErrSyntax), ("identity/digest.digits", laid_identity_digest_digits), ("identity/claims.keys", laid_identity_claims_keys), ("unicode/utf8.first", laid_unicode_utf8_first)], narrowed := true }
def TokenDiffersUptoSaid : Prop := tokenDiffersUptoRow.holds Tryz.pinned (OpenSpec.upto tokenDiffersSpec)

/-- 'identitylaw26.TokenRotates', WHERE WHAT IT READS IS OF BULK AT MOST 1048576: true; the input reads as it did. -/
def tokenRotatesUptoRow : OpenClaim := { program := "ytiiioefjdebggaagreatdoor", sum := "addc2a2c96d53edabe8b249fad83747e9401139e9be40854981bbc13074177c5", func := "identity/identitylaw26.TokenRotates", spec := "tokenRotates", inPlace := ["internal/bytealg.IndexByteString", "internal/bytealg.IndexString", "internal/abi.NoEscape", "internal/bytealg.MakeNoZero", "internal/bytealg.CountString"], unfollowed := true, recurses := true, named := ["unicode/utf8.first", "unicode/utf8.acceptRanges", "identity/digest.digits", "identity/claims.keys", "internal/strconv.uint64pow10", "math/bits.deBruijn32tab", "math/bits.deBruijn64tab", "internal/bytealg.MaxLen", "strconv.ErrSyntax", "strconv.ErrRange"], apart := false, laid := [("math/bits.deBruijn32tab", laid_math_bits_deBruijn32tab), ("math/bits.deBruijn64tab", laid_math_bits_deBruijn64tab), ("internal/strconv.uint64pow10", laid_internal_strconv_uint64pow10), ("unicode/utf8.acceptRanges", laid_unicode_utf8_acceptRanges), ("strconv.ErrRange", laid_strconv_ErrRange), ("strconv.ErrSyntax", laid_strconv_ErrSyntax), ("identity/digest.digits", laid_identity_digest_digits), ("identity/claims.keys", laid_identity_claims_keys), ("unicode/utf8.first", laid_unicode_utf8_first)], narrowed := true }
def TokenRotatesUptoSaid : Prop := tokenRotatesUptoRow.holds Tryz.pinned (OpenSpec.upto tokenRotatesSpec)

end Rows
end Go.Proofs.YtiiioefjdebggaaGreatDoor
