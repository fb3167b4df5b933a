/-
  NARROWER THAN 'FOR EVERY INPUT', by the rows' own cells (each row's printed sentence says how): FnExactClapperText: laid · FnExactSwingText: laid · FnExactTowerText: laid · FnExactPlaceText: laid · FnExactBeamText: laid · FnExactReadClapper: laid · FnExactReadPlace: laid · FnExactReadSwing: laid · FnExactReadTower: laid · FnExactReadBeam: laid · FnClappers: laid.
  DERIVED. THE GIVEN ROWS OF THIS SEAT. 11 by the template 'for every input the law returns true; each argument reads behind the call as it read before'; 0 by the template 'total and deterministic' (their statements: YtphlejphkipbpaaDoorTotals.lean).
  GIVEN WITH THE SEED: the statements are not yours to turn. If you find one false, say at which input.
  Laid BY PROGRAM, IN A SANDBOX (cutbox-rows.mjs): the forced cells as the released guide's own fill.sh prints them over the translation 3d0c63bd27e34d01… (all of the seat's roots in one cut). By AI agents, Wed Nov 11 2026. No macro, syntax, notation, axiom, sorry.
-/
import Derived.Test.YtphlejphkipbpaaDoorChecked
import GoSem.PinnedTables
import GoSem.Claim
import GoSem.ClaimJoined
import GoSem.ClaimMapViews
import Derived.JoinedTies
import Derived.KernelRfl
namespace Go.Proofs.YtphlejphkipbpaaDoor
/- THE CELL 'sum', in the pinned program and in every row, IS THE sha256 OF THE DUMP (.gsa) THAT YtphlejphkipbpaaDoorProg.lean LOADS. Nothing in Lean hashes anything: it is a label: what it is worth is what the hold of that sum in a sandbox is worth. -/
noncomputable def Tryd.pinned : Pinned := { name := "ytphlejphkipbpaadoor", sum := "3d0c63bd27e34d0128e3d647c0f529dc768f92d95c1a0b2b08dc1a23f0557d9b", checked := Tryd.checked }
namespace Rows
def none {H : Type} : Left H := { results := [], args := [] }

/- WHAT THE LISTED PACKAGE-LEVEL VARIABLES READ AS WHEN THE CALL BEGINS. Each datum BY PROGRAM (the guide's laid-datum.mjs) off the statement by which the dump's own 'gosem.cut.vars' lays the variable. In a bare row this is a premise. The card (YtphlejphkipbpaaDoorCards.lean) ties it to the program's text. -/
def laid_math_bits_deBruijn32tab {H : Type} : DataW H := .agg [.lit (.int .u8 0), .lit (.int .u8 1), .lit (.int .u8 28), .lit (.int .u8 2), .lit (.int .u8 29), .lit (.int .u8 14), .lit (.int .u8 24), .lit (.int .u8 3), .lit (.int .u8 30), .lit (.int .u8 22), .lit (.int .u8 20), .lit (.int .u8 15), .lit (.int .u8 25), .lit (.int .u8 17), .lit (.int .u8 4), .lit (.int .u8 8), .lit (.int .u8 31), .lit (.int .u8 27), .lit (.int .u8 13), .lit (.int .u8 23), .lit (.int .u8 21), .lit (.int .u8 19), .lit (.int .u8 16), .lit (.int .u8 7), .lit (.int .u8 26), .lit (.int .u8 12), .lit (.int .u8 18), .lit (.int .u8 6), .lit (.int .u8 11), .lit (.int .u8 5), .lit (.int .u8 10), .lit (.int .u8 9)]
def laid_math_bits_deBruijn64tab {H : Type} : DataW H := .agg [.lit (.int .u8 0), .lit (.int .u8 1), .lit (.int .u8 56), .lit (.int .u8 2), .lit (.int .u8 57), .lit (.int .u8 49), .lit (.int .u8 28), .lit (.int .u8 3), .lit (.int .u8 61), .lit (.int .u8 58), .lit (.int .u8 42), .lit (.int .u8 50), .lit (.int .u8 38), .lit (.int .u8 29), .lit (.int .u8 17), .lit (.int .u8 4), .lit (.int .u8 62), .lit (.int .u8 47), .lit (.int .u8 59), .lit (.int .u8 36), .lit (.int .u8 45), .lit (.int .u8 43), .lit (.int .u8 51), .lit (.int .u8 22), .lit (.int .u8 53), .lit (.int .u8 39), .lit (.int .u8 33), .lit (.int .u8 30), .lit (.int .u8 24), .lit (.int .u8 18), .lit (.int .u8 12), .lit (.int .u8 5), .lit (.int .u8 63), .lit (.int .u8 55), .lit (.int .u8 48), .lit (.int .u8 27), .lit (.int .u8 60), .lit (.int .u8 41), .lit (.int .u8 37), .lit (.int .u8 16), .lit (.int .u8 46), .lit (.int .u8 35), .lit (.int .u8 44), .lit (.int .u8 21), .lit (.int .u8 52), .lit (.int .u8 32), .lit (.int .u8 23), .lit (.int .u8 11), .lit (.int .u8 54), .lit (.int .u8 26), .lit (.int .u8 40), .lit (.int .u8 15), .lit (.int .u8 34), .lit (.int .u8 20), .lit (.int .u8 31), .lit (.int .u8 10), .lit (.int .u8 25), .lit (.int .u8 14), .lit (.int .u8 19), .lit (.int .u8 9), .lit (.int .u8 13), .lit (.int .u8 8), .lit (.int .u8 7), .lit (.int .u8 6)]
def laid_internal_strconv_uint64pow10 {H : Type} : DataW H := .agg [.lit (.int .u64 1), .lit (.int .u64 10), .lit (.int .u64 100), .lit (.int .u64 1000), .lit (.int .u64 10000), .lit (.int .u64 100000), .lit (.int .u64 1000000), .lit (.int .u64 10000000), .lit (.int .u64 100000000), .lit (.int .u64 1000000000), .lit (.int .u64 10000000000), .lit (.int .u64 100000000000), .lit (.int .u64 1000000000000), .lit (.int .u64 10000000000000), .lit (.int .u64 100000000000000), .lit (.int .u64 1000000000000000), .lit (.int .u64 10000000000000000), .lit (.int .u64 100000000000000000), .lit (.int .u64 1000000000000000000), .lit (.int .u64 10000000000000000000)]
def laid_unicode_utf8_acceptRanges {H : Type} : DataW H := .agg [.agg [.lit (.int .u8 128), .lit (.int .u8 191)], .agg [.lit (.int .u8 160), .lit (.int .u8 191)], .agg [.lit (.int .u8 128), .lit (.int .u8 159)], .agg [.lit (.int .u8 144), .lit (.int .u8 191)], .agg [.lit (.int .u8 128), .lit (.int .u8 143)], .agg [.lit (.int .u8 0), .lit (.int .u8 0)], .agg [.lit (.int .u8 0), .lit (.int .u8 0)], .agg [.lit (.int .u8 0), .lit (.int .u8 0)], .agg [.lit (.int .u8 0), .lit (.int .u8 0)], .agg [.lit (.int .u8 0), .lit (.int .u8 0)], .agg [.lit (.int .u8 0), .lit (.int .u8 0)], .agg [.lit (.int .u8 0), .lit (.int .u8 0)], .agg [.lit (.int .u8 0), .lit (.int .u8 0)], .agg [.lit (.int .u8 0), .lit (.int .u8 0)], .agg [.lit (.int .u8 0), .lit (.int .u8 0)], .agg [.lit (.int .u8 0), .lit (.int .u8 0)]]
def laid_strconv_ErrRange {H : Type} : DataW H := .iface "*errors.errorString" (.ptr (.agg [.lit (.string [118, 97, 108, 117, 101, 32, 111, 117, 116, 32, 111, 102, 32, 114, 97, 110, 103, 101])]))
def laid_strconv_ErrSyntax {H : Type} : DataW H := .iface "*errors.errorString" (.ptr (.agg [.lit (.string [105, 110, 118, 97, 108, 105, 100, 32, 115, 121, 110, 116, 97, 120])]))
/-- One of Go's own tables, pinned by name: the form's constant. -/
def laid_unicode_utf8_first : DataW Unit := Go.Pinned.utf8First

/-- 'laws.FnExactClapperText': WHATEVER THE INPUT: true; the input reads as it did. -/
def fnExactClapperTextSpec : ChangeSpec := { name := "fnExactClapperText", fn := fun _ => fun
  | [d] => { results := [.lit (.bool true)], args := [d] }
  | _ => none }
def fnExactClapperTextRow : OpenClaim := { program := "ytphlejphkipbpaadoor", sum := "3d0c63bd27e34d0128e3d647c0f529dc768f92d95c1a0b2b08dc1a23f0557d9b", func := "loop.example/g00952/laws.FnExactClapperText", spec := "fnExactClapperText", inPlace := ["internal/abi.NoEscape", "internal/bytealg.MakeNoZero"], unfollowed := true, recurses := true, named := ["internal/strconv.uint64pow10", "math/bits.deBruijn32tab", "math/bits.deBruijn64tab"], apart := false, laid := [("math/bits.deBruijn32tab", laid_math_bits_deBruijn32tab), ("math/bits.deBruijn64tab", laid_math_bits_deBruijn64tab), ("internal/strconv.uint64pow10", laid_internal_strconv_uint64pow10)] }
def FnExactClapperTextSaid : Prop := fnExactClapperTextRow.holds Tryd.pinned (OpenSpec.ofChange fnExactClapperTextSpec)

/-- ITS FALSE NEIGHBOUR: 'it returns false'. Refute it at one input. -/
def fnExactClapperTextWrong : ChangeSpec := { name := "fnExactClapperText", fn := fun _ => fun
  | [d] => { results := [.lit (.bool false)], args := [d] }
  | _ => none }
def FnExactClapperTextWrongFalsely : Prop := fnExactClapperTextRow.holds Tryd.pinned (OpenSpec.ofChange fnExactClapperTextWrong)

/-- 'laws.FnExactSwingText': WHATEVER THE INPUT: true; the input reads as it did. -/
def fnExactSwingTextSpec : ChangeSpec := { name := "fnExactSwingText", fn := fun _ => fun
  | [d] => { results := [.lit (.bool true)], args := [d] }
  | _ => none }
def fnExactSwingTextRow : OpenClaim := { program := "ytphlejphkipbpaadoor", sum := "3d0c63bd27e34d0128e3d647c0f529dc768f92d95c1a0b2b08dc1a23f0557d9b", func := "loop.example/g00952/laws.FnExactSwingText", spec := "fnExactSwingText", inPlace := ["internal/abi.NoEscape", "internal/bytealg.MakeNoZero"], unfollowed := true, recurses := true, named := ["internal/strconv.uint64pow10", "math/bits.deBruijn32tab", "math/bits.deBruijn64tab"], apart := false, laid := [("math/bits.deBruijn32tab", laid_math_bits_deBruijn32tab), ("math/bits.deBruijn64tab", laid_math_bits_deBruijn64tab), ("internal/strconv.uint64pow10", laid_internal_strconv_uint64pow10)] }
def FnExactSwingTextSaid : Prop := fnExactSwingTextRow.holds Tryd.pinned (OpenSpec.ofChange fnExactSwingTextSpec)

/-- ITS FALSE NEIGHBOUR: 'it returns false'. Refute it at one input. -/
def fnExactSwingTextWrong : ChangeSpec := { name := "fnExactSwingText", fn := fun _ => fun
  | [d] => { results := [.lit (.bool false)], args := [d] }
  | _ => none }
def FnExactSwingTextWrongFalsely : Prop := fnExactSwingTextRow.holds Tryd.pinned (OpenSpec.ofChange fnExactSwingTextWrong)

/-- 'laws.FnExactTowerText': WHATEVER THE INPUT: true; the input reads as it did. -/
def fnExactTowerTextSpec : ChangeSpec := { name := "fnExactTowerText", fn := fun _ => fun
  | [d] => { results := [.lit (.bool true)], args := [d] }
  | _ => none }
def fnExactTowerTextRow : OpenClaim := { program := "ytphlejphkipbpaadoor", sum := "3d0c63bd27e34d0128e3d647c0f529dc768f92d95c1a0b2b08dc1a23f0557d9b", func := "loop.example/g00952/laws.FnExactTowerText", spec := "fnExactTowerText", inPlace := ["internal/abi.NoEscape", "internal/bytealg.MakeNoZero"], unfollowed := true, recurses := true, named := ["internal/strconv.uint64pow10", "math/bits.deBruijn32tab", "math/bits.deBruijn64tab"], apart := false, laid := [("math/bits.deBruijn32tab", laid_math_bits_deBruijn32tab), ("math/bits.deBruijn64tab", laid_math_bits_deBruijn64tab), ("internal/strconv.uint64pow10", laid_internal_strconv_uint64pow10)] }
def FnExactTowerTextSaid : Prop := fnExactTowerTextRow.holds Tryd.pinned (OpenSpec.ofChange fnExactTowerTextSpec)

/-- ITS FALSE NEIGHBOUR: 'it returns false'. Refute it at one input. -/
def fnExactTowerTextWrong : ChangeSpec := { name := "fnExactTowerText", fn := fun _ => fun
  | [d] => { results := [.lit (.bool false)], args := [d] }
  | _ => none }
def FnExactTowerTextWrongFalsely : Prop := fnExactTowerTextRow.holds Tryd.pinned (OpenSpec.ofChange fnExactTowerTextWrong)

/-- 'laws.FnExactPlaceText': WHATEVER THE INPUT: true; the input reads as it did. -/
def fnExactPlaceTextSpec : ChangeSpec := { name := "fnExactPlaceText", fn := fun _ => fun
  | [d] => { results := [.lit (.bool true)], args := [d] }
  | _ => none }
def fnExactPlaceTextRow : OpenClaim := { program := "ytphlejphkipbpaadoor", sum := "3d0c63bd27e34d0128e3d647c0f529dc768f92d95c1a0b2b08dc1a23f0557d9b", func := "loop.example/g00952/laws.FnExactPlaceText", spec := "fnExactPlaceText", inPlace := ["internal/abi.NoEscape", "internal/bytealg.MakeNoZero"], unfollowed := true, recurses := true, named := ["internal/strconv.uint64pow10", "math/bits.deBruijn32tab", "math/bits.deBruijn64tab"], apart := false, laid := [("math/bits.deBruijn32tab", laid_math_bits_deBruijn32tab), ("math/bits.deBruijn64tab", laid_math_bits_deBruijn64tab), ("internal/strconv.uint64pow10", laid_internal_strconv_uint64pow10)] }
def FnExactPlaceTextSaid : Prop := fnExactPlaceTextRow.holds Tryd.pinned (OpenSpec.ofChange fnExactPlaceTextSpec)

/-- ITS FALSE NEIGHBOUR: 'it returns false'. Refute it at one input. -/
def fnExactPlaceTextWrong : ChangeSpec := { name := "fnExactPlaceText", fn := fun _ => fun
  | [d] => { results := [.lit (.bool false)], args := [d] }
  | _ => none }
def FnExactPlaceTextWrongFalsely : Prop := fnExactPlaceTextRow.holds Tryd.pinned (OpenSpec.ofChange fnExactPlaceTextWrong)

/-- 'laws.FnExactBeamText': WHATEVER THE INPUT: true; the input reads as it did. -/
def fnExactBeamTextSpec : ChangeSpec := { name := "fnExactBeamText", fn := fun _ => fun
  | [d] => { results := [.lit (.bool true)], args := [d] }
  | _ => none }
def fnExactBeamTextRow : OpenClaim := { program := "ytphlejphkipbpaadoor", sum := "3d0c63bd27e34d0128e3d647c0f529dc768f92d95c1a0b2b08dc1a23f0557d9b", func := "loop.example/g00952/laws.FnExactBeamText", spec := "fnExactBeamText", inPlace := ["internal/abi.NoEscape", "internal/bytealg.MakeNoZero"], unfollowed := true, recurses := true, named := ["internal/strconv.uint64pow10", "math/bits.deBruijn32tab", "math/bits.deBruijn64tab"], apart := false, laid := [("math/bits.deBruijn32tab", laid_math_bits_deBruijn32tab), ("math/bits.deBruijn64tab", laid_math_bits_deBruijn64tab), ("internal/strconv.uint64pow10", laid_internal_strconv_uint64pow10)] }
def FnExactBeamTextSaid : Prop := fnExactBeamTextRow.holds Tryd.pinned (OpenSpec.ofChange fnExactBeamTextSpec)

/-- ITS FALSE NEIGHBOUR: 'it returns false'. Refute it at one input. -/
def fnExactBeamTextWrong : ChangeSpec := { name := "fnExactBeamText", fn := fun _ => fun
  | [d] => { results := [.lit (.bool false)], args := [d] }
  | _ => none }
def FnExactBeamTextWrongFalsely : Prop := fnExactBeamTextRow.holds Tryd.pinned (OpenSpec.ofChange fnExactBeamTextWrong)

/-- 'laws.FnExactReadClapper': WHATEVER THE INPUT: true; the input reads as it did. -/
def fnExactReadClapperSpec : ChangeSpec := { name := "fnExactReadClapper", fn := fun _ => fun
  | [d] => { results := [.lit (.bool true)], args := [d] }
  | _ => none }
def fnExactReadClapperRow : OpenClaim := { program := "ytphlejphkipbpaadoor", sum := "3d0c63bd27e34d0128e3d647c0f529dc768f92d95c1a0b2b08dc1a23f0557d9b", func := "loop.example/g00952/laws.FnExactReadClapper", spec := "fnExactReadClapper", inPlace := ["internal/bytealg.CountString", "internal/bytealg.IndexByteString", "internal/bytealg.IndexString", "internal/abi.NoEscape", "internal/bytealg.MakeNoZero"], unfollowed := true, recurses := true, named := ["unicode/utf8.first", "unicode/utf8.acceptRanges", "internal/bytealg.MaxLen", "strconv.ErrSyntax", "strconv.ErrRange", "internal/strconv.uint64pow10", "math/bits.deBruijn32tab", "math/bits.deBruijn64tab"], apart := false, laid := [("math/bits.deBruijn32tab", laid_math_bits_deBruijn32tab), ("math/bits.deBruijn64tab", laid_math_bits_deBruijn64tab), ("internal/strconv.uint64pow10", laid_internal_strconv_uint64pow10), ("unicode/utf8.acceptRanges", laid_unicode_utf8_acceptRanges), ("strconv.ErrRange", laid_strconv_ErrRange), ("strconv.ErrSyntax", laid_strconv_ErrSyntax), ("unicode/utf8.first", laid_unicode_utf8_first)] }
def FnExactReadClapperSaid : Prop := fnExactReadClapperRow.holds Tryd.pinned (OpenSpec.ofChange fnExactReadClapperSpec)

/-- ITS FALSE NEIGHBOUR: 'it returns false'. Refute it at one input. -/
def fnExactReadClapperWrong : ChangeSpec := { name := "fnExactReadClapper", fn := fun _ => fun
  | [d] => { results := [.lit (.bool false)], args := [d] }
  | _ => none }
def FnExactReadClapperWrongFalsely : Prop := fnExactReadClapperRow.holds Tryd.pinned (OpenSpec.ofChange fnExactReadClapperWrong)

/-- 'laws.FnExactReadPlace': WHATEVER THE INPUT: true; the input reads as it did. -/
def fnExactReadPlaceSpec : ChangeSpec := { name := "fnExactReadPlace", fn := fun _ => fun
  | [d] => { results := [.lit (.bool true)], args := [d] }
  | _ => none }
def fnExactReadPlaceRow : OpenClaim := { program := "ytphlejphkipbpaadoor", sum := "3d0c63bd27e34d0128e3d647c0f529dc768f92d95c1a0b2b08dc1a23f0557d9b", func := "loop.example/g00952/laws.FnExactReadPlace", spec := "fnExactReadPlace", inPlace := ["internal/bytealg.IndexByteString", "internal/bytealg.IndexString", "internal/bytealg.CountString", "internal/abi.NoEscape", "internal/bytealg.MakeNoZero"], unfollowed := true, recurses := true, named := ["internal/bytealg.MaxLen", "unicode/utf8.first", "unicode/utf8.acceptRanges", "strconv.ErrSyntax", "strconv.ErrRange", "internal/strconv.uint64pow10", "math/bits.deBruijn32tab", "math/bits.deBruijn64tab"], apart := false, laid := [("math/bits.deBruijn32tab", laid_math_bits_deBruijn32tab), ("math/bits.deBruijn64tab", laid_math_bits_deBruijn64tab), ("internal/strconv.uint64pow10", laid_internal_strconv_uint64pow10), ("unicode/utf8.acceptRanges", laid_unicode_utf8_acceptRanges), ("strconv.ErrRange", laid_strconv_ErrRange), ("strconv.ErrSyntax", laid_strconv_ErrSyntax), ("unicode/utf8.first", laid_unicode_utf8_first)] }
def FnExactReadPlaceSaid : Prop := fnExactReadPlaceRow.holds Tryd.pinned (OpenSpec.ofChange fnExactReadPlaceSpec)

/-- ITS FALSE NEIGHBOUR: 'it returns false'. Refute it at one input. -/
def fnExactReadPlaceWrong : ChangeSpec := { name := "fnExactReadPlace", fn := fun _ => fun
  | [d] => { results := [.lit (.bool false)], args := [d] }
  | _ => none }
def FnExactReadPlaceWrongFalsely : Prop := fnExactReadPlaceRow.holds Tryd.pinned (OpenSpec.ofChange fnExactReadPlaceWrong)

/-- 'laws.FnExactReadSwing': WHATEVER THE INPUT: true; the input reads as it did. -/
def fnExactReadSwingSpec : ChangeSpec := { name := "fnExactReadSwing", fn := fun _ => fun
  | [d] => { results := [.lit (.bool true)], args := [d] }
  | _ => none }
def fnExactReadSwingRow : OpenClaim := { program := "ytphlejphkipbpaadoor", sum := "3d0c63bd27e34d0128e3d647c0f529dc768f92d95c1a0b2b08dc1a23f0557d9b", func := "loop.example/g00952/laws.FnExactReadSwing", spec := "fnExactReadSwing", inPlace := ["internal/bytealg.IndexByteString", "internal/bytealg.IndexString", "internal/bytealg.CountString", "internal/abi.NoEscape", "internal/bytealg.MakeNoZero"], unfollowed := true, recurses := true, named := ["internal/bytealg.MaxLen", "unicode/utf8.first", "unicode/utf8.acceptRanges", "strconv.ErrSyntax", "strconv.ErrRange", "internal/strconv.uint64pow10", "math/bits.deBruijn32tab", "math/bits.deBruijn64tab"], apart := false, laid := [("math/bits.deBruijn32tab", laid_math_bits_deBruijn32tab), ("math/bits.deBruijn64tab", laid_math_bits_deBruijn64tab), ("internal/strconv.uint64pow10", laid_internal_strconv_uint64pow10), ("unicode/utf8.acceptRanges", laid_unicode_utf8_acceptRanges), ("strconv.ErrRange", laid_strconv_ErrRange), ("strconv.ErrSyntax", laid_strconv_ErrSyntax), ("unicode/utf8.first", laid_unicode_utf8_first)] }
def FnExactReadSwingSaid : Prop := fnExactReadSwingRow.holds Tryd.pinned (OpenSpec.ofChange fnExactReadSwingSpec)

/-- ITS FALSE NEIGHBOUR: 'it returns false'. Refute it at one input. -/
def fnExactReadSwingWrong : ChangeSpec := { name := "fnExactReadSwing", fn := fun _ => fun
  | [d] => { results := [.lit (.bool false)], args := [d] }
  | _ => none }
def FnExactReadSwingWrongFalsely : Prop := fnExactReadSwingRow.holds Tryd.pinned (OpenSpec.ofChange fnExactReadSwingWrong)

/-- 'laws.FnExactReadTower': WHATEVER THE INPUT: true; the input reads as it did. -/
def fnExactReadTowerSpec : ChangeSpec := { name := "fnExactReadTower", fn := fun _ => fun
  | [d] => { results := [.lit (.bool true)], args := [d] }
  | _ => none }
def fnExactReadTowerRow : OpenClaim := { program := "ytphlejphkipbpaadoor", sum := "3d0c63bd27e34d0128e3d647c0f529dc768f92d95c1a0b2b08dc1a23f0557d9b", func := "loop.example/g00952/laws.FnExactReadTower", spec := "fnExactReadTower", inPlace := ["internal/bytealg.IndexByteString", "internal/bytealg.IndexString", "internal/bytealg.CountString", "internal/abi.NoEscape", "internal/bytealg.MakeNoZero"], unfollowed := true, recurses := true, named := ["internal/bytealg.MaxLen", "unicode/utf8.first", "unicode/utf8.acceptRanges", "strconv.ErrSyntax", "strconv.ErrRange", "internal/strconv.uint64pow10", "math/bits.deBruijn32tab", "math/bits.deBruijn64tab"], apart := false, laid := [("math/bits.deBruijn32tab", laid_math_bits_deBruijn32tab), ("math/bits.deBruijn64tab", laid_math_bits_deBruijn64tab), ("internal/strconv.uint64pow10", laid_internal_strconv_uint64pow10), ("unicode/utf8.acceptRanges", laid_unicode_utf8_acceptRanges), ("strconv.ErrRange", laid_strconv_ErrRange), ("strconv.ErrSyntax", laid_strconv_ErrSyntax), ("unicode/utf8.first", laid_unicode_utf8_first)] }
def FnExactReadTowerSaid : Prop := fnExactReadTowerRow.holds Tryd.pinned (OpenSpec.ofChange fnExactReadTowerSpec)

/-- ITS FALSE NEIGHBOUR: 'it returns false'. Refute it at one input. -/
def fnExactReadTowerWrong : ChangeSpec := { name := "fnExactReadTower", fn := fun _ => fun
  | [d] => { results := [.lit (.bool false)], args := [d] }
  | _ => none }
def FnExactReadTowerWrongFalsely : Prop := fnExactReadTowerRow.holds Tryd.pinned (OpenSpec.ofChange fnExactReadTowerWrong)

/-- 'laws.FnExactReadBeam': WHATEVER THE INPUT: true; the input reads as it did. -/
def fnExactReadBeamSpec : ChangeSpec := { name := "fnExactReadBeam", fn := fun _ => fun
  | [d] => { results := [.lit (.bool true)], args := [d] }
  | _ => none }
def fnExactReadBeamRow : OpenClaim := { program := "ytphlejphkipbpaadoor", sum := "3d0c63bd27e34d0128e3d647c0f529dc768f92d95c1a0b2b08dc1a23f0557d9b", func := "loop.example/g00952/laws.FnExactReadBeam", spec := "fnExactReadBeam", inPlace := ["internal/bytealg.CountString", "internal/bytealg.IndexByteString", "internal/bytealg.IndexString", "internal/abi.NoEscape", "internal/bytealg.MakeNoZero"], unfollowed := true, recurses := true, named := ["unicode/utf8.first", "unicode/utf8.acceptRanges", "internal/bytealg.MaxLen", "strconv.ErrSyntax", "strconv.ErrRange", "internal/strconv.uint64pow10", "math/bits.deBruijn32tab", "math/bits.deBruijn64tab"], apart := false, laid := [("math/bits.deBruijn32tab", laid_math_bits_deBruijn32tab), ("math/bits.deBruijn64tab", laid_math_bits_deBruijn64tab), ("internal/strconv.uint64pow10", laid_internal_strconv_uint64pow10), ("unicode/utf8.acceptRanges", laid_unicode_utf8_acceptRanges), ("strconv.ErrRange", laid_strconv_ErrRange), ("strconv.ErrSyntax", laid_strconv_ErrSyntax), ("unicode/utf8.first", laid_unicode_utf8_first)] }
def FnExactReadBeamSaid : Prop := fnExactReadBeamRow.holds Tryd.pinned (OpenSpec.ofChange fnExactReadBeamSpec)

/-- ITS FALSE NEIGHBOUR: 'it returns false'. Refute it at one input. -/
def fnExactReadBeamWrong : ChangeSpec := { name := "fnExactReadBeam", fn := fun _ => fun
  | [d] => { results := [.lit (.bool false)], args := [d] }
  | _ => none }
def FnExactReadBeamWrongFalsely : Prop := fnExactReadBeamRow.holds Tryd.pinned (OpenSpec.ofChange fnExactReadBeamWrong)

/-- 'laws.FnClappers': WHATEVER THE INPUT: true; the input reads as it did. -/
def fnClappersSpec : ChangeSpec := { name := "fnClappers", fn := fun _ => fun
  | [d1, d2] => { results := [.lit (.bool true)], args := [d1, d2] }
  | _ => none }
def fnClappersRow : OpenClaim := { program := "ytphlejphkipbpaadoor", sum := "3d0c63bd27e34d0128e3d647c0f529dc768f92d95c1a0b2b08dc1a23f0557d9b", func := "loop.example/g00952/laws.FnClappers", spec := "fnClappers", inPlace := ["internal/abi.NoEscape", "internal/bytealg.MakeNoZero", "internal/bytealg.CountString", "internal/bytealg.IndexByteString", "internal/bytealg.IndexString"], unfollowed := true, recurses := true, named := ["internal/strconv.uint64pow10", "math/bits.deBruijn32tab", "math/bits.deBruijn64tab", "unicode/utf8.first", "unicode/utf8.acceptRanges", "internal/bytealg.MaxLen", "strconv.ErrSyntax", "strconv.ErrRange"], apart := false, laid := [("math/bits.deBruijn32tab", laid_math_bits_deBruijn32tab), ("math/bits.deBruijn64tab", laid_math_bits_deBruijn64tab), ("internal/strconv.uint64pow10", laid_internal_strconv_uint64pow10), ("unicode/utf8.acceptRanges", laid_unicode_utf8_acceptRanges), ("strconv.ErrRange", laid_strconv_ErrRange), ("strconv.ErrSyntax", laid_strconv_ErrSyntax), ("unicode/utf8.first", laid_unicode_utf8_first)] }
def FnClappersSaid : Prop := fnClappersRow.holds Tryd.pinned (OpenSpec.ofChange fnClappersSpec)

/-- ITS FALSE NEIGHBOUR: 'it returns false'. Refute it at one input. -/
def fnClappersWrong : ChangeSpec := { name := "fnClappers", fn := fun _ => fun
  | [d1, d2] => { results := [.lit (.bool false)], args := [d1, d2] }
  | _ => none }
def FnClappersWrongFalsely : Prop := fnClappersRow.holds Tryd.pinned (OpenSpec.ofChange fnClappersWrong)

/- THE SECOND FORM. 'bulk': how many values and letters a reading holds, each counted each time it is reached (what is shared counts as often as it is met; a slice's spare places count too). A statement '..UptoSaid' is the law's where the arguments, and the package variables that the reading takes, are together of bulk at most 1048576: NARROWER than '..Said'. Prove '..Said' where nothing that the law and all that it calls make is longer than what came in: it says more and counts as full. Else prove '..UptoSaid'. A law counts once. -/
mutual
def uptoBulk {H : Type} : DataW H → Nat
  | .lit (.string bytes) => bytes.length + 1
  | .lit _ => 1
  | .nil => 1
  | .ptr d => uptoBulk d + 1
  | .slice elems spare => uptoBulkAll elems + uptoBulkAll spare + 1
  | .agg parts => uptoBulkAll parts + 1
  | .iface _ d => uptoBulk d + 1
  | .map entries => uptoBulkEntries entries + 1
  | .held _ => 1
def uptoBulkAll {H : Type} : List (DataW H) → Nat
  | [] => 0
  | d :: r => uptoBulk d + uptoBulkAll r
def uptoBulkEntries {H : Type} : List (Lit × DataW H) → Nat
  | [] => 0
  | x :: r => uptoBulkEntry x + uptoBulkEntries r
def uptoBulkEntry {H : Type} : Lit × DataW H → Nat
  | (.string bytes, d) => bytes.length + uptoBulk d + 1
  | (_, d) => uptoBulk d + 1
 end
def uptoSmall : (H : Type) → List (DataW H) → Bool := fun _ ds => decide (uptoBulkAll ds ≤ 1048576)
def OpenSpec.upto (s : _root_.Go.ChangeSpec) : _root_.Go.OpenSpec := { _root_.Go.OpenSpec.ofChange s with cond := some uptoSmall }

/-- 'laws.FnExactClapperText', WHERE WHAT IT READS IS OF BULK AT MOST 1048576: true; the input reads as it did. -/
def fnExactClapperTextUptoRow : OpenClaim := { program := "ytphlejphkipbpaadoor", sum := "3d0c63bd27e34d0128e3d647c0f529dc768f92d95c1a0b2b08dc1a23f0557d9b", func := "loop.example/g00952/laws.FnExactClapperText", spec := "fnExactClapperText", inPlace := ["internal/abi.NoEscape", "internal/bytealg.MakeNoZero"], unfollowed := true, recurses := true, named := ["internal/strconv.uint64pow10", "math/bits.deBruijn32tab", "math/bits.deBruijn64tab"], apart := false, laid := [("math/bits.deBruijn32tab", laid_math_bits_deBruijn32tab), ("math/bits.deBruijn64tab", laid_math_bits_deBruijn64tab), ("internal/strconv.uint64pow10", laid_internal_strconv_uint64pow10)], narrowed := true }
def FnExactClapperTextUptoSaid : Prop := fnExactClapperTextUptoRow.holds Tryd.pinned (OpenSpec.upto fnExactClapperTextSpec)

/-- 'laws.FnExactSwingText', WHERE WHAT IT READS IS OF BULK AT MOST 1048576: true; the input reads as it did. -/
def fnExactSwingTextUptoRow : OpenClaim := { program := "ytphlejphkipbpaadoor", sum := "3d0c63bd27e34d0128e3d647c0f529dc768f92d95c1a0b2b08dc1a23f0557d9b", func := "loop.example/g00952/laws.FnExactSwingText", spec := "fnExactSwingText", inPlace := ["internal/abi.NoEscape", "internal/bytealg.MakeNoZero"], unfollowed := true, recurses := true, named := ["internal/strconv.uint64pow10", "math/bits.deBruijn32tab", "math/bits.deBruijn64tab"], apart := false, laid := [("math/bits.deBruijn32tab", laid_math_bits_deBruijn32tab), ("math/bits.deBruijn64tab", laid_math_bits_deBruijn64tab), ("internal/strconv.uint64pow10", laid_internal_strconv_uint64pow10)], narrowed := true }
def FnExactSwingTextUptoSaid : Prop := fnExactSwingTextUptoRow.holds Tryd.pinned (OpenSpec.upto fnExactSwingTextSpec)

/-- 'laws.FnExactTowerText', WHERE WHAT IT READS IS OF BULK AT MOST 1048576: true; the input reads as it did. -/
def fnExactTowerTextUptoRow : OpenClaim := { program := "ytphlejphkipbpaadoor", sum := "3d0c63bd27e34d0128e3d647c0f529dc768f92d95c1a0b2b08dc1a23f0557d9b", func := "loop.example/g00952/laws.FnExactTowerText", spec := "fnExactTowerText", inPlace := ["internal/abi.NoEscape", "internal/bytealg.MakeNoZero"], unfollowed := true, recurses := true, named := ["internal/strconv.uint64pow10", "math/bits.deBruijn32tab", "math/bits.deBruijn64tab"], apart := false, laid := [("math/bits.deBruijn32tab", laid_math_bits_deBruijn32tab), ("math/bits.deBruijn64tab", laid_math_bits_deBruijn64tab), ("internal/strconv.uint64pow10", laid_internal_strconv_uint64pow10)], narrowed := true }
def FnExactTowerTextUptoSaid : Prop := fnExactTowerTextUptoRow.holds Tryd.pinned (OpenSpec.upto fnExactTowerTextSpec)

/-- 'laws.FnExactPlaceText', WHERE WHAT IT READS IS OF BULK AT MOST 1048576: true; the input reads as it did. -/
def fnExactPlaceTextUptoRow : OpenClaim := { program := "ytphlejphkipbpaadoor", sum := "3d0c63bd27e34d0128e3d647c0f529dc768f92d95c1a0b2b08dc1a23f0557d9b", func := "loop.example/g00952/laws.FnExactPlaceText", spec := "fnExactPlaceText", inPlace := ["internal/abi.NoEscape", "internal/bytealg.MakeNoZero"], unfollowed := true, recurses := true, named := ["internal/strconv.uint64pow10", "math/bits.deBruijn32tab", "math/bits.deBruijn64tab"], apart := false, laid := [("math/bits.deBruijn32tab", laid_math_bits_deBruijn32tab), ("math/bits.deBruijn64tab", laid_math_bits_deBruijn64tab), ("internal/strconv.uint64pow10", laid_internal_strconv_uint64pow10)], narrowed := true }
def FnExactPlaceTextUptoSaid : Prop := fnExactPlaceTextUptoRow.holds Tryd.pinned (OpenSpec.upto fnExactPlaceTextSpec)

/-- 'laws.FnExactBeamText', WHERE WHAT IT READS IS OF BULK AT MOST 1048576: true; the input reads as it did. -/
def fnExactBeamTextUptoRow : OpenClaim := { program := "ytphlejphkipbpaadoor", sum := "3d0c63bd27e34d0128e3d647c0f529dc768f92d95c1a0b2b08dc1a23f0557d9b", func := "loop.example/g00952/laws.FnExactBeamText", spec := "fnExactBeamText", inPlace := ["internal/abi.NoEscape", "internal/bytealg.MakeNoZero"], unfollowed := true, recurses := true, named := ["internal/strconv.uint64pow10", "math/bits.deBruijn32tab", "math/bits.deBruijn64tab"], apart := false, laid := [("math/bits.deBruijn32tab", laid_math_bits_deBruijn32tab), ("math/bits.deBruijn64tab", laid_math_bits_deBruijn64tab), ("internal/strconv.uint64pow10", laid_internal_strconv_uint64pow10)], narrowed := true }
def FnExactBeamTextUptoSaid : Prop := fnExactBeamTextUptoRow.holds Tryd.pinned (OpenSpec.upto fnExactBeamTextSpec)

/-- 'laws.FnExactReadClapper', WHERE WHAT IT READS IS OF BULK AT MOST 1048576: true; the input reads as it did. -/
def fnExactReadClapperUptoRow : OpenClaim := { program := "ytphlejphkipbpaadoor", sum := "3d0c63bd27e34d0128e3d647c0f529dc768f92d95c1a0b2b08dc1a23f0557d9b", func := "loop.example/g00952/laws.FnExactReadClapper", spec := "fnExactReadClapper", inPlace := ["internal/bytealg.CountString", "internal/bytealg.IndexByteString", "internal/bytealg.IndexString", "internal/abi.NoEscape", "internal/bytealg.MakeNoZero"], unfollowed := true, recurses := true, named := ["unicode/utf8.first", "unicode/utf8.acceptRanges", "internal/bytealg.MaxLen", "strconv.ErrSyntax", "strconv.ErrRange", "internal/strconv.uint64pow10", "math/bits.deBruijn32tab", "math/bits.deBruijn64tab"], apart := false, laid := [("math/bits.deBruijn32tab", laid_math_bits_deBruijn32tab), ("math/bits.deBruijn64tab", laid_math_bits_deBruijn64tab), ("internal/strconv.uint64pow10", laid_internal_strconv_uint64pow10), ("unicode/utf8.acceptRanges", laid_unicode_utf8_acceptRanges), ("strconv.ErrRange", laid_strconv_ErrRange), ("strconv.ErrSyntax", laid_strconv_ErrSyntax), ("unicode/utf8.first", laid_unicode_utf8_first)], narrowed := true }
def FnExactReadClapperUptoSaid : Prop := fnExactReadClapperUptoRow.holds Tryd.pinned (OpenSpec.upto fnExactReadClapperSpec)

/-- 'laws.FnExactReadPlace', WHERE WHAT IT READS IS OF BULK AT MOST 1048576: true; the input reads as it did. -/
def fnExactReadPlaceUptoRow : OpenClaim := { program := "ytphlejphkipbpaadoor", sum := "3d0c63bd27e34d0128e3d647c0f529dc768f92d95c1a0b2b08dc1a23f0557d9b", func := "loop.example/g00952/laws.FnExactReadPlace", spec := "fnExactReadPlace", inPlace := ["internal/bytealg.IndexByteString", "internal/bytealg.IndexString", "internal/bytealg.CountString", "internal/abi.NoEscape", "internal/bytealg.MakeNoZero"], unfollowed := true, recurses := true, named := ["internal/bytealg.MaxLen", "unicode/utf8.first", "unicode/utf8.acceptRanges", "strconv.ErrSyntax", "strconv.ErrRange", "internal/strconv.uint64pow10", "math/bits.deBruijn32tab", "math/bits.deBruijn64tab"], apart := false, laid := [("math/bits.deBruijn32tab", laid_math_bits_deBruijn32tab), ("math/bits.deBruijn64tab", laid_math_bits_deBruijn64tab), ("internal/strconv.uint64pow10", laid_internal_strconv_uint64pow10), ("unicode/utf8.acceptRanges", laid_unicode_utf8_acceptRanges), ("strconv.ErrRange", laid_strconv_ErrRange), ("strconv.ErrSyntax", laid_strconv_ErrSyntax), ("unicode/utf8.first", laid_unicode_utf8_first)], narrowed := true }
def FnExactReadPlaceUptoSaid : Prop := fnExactReadPlaceUptoRow.holds Tryd.pinned (OpenSpec.upto fnExactReadPlaceSpec)

/-- 'laws.FnExactReadSwing', WHERE WHAT IT READS IS OF BULK AT MOST 1048576: true; the input reads as it did. -/
def fnExactReadSwingUptoRow : OpenClaim := { program := "ytphlejphkipbpaadoor", sum := "3d0c63bd27e34d0128e3d647c0f529dc768f92d95c1a0b2b08dc1a23f0557d9b", func := "loop.example/g00952/laws.FnExactReadSwing", spec := "fnExactReadSwing", inPlace := ["internal/bytealg.IndexByteString", "internal/bytealg.IndexString", "internal/bytealg.CountString", "internal/abi.NoEscape", "internal/bytealg.MakeNoZero"], unfollowed := true, recurses := true, named := ["internal/bytealg.MaxLen", "unicode/utf8.first", "unicode/utf8.acceptRanges", "strconv.ErrSyntax", "strconv.ErrRange", "internal/strconv.uint64pow10", "math/bits.deBruijn32tab", "math/bits.deBruijn64tab"], apart := false, laid := [("math/bits.deBruijn32tab", laid_math_bits_deBruijn32tab), ("math/bits.deBruijn64tab", laid_math_bits_deBruijn64tab), ("internal/strconv.uint64pow10", laid_internal_strconv_uint64pow10), ("unicode/utf8.acceptRanges", laid_unicode_utf8_acceptRanges), ("strconv.ErrRange", laid_strconv_ErrRange), ("strconv.ErrSyntax", laid_strconv_ErrSyntax), ("unicode/utf8.first", laid_unicode_utf8_first)], narrowed := true }
def FnExactReadSwingUptoSaid : Prop := fnExactReadSwingUptoRow.holds Tryd.pinned (OpenSpec.upto fnExactReadSwingSpec)

/-- 'laws.FnExactReadTower', WHERE WHAT IT READS IS OF BULK AT MOST 1048576: true; the input reads as it did. -/
def fnExactReadTowerUptoRow : OpenClaim := { program := "ytphlejphkipbpaadoor", sum := "3d0c63bd27e34d0128e3d647c0f529dc768f92d95c1a0b2b08dc1a23f0557d9b", func := "loop.example/g00952/laws.FnExactReadTower", spec := "fnExactReadTower", inPlace := ["internal/bytealg.IndexByteString", "internal/bytealg.IndexString", "internal/bytealg.CountString", "internal/abi.NoEscape", "internal/bytealg.MakeNoZero"], unfollowed := true, recurses := true, named := ["internal/bytealg.MaxLen", "unicode/utf8.first", "unicode/utf8.acceptRanges", "strconv.ErrSyntax", "strconv.ErrRange", "internal/strconv.uint64pow10", "math/bits.deBruijn32tab", "math/bits.deBruijn64tab"], apart := false, laid := [("math/bits.deBruijn32tab", laid_math_bits_deBruijn32tab), ("math/bits.deBruijn64tab", laid_math_bits_deBruijn64tab), ("internal/strconv.uint64pow10", laid_internal_strconv_uint64pow10), ("unicode/utf8.acceptRanges", laid_unicode_utf8_acceptRanges), ("strconv.ErrRange", laid_strconv_ErrRange), ("strconv.ErrSyntax", laid_strconv_ErrSyntax), ("unicode/utf8.first", laid_unicode_utf8_first)], narrowed := true }
def FnExactReadTowerUptoSaid : Prop := fnExactReadTowerUptoRow.holds Tryd.pinned (OpenSpec.upto fnExactReadTowerSpec)

/-- 'laws.FnExactReadBeam', WHERE WHAT IT READS IS OF BULK AT MOST 1048576: true; the input reads as it did. -/
def fnExactReadBeamUptoRow : OpenClaim := { program := "ytphlejphkipbpaadoor", sum := "3d0c63bd27e34d0128e3d647c0f529dc768f92d95c1a0b2b08dc1a23f0557d9b", func := "loop.example/g00952/laws.FnExactReadBeam", spec := "fnExactReadBeam", inPlace := ["internal/bytealg.CountString", "internal/bytealg.IndexByteString", "internal/bytealg.IndexString", "internal/abi.NoEscape", "internal/bytealg.MakeNoZero"], unfollowed := true, recurses := true, named := ["unicode/utf8.first", "unicode/utf8.acceptRanges", "internal/bytealg.MaxLen", "strconv.ErrSyntax", "strconv.ErrRange", "internal/strconv.uint64pow10", "math/bits.deBruijn32tab", "math/bits.deBruijn64tab"], apart := false, laid := [("math/bits.deBruijn32tab", laid_math_bits_deBruijn32tab), ("math/bits.deBruijn64tab", laid_math_bits_deBruijn64tab), ("internal/strconv.uint64pow10", laid_internal_strconv_uint64pow10), ("unicode/utf8.acceptRanges", laid_unicode_utf8_acceptRanges), ("strconv.ErrRange", laid_strconv_ErrRange), ("strconv.ErrSyntax", laid_strconv_ErrSyntax), ("unicode/utf8.first", laid_unicode_utf8_first)], narrowed := true }
def FnExactReadBeamUptoSaid : Prop := fnExactReadBeamUptoRow.holds Tryd.pinned (OpenSpec.upto fnExactReadBeamSpec)

/-- 'laws.FnClappers', WHERE WHAT IT READS IS OF BULK AT MOST 1048576: true; the input reads as it did. -/
def fnClappersUptoRow : OpenClaim := { program := "ytphlejphkipbpaadoor", sum := "3d0c63bd27e34d0128e3d647c0f529dc768f92d95c1a0b2b08dc1a23f0557d9b", func := "loop.example/g00952/laws.FnClappers", spec := "fnClappers", inPlace := ["internal/abi.NoEscape", "internal/bytealg.MakeNoZero", "internal/bytealg.CountString", "internal/bytealg.IndexByteString", "internal/bytealg.IndexString"], unfollowed := true, recurses := true, named := ["internal/strconv.uint64pow10", "math/bits.deBruijn32tab", "math/bits.deBruijn64tab", "unicode/utf8.first", "unicode/utf8.acceptRanges", "internal/bytealg.MaxLen", "strconv.ErrSyntax", "strconv.ErrRange"], apart := false, laid := [("math/bits.deBruijn32tab", laid_math_bits_deBruijn32tab), ("math/bits.deBruijn64tab", laid_math_bits_deBruijn64tab), ("internal/strconv.uint64pow10", laid_internal_strconv_uint64pow10), ("unicode/utf8.acceptRanges", laid_unicode_utf8_acceptRanges), ("strconv.ErrRange", laid_strconv_ErrRange), ("strconv.ErrSyntax", laid_strconv_ErrSyntax), ("unicode/utf8.first", laid_unicode_utf8_first)], narrowed := true }
def FnClappersUptoSaid : Prop := fnClappersUptoRow.holds Tryd.pinned (OpenSpec.upto fnClappersSpec)

end Rows
end Go.Proofs.YtphlejphkipbpaaDoor
