/-
  NARROWER THAN 'FOR EVERY INPUT', by the rows' own cells (each row's printed sentence says how): SysFloats: laid · SysEnds: laid · SysThrows: laid · SysHidden: laid · SysRooms: laid · SysWrites: laid.
  DERIVED. THE GIVEN ROWS OF THIS SEAT. 6 by the template 'for every input the law returns true; each argument reads behind the call as it read before'; 0 by the template 'total and deterministic' (their statements: YtjpgfgajkjhonaaGreatDoorTotals.lean).
  GIVEN WITH THE SEED: the statements are not yours to turn. If you find one false, say at which input.
  Laid BY PROGRAM, IN A SANDBOX (cutbox-rows.mjs): the forced cells as the released guide's own fill.sh prints them over the translation 7310ca5bb0846603… (all of the seat's roots in one cut). By AI agents, Wed Nov 11 2026. No macro, syntax, notation, axiom, sorry.
-/
import Derived.Test.YtjpgfgajkjhonaaGreatDoorChecked
import GoSem.PinnedTables
import GoSem.Claim
import GoSem.ClaimJoined
import GoSem.ClaimMapViews
import Derived.JoinedTies
import Derived.KernelRfl
namespace Go.Proofs.YtjpgfgajkjhonaaGreatDoor
/- THE CELL 'sum', in the pinned program and in every row, IS THE sha256 OF THE DUMP (.gsa) THAT YtjpgfgajkjhonaaGreatDoorProg.lean LOADS. Nothing in Lean hashes anything: it is a label: what it is worth is what the hold of that sum in a sandbox is worth. -/
noncomputable def Tryz.pinned : Pinned := { name := "ytjpgfgajkjhonaagreatdoor", sum := "7310ca5bb0846603cfa2cc1a6c887935dcbcd1e4b61ebfe0dfe92c2b449007bc", checked := Tryz.checked }
namespace Rows
def none {H : Type} : Left H := { results := [], args := [] }

/- WHAT THE LISTED PACKAGE-LEVEL VARIABLES READ AS WHEN THE CALL BEGINS. Each datum BY PROGRAM (the guide's laid-datum.mjs) off the statement by which the dump's own 'gosem.cut.vars' lays the variable. In a bare row this is a premise. The card (YtjpgfgajkjhonaaGreatDoorCards.lean) ties it to the program's text. -/
def laid_math_bits_deBruijn32tab {H : Type} : DataW H := .agg [.lit (.int .u8 0), .lit (.int .u8 1), .lit (.int .u8 28), .lit (.int .u8 2), .lit (.int .u8 29), .lit (.int .u8 14), .lit (.int .u8 24), .lit (.int .u8 3), .lit (.int .u8 30), .lit (.int .u8 22), .lit (.int .u8 20), .lit (.int .u8 15), .lit (.int .u8 25), .lit (.int .u8 17), .lit (.int .u8 4), .lit (.int .u8 8), .lit (.int .u8 31), .lit (.int .u8 27), .lit (.int .u8 13), .lit (.int .u8 23), .lit (.int .u8 21), .lit (.int .u8 19), .lit (.int .u8 16), .lit (.int .u8 7), .lit (.int .u8 26), .lit (.int .u8 12), .lit (.int .u8 18), .lit (.int .u8 6), .lit (.int .u8 11), .lit (.int .u8 5), .lit (.int .u8 10), .lit (.int .u8 9)]
def laid_math_bits_deBruijn64tab {H : Type} : DataW H := .agg [.lit (.int .u8 0), .lit (.int .u8 1), .lit (.int .u8 56), .lit (.int .u8 2), .lit (.int .u8 57), .lit (.int .u8 49), .lit (.int .u8 28), .lit (.int .u8 3), .lit (.int .u8 61), .lit (.int .u8 58), .lit (.int .u8 42), .lit (.int .u8 50), .lit (.int .u8 38), .lit (.int .u8 29), .lit (.int .u8 17), .lit (.int .u8 4), .lit (.int .u8 62), .lit (.int .u8 47), .lit (.int .u8 59), .lit (.int .u8 36), .lit (.int .u8 45), .lit (.int .u8 43), .lit (.int .u8 51), .lit (.int .u8 22), .lit (.int .u8 53), .lit (.int .u8 39), .lit (.int .u8 33), .lit (.int .u8 30), .lit (.int .u8 24), .lit (.int .u8 18), .lit (.int .u8 12), .lit (.int .u8 5), .lit (.int .u8 63), .lit (.int .u8 55), .lit (.int .u8 48), .lit (.int .u8 27), .lit (.int .u8 60), .lit (.int .u8 41), .lit (.int .u8 37), .lit (.int .u8 16), .lit (.int .u8 46), .lit (.int .u8 35), .lit (.int .u8 44), .lit (.int .u8 21), .lit (.int .u8 52), .lit (.int .u8 32), .lit (.int .u8 23), .lit (.int .u8 11), .lit (.int .u8 54), .lit (.int .u8 26), .lit (.int .u8 40), .lit (.int .u8 15), .lit (.int .u8 34), .lit (.int .u8 20), .lit (.int .u8 31), .lit (.int .u8 10), .lit (.int .u8 25), .lit (.int .u8 14), .lit (.int .u8 19), .lit (.int .u8 9), .lit (.int .u8 13), .lit (.int .u8 8), .lit (.int .u8 7), .lit (.int .u8 6)]
def laid_internal_strconv_uint64pow10 {H : Type} : DataW H := .agg [.lit (.int .u64 1), .lit (.int .u64 10), .lit (.int .u64 100), .lit (.int .u64 1000), .lit (.int .u64 10000), .lit (.int .u64 100000), .lit (.int .u64 1000000), .lit (.int .u64 10000000), .lit (.int .u64 100000000), .lit (.int .u64 1000000000), .lit (.int .u64 10000000000), .lit (.int .u64 100000000000), .lit (.int .u64 1000000000000), .lit (.int .u64 10000000000000), .lit (.int .u64 100000000000000), .lit (.int .u64 1000000000000000), .lit (.int .u64 10000000000000000), .lit (.int .u64 100000000000000000), .lit (.int .u64 1000000000000000000), .lit (.int .u64 10000000000000000000)]
def laid_unicode_utf8_acceptRanges {H : Type} : DataW H := .agg [.agg [.lit (.int .u8 128), .lit (.int .u8 191)], .agg [.lit (.int .u8 160), .lit (.int .u8 191)], .agg [.lit (.int .u8 128), .lit (.int .u8 159)], .agg [.lit (.int .u8 144), .lit (.int .u8 191)], .agg [.lit (.int .u8 128), .lit (.int .u8 143)], .agg [.lit (.int .u8 0), .lit (.int .u8 0)], .agg [.lit (.int .u8 0), .lit (.int .u8 0)], .agg [.lit (.int .u8 0), .lit (.int .u8 0)], .agg [.lit (.int .u8 0), .lit (.int .u8 0)], .agg [.lit (.int .u8 0), .lit (.int .u8 0)], .agg [.lit (.int .u8 0), .lit (.int .u8 0)], .agg [.lit (.int .u8 0), .lit (.int .u8 0)], .agg [.lit (.int .u8 0), .lit (.int .u8 0)], .agg [.lit (.int .u8 0), .lit (.int .u8 0)], .agg [.lit (.int .u8 0), .lit (.int .u8 0)], .agg [.lit (.int .u8 0), .lit (.int .u8 0)]]
def laid_strconv_ErrRange {H : Type} : DataW H := .iface "*errors.errorString" (.ptr (.agg [.lit (.string [118, 97, 108, 117, 101, 32, 111, 117, 116, 32, 111, 102, 32, 114, 97, 110, 103, 101])]))
def laid_strconv_ErrSyntax {H : Type} : DataW H := .iface "*errors.errorString" (.ptr (.agg [.lit (.string [105, 110, 118, 97, 108, 105, 100, 32, 115, 121, 110, 116, 97, 120])]))
def laid_lazaretto_op_table {H : Type} : DataW H := .agg [.agg [.lit (.string [112, 117, 115, 104]), .lit (.int .u8 1), .lit (.int .u8 0), .lit (.int .u8 1)], .agg [.lit (.string [108, 111, 97, 100]), .lit (.int .u8 2), .lit (.int .u8 0), .lit (.int .u8 1)], .agg [.lit (.string [115, 116, 111, 114, 101]), .lit (.int .u8 2), .lit (.int .u8 1), .lit (.int .u8 0)], .agg [.lit (.string [112, 111, 112]), .lit (.int .u8 0), .lit (.int .u8 1), .lit (.int .u8 0)], .agg [.lit (.string [100, 117, 112]), .lit (.int .u8 0), .lit (.int .u8 1), .lit (.int .u8 2)], .agg [.lit (.string [115, 119, 97, 112]), .lit (.int .u8 0), .lit (.int .u8 2), .lit (.int .u8 2)], .agg [.lit (.string [97, 100, 100]), .lit (.int .u8 0), .lit (.int .u8 2), .lit (.int .u8 1)], .agg [.lit (.string [115, 117, 98]), .lit (.int .u8 0), .lit (.int .u8 2), .lit (.int .u8 1)], .agg [.lit (.string [109, 117, 108]), .lit (.int .u8 0), .lit (.int .u8 2), .lit (.int .u8 1)], .agg [.lit (.string [100, 105, 118]), .lit (.int .u8 0), .lit (.int .u8 2), .lit (.int .u8 1)], .agg [.lit (.string [114, 101, 109]), .lit (.int .u8 0), .lit (.int .u8 2), .lit (.int .u8 1)], .agg [.lit (.string [101, 113]), .lit (.int .u8 0), .lit (.int .u8 2), .lit (.int .u8 1)], .agg [.lit (.string [108, 116]), .lit (.int .u8 0), .lit (.int .u8 2), .lit (.int .u8 1)], .agg [.lit (.string [110, 111, 116]), .lit (.int .u8 0), .lit (.int .u8 1), .lit (.int .u8 1)], .agg [.lit (.string [106, 117, 109, 112]), .lit (.int .u8 3), .lit (.int .u8 0), .lit (.int .u8 0)], .agg [.lit (.string [105, 102]), .lit (.int .u8 3), .lit (.int .u8 1), .lit (.int .u8 0)], .agg [.lit (.string [99, 97, 108, 108]), .lit (.int .u8 4), .lit (.int .u8 0), .lit (.int .u8 1)], .agg [.lit (.string [114, 101, 116]), .lit (.int .u8 0), .lit (.int .u8 1), .lit (.int .u8 0)], .agg [.lit (.string [116, 104, 114, 111, 119]), .lit (.int .u8 0), .lit (.int .u8 1), .lit (.int .u8 0)], .agg [.lit (.string [116, 114, 121]), .lit (.int .u8 3), .lit (.int .u8 0), .lit (.int .u8 0)], .agg [.lit (.string [101, 110, 100]), .lit (.int .u8 0), .lit (.int .u8 0), .lit (.int .u8 0)], .agg [.lit (.string [106, 111, 105, 110]), .lit (.int .u8 0), .lit (.int .u8 2), .lit (.int .u8 1)], .agg [.lit (.string [109, 101, 101, 116]), .lit (.int .u8 0), .lit (.int .u8 2), .lit (.int .u8 1)], .agg [.lit (.string [102, 108, 111, 119, 115]), .lit (.int .u8 0), .lit (.int .u8 2), .lit (.int .u8 1)], .agg [.lit (.string [99, 117, 114]), .lit (.int .u8 0), .lit (.int .u8 0), .lit (.int .u8 1)], .agg [.lit (.string [99, 108, 114]), .lit (.int .u8 0), .lit (.int .u8 0), .lit (.int .u8 1)], .agg [.lit (.string [114, 97, 105, 115, 101]), .lit (.int .u8 0), .lit (.int .u8 1), .lit (.int .u8 0)], .agg [.lit (.string [108, 111, 119, 101, 114]), .lit (.int .u8 0), .lit (.int .u8 1), .lit (.int .u8 0)], .agg [.lit (.string [98, 111, 120]), .lit (.int .u8 0), .lit (.int .u8 2), .lit (.int .u8 1)], .agg [.lit (.string [111, 112, 101, 110]), .lit (.int .u8 0), .lit (.int .u8 1), .lit (.int .u8 1)], .agg [.lit (.string [108, 97, 98, 111, 102]), .lit (.int .u8 0), .lit (.int .u8 1), .lit (.int .u8 1)], .agg [.lit (.string [114, 101, 102]), .lit (.int .u8 0), .lit (.int .u8 2), .lit (.int .u8 1)], .agg [.lit (.string [103, 101, 116]), .lit (.int .u8 0), .lit (.int .u8 1), .lit (.int .u8 1)], .agg [.lit (.string [115, 101, 116]), .lit (.int .u8 0), .lit (.int .u8 2), .lit (.int .u8 0)], .agg [.lit (.string [118, 97, 114]), .lit (.int .u8 0), .lit (.int .u8 1), .lit (.int .u8 1)], .agg [.lit (.string [116, 97, 107, 101]), .lit (.int .u8 0), .lit (.int .u8 1), .lit (.int .u8 1)], .agg [.lit (.string [112, 117, 116]), .lit (.int .u8 0), .lit (.int .u8 2), .lit (.int .u8 0)], .agg [.lit (.string [102, 111, 114, 107]), .lit (.int .u8 4), .lit (.int .u8 3), .lit (.int .u8 1)], .agg [.lit (.string [119, 97, 105, 116]), .lit (.int .u8 0), .lit (.int .u8 1), .lit (.int .u8 1)], .agg [.lit (.string [115, 99, 111, 112, 101]), .lit (.int .u8 4), .lit (.int .u8 4), .lit (.int .u8 1)], .agg [.lit (.string [111, 117, 116]), .lit (.int .u8 0), .lit (.int .u8 2), .lit (.int .u8 0)], .agg [.lit (.string [100, 114, 111, 112]), .lit (.int .u8 0), .lit (.int .u8 1), .lit (.int .u8 0)], .agg [.lit (.string [108, 105, 102, 116]), .lit (.int .u8 0), .lit (.int .u8 1), .lit (.int .u8 0)], .agg [.lit (.string [108, 101, 115, 115]), .lit (.int .u8 5), .lit (.int .u8 0), .lit (.int .u8 0)], .agg [.lit (.string [103, 97, 116, 101]), .lit (.int .u8 4), .lit (.int .u8 1), .lit (.int .u8 1)], .agg [.lit (.string [101, 110, 116, 101, 114]), .lit (.int .u8 0), .lit (.int .u8 2), .lit (.int .u8 1)], .agg [.lit (.string [111, 119, 110]), .lit (.int .u8 0), .lit (.int .u8 0), .lit (.int .u8 1)]]
/-- One of Go's own tables, pinned by name: the form's constant. -/
def laid_unicode_utf8_first : DataW Unit := Go.Pinned.utf8First

/-- 'lazarettolaw18.SysFloats': WHATEVER THE INPUT: true; the input reads as it did. -/
def sysFloatsSpec : ChangeSpec := { name := "sysFloats", fn := fun _ => fun
  | [d1, d2, d3, d4] => { results := [.lit (.bool true)], args := [d1, d2, d3, d4] }
  | _ => none }
def sysFloatsRow : OpenClaim := { program := "ytjpgfgajkjhonaagreatdoor", sum := "7310ca5bb0846603cfa2cc1a6c887935dcbcd1e4b61ebfe0dfe92c2b449007bc", func := "lazaretto/lazarettolaw18.SysFloats", spec := "sysFloats", inPlace := ["internal/bytealg.IndexByteString", "internal/bytealg.IndexString", "internal/abi.NoEscape", "internal/bytealg.abigen_runtime_cmpstring", "slices.overlaps[string]"], unfollowed := true, recurses := true, named := ["lazaretto/op.table", "strconv.ErrSyntax", "strconv.ErrRange", "internal/strconv.uint64pow10", "math/bits.deBruijn32tab", "math/bits.deBruijn64tab", "unicode/utf8.first", "unicode/utf8.acceptRanges", "internal/bytealg.MaxLen"], plainKeys := false, apart := false, laid := [("math/bits.deBruijn32tab", laid_math_bits_deBruijn32tab), ("math/bits.deBruijn64tab", laid_math_bits_deBruijn64tab), ("internal/strconv.uint64pow10", laid_internal_strconv_uint64pow10), ("unicode/utf8.acceptRanges", laid_unicode_utf8_acceptRanges), ("strconv.ErrRange", laid_strconv_ErrRange), ("strconv.ErrSyntax", laid_strconv_ErrSyntax), ("lazaretto/op.table", laid_lazaretto_op_table), ("unicode/utf8.first", laid_unicode_utf8_first)] }
def SysFloatsSaid : Prop := sysFloatsRow.holds Tryz.pinned (OpenSpec.ofChange sysFloatsSpec)

/-- ITS FALSE NEIGHBOUR: 'it returns false'. Refute it at one input. -/
def sysFloatsWrong : ChangeSpec := { name := "sysFloats", fn := fun _ => fun
  | [d1, d2, d3, d4] => { results := [.lit (.bool false)], args := [d1, d2, d3, d4] }
  | _ => none }
def SysFloatsWrongFalsely : Prop := sysFloatsRow.holds Tryz.pinned (OpenSpec.ofChange sysFloatsWrong)

/-- 'lazarettolaw18.SysEnds': WHATEVER THE INPUT: true; the input reads as it did. -/
def sysEndsSpec : ChangeSpec := { name := "sysEnds", fn := fun _ => fun
  | [d1, d2, d3, d4] => { results := [.lit (.bool true)], args := [d1, d2, d3, d4] }
  | _ => none }
def sysEndsRow : OpenClaim := { program := "ytjpgfgajkjhonaagreatdoor", sum := "7310ca5bb0846603cfa2cc1a6c887935dcbcd1e4b61ebfe0dfe92c2b449007bc", func := "lazaretto/lazarettolaw18.SysEnds", spec := "sysEnds", inPlace := ["internal/bytealg.IndexByteString", "internal/bytealg.IndexString", "internal/abi.NoEscape", "internal/bytealg.abigen_runtime_cmpstring", "slices.overlaps[string]"], unfollowed := true, recurses := true, named := ["lazaretto/op.table", "strconv.ErrSyntax", "strconv.ErrRange", "internal/strconv.uint64pow10", "math/bits.deBruijn32tab", "math/bits.deBruijn64tab", "unicode/utf8.first", "unicode/utf8.acceptRanges", "internal/bytealg.MaxLen"], plainKeys := false, apart := false, laid := [("math/bits.deBruijn32tab", laid_math_bits_deBruijn32tab), ("math/bits.deBruijn64tab", laid_math_bits_deBruijn64tab), ("internal/strconv.uint64pow10", laid_internal_strconv_uint64pow10), ("unicode/utf8.acceptRanges", laid_unicode_utf8_acceptRanges), ("strconv.ErrRange", laid_strconv_ErrRange), ("strconv.ErrSyntax", laid_strconv_ErrSyntax), ("lazaretto/op.table", laid_lazaretto_op_table), ("unicode/utf8.first", laid_unicode_utf8_first)] }
def SysEndsSaid : Prop := sysEndsRow.holds Tryz.pinned (OpenSpec.ofChange sysEndsSpec)

/-- ITS FALSE NEIGHBOUR: 'it returns false'. Refute it at one input. -/
def sysEndsWrong : ChangeSpec := { name := "sysEnds", fn := fun _ => fun
  | [d1, d2, d3, d4] => { results := [.lit (.bool false)], args := [d1, d2, d3, d4] }
  | _ => none }
def SysEndsWrongFalsely : Prop := sysEndsRow.holds Tryz.pinned (OpenSpec.ofChange sysEndsWrong)

/-- 'lazarettolaw18.SysThrows': WHATEVER THE INPUT: true; the input reads as it did. -/
def sysThrowsSpec : ChangeSpec := { name := "sysThrows", fn := fun _ => fun
  | [d1, d2, d3, d4] => { results := [.lit (.bool true)], args := [d1, d2, d3, d4] }
  | _ => none }
def sysThrowsRow : OpenClaim := { program := "ytjpgfgajkjhonaagreatdoor", sum := "7310ca5bb0846603cfa2cc1a6c887935dcbcd1e4b61ebfe0dfe92c2b449007bc", func := "lazaretto/lazarettolaw18.SysThrows", spec := "sysThrows", inPlace := ["internal/bytealg.IndexByteString", "internal/bytealg.IndexString", "internal/abi.NoEscape", "internal/bytealg.abigen_runtime_cmpstring", "slices.overlaps[string]"], unfollowed := true, recurses := true, named := ["lazaretto/op.table", "strconv.ErrSyntax", "strconv.ErrRange", "internal/strconv.uint64pow10", "math/bits.deBruijn32tab", "math/bits.deBruijn64tab", "unicode/utf8.first", "unicode/utf8.acceptRanges", "internal/bytealg.MaxLen"], plainKeys := false, apart := false, laid := [("math/bits.deBruijn32tab", laid_math_bits_deBruijn32tab), ("math/bits.deBruijn64tab", laid_math_bits_deBruijn64tab), ("internal/strconv.uint64pow10", laid_internal_strconv_uint64pow10), ("unicode/utf8.acceptRanges", laid_unicode_utf8_acceptRanges), ("strconv.ErrRange", laid_strconv_ErrRange), ("strconv.ErrSyntax", laid_strconv_ErrSyntax), ("lazaretto/op.table", laid_lazaretto_op_table), ("unicode/utf8.first", laid_unicode_utf8_first)] }
def SysThrowsSaid : Prop := sysThrowsRow.holds Tryz.pinned (OpenSpec.ofChange sysThrowsSpec)

/-- ITS FALSE NEIGHBOUR: 'it returns false'. Refute it at one input. -/
def sysThrowsWrong : ChangeSpec := { name := "sysThrows", fn := fun _ => fun
  | [d1, d2, d3, d4] => { results := [.lit (.bool false)], args := [d1, d2, d3, d4] }
  | _ => none }
def SysThrowsWrongFalsely : Prop := sysThrowsRow.holds Tryz.pinned (OpenSpec.ofChange sysThrowsWrong)

/-- 'lazarettolaw18.SysHidden': WHATEVER THE INPUT: true; the input reads as it did. -/
def sysHiddenSpec : ChangeSpec := { name := "sysHidden", fn := fun _ => fun
  | [d1, d2, d3, d4, d5] => { results := [.lit (.bool true)], args := [d1, d2, d3, d4, d5] }
  | _ => none }
def sysHiddenRow : OpenClaim := { program := "ytjpgfgajkjhonaagreatdoor", sum := "7310ca5bb0846603cfa2cc1a6c887935dcbcd1e4b61ebfe0dfe92c2b449007bc", func := "lazaretto/lazarettolaw18.SysHidden", spec := "sysHidden", inPlace := ["internal/bytealg.IndexByteString", "internal/bytealg.IndexString", "internal/abi.NoEscape", "internal/bytealg.abigen_runtime_cmpstring", "slices.overlaps[string]", "maps.clone"], unfollowed := true, recurses := true, named := ["lazaretto/op.table", "strconv.ErrSyntax", "strconv.ErrRange", "internal/strconv.uint64pow10", "math/bits.deBruijn32tab", "math/bits.deBruijn64tab", "unicode/utf8.first", "unicode/utf8.acceptRanges", "internal/bytealg.MaxLen"], plainKeys := false, apart := false, laid := [("math/bits.deBruijn32tab", laid_math_bits_deBruijn32tab), ("math/bits.deBruijn64tab", laid_math_bits_deBruijn64tab), ("internal/strconv.uint64pow10", laid_internal_strconv_uint64pow10), ("unicode/utf8.acceptRanges", laid_unicode_utf8_acceptRanges), ("strconv.ErrRange", laid_strconv_ErrRange), ("strconv.ErrSyntax", laid_strconv_ErrSyntax), ("lazaretto/op.table", laid_lazaretto_op_table), ("unicode/utf8.first", laid_unicode_utf8_first)] }
def SysHiddenSaid : Prop := sysHiddenRow.holds Tryz.pinned (OpenSpec.ofChange sysHiddenSpec)

/-- ITS FALSE NEIGHBOUR: 'it returns false'. Refute it at one input. -/
def sysHiddenWrong : ChangeSpec := { name := "sysHidden", fn := fun _ => fun
  | [d1, d2, d3, d4, d5] => { results := [.lit (.bool false)], args := [d1, d2, d3, d4, d5] }
  | _ => none }
def SysHiddenWrongFalsely : Prop := sysHiddenRow.holds Tryz.pinned (OpenSpec.ofChange sysHiddenWrong)

/-- 'lazarettolaw18.SysRooms': WHATEVER THE INPUT: true; the input reads as it did. -/
def sysRoomsSpec : ChangeSpec := { name := "sysRooms", fn := fun _ => fun
  | [d1, d2, d3, d4] => { results := [.lit (.bool true)], args := [d1, d2, d3, d4] }
  | _ => none }
def sysRoomsRow : OpenClaim := { program := "ytjpgfgajkjhonaagreatdoor", sum := "7310ca5bb0846603cfa2cc1a6c887935dcbcd1e4b61ebfe0dfe92c2b449007bc", func := "lazaretto/lazarettolaw18.SysRooms", spec := "sysRooms", inPlace := ["internal/bytealg.IndexByteString", "internal/bytealg.IndexString", "internal/abi.NoEscape", "internal/bytealg.abigen_runtime_cmpstring", "slices.overlaps[string]", "maps.clone"], unfollowed := true, recurses := true, named := ["lazaretto/op.table", "strconv.ErrSyntax", "strconv.ErrRange", "internal/strconv.uint64pow10", "math/bits.deBruijn32tab", "math/bits.deBruijn64tab", "unicode/utf8.first", "unicode/utf8.acceptRanges", "internal/bytealg.MaxLen"], plainKeys := false, apart := false, laid := [("math/bits.deBruijn32tab", laid_math_bits_deBruijn32tab), ("math/bits.deBruijn64tab", laid_math_bits_deBruijn64tab), ("internal/strconv.uint64pow10", laid_internal_strconv_uint64pow10), ("unicode/utf8.acceptRanges", laid_unicode_utf8_acceptRanges), ("strconv.ErrRange", laid_strconv_ErrRange), ("strconv.ErrSyntax", laid_strconv_ErrSyntax), ("lazaretto/op.table", laid_lazaretto_op_table), ("unicode/utf8.first", laid_unicode_utf8_first)] }
def SysRoomsSaid : Prop := sysRoomsRow.holds Tryz.pinned (OpenSpec.ofChange sysRoomsSpec)

/-- ITS FALSE NEIGHBOUR: 'it returns false'. Refute it at one input. -/
def sysRoomsWrong : ChangeSpec := { name := "sysRooms", fn := fun _ => fun
  | [d1, d2, d3, d4] => { results := [.lit (.bool false)], args := [d1, d2, d3, d4] }
  | _ => none }
def SysRoomsWrongFalsely : Prop := sysRoomsRow.holds Tryz.pinned (OpenSpec.ofChange sysRoomsWrong)

/-- 'lazarettolaw18.SysWrites': WHATEVER THE INPUT: true; the input reads as it did. -/
def sysWritesSpec : ChangeSpec := { name := "sysWrites", fn := fun _ => fun
  | [d1, d2, d3, d4] => { results := [.lit (.bool true)], args := [d1, d2, d3, d4] }
  | _ => none }
def sysWritesRow : OpenClaim := { program := "ytjpgfgajkjhonaagreatdoor", sum := "7310ca5bb0846603cfa2cc1a6c887935dcbcd1e4b61ebfe0dfe92c2b449007bc", func := "lazaretto/lazarettolaw18.SysWrites", spec := "sysWrites", inPlace := ["internal/bytealg.IndexByteString", "internal/bytealg.IndexString", "internal/abi.NoEscape", "internal/bytealg.abigen_runtime_cmpstring", "slices.overlaps[string]", "maps.clone"], unfollowed := true, recurses := true, named := ["lazaretto/op.table", "strconv.ErrSyntax", "strconv.ErrRange", "internal/strconv.uint64pow10", "math/bits.deBruijn32tab", "math/bits.deBruijn64tab", "unicode/utf8.first", "unicode/utf8.acceptRanges", "internal/bytealg.MaxLen"], plainKeys := false, apart := false, laid := [("math/bits.deBruijn32tab", laid_math_bits_deBruijn32tab), ("math/bits.deBruijn64tab", laid_math_bits_deBruijn64tab), ("internal/strconv.uint64pow10", laid_internal_strconv_uint64pow10), ("unicode/utf8.acceptRanges", laid_unicode_utf8_acceptRanges), ("strconv.ErrRange", laid_strconv_ErrRange), ("strconv.ErrSyntax", laid_strconv_ErrSyntax), ("lazaretto/op.table", laid_lazaretto_op_table), ("unicode/utf8.first", laid_unicode_utf8_first)] }
def SysWritesSaid : Prop := sysWritesRow.holds Tryz.pinned (OpenSpec.ofChange sysWritesSpec)

/-- ITS FALSE NEIGHBOUR: 'it returns false'. Refute it at one input. -/
def sysWritesWrong : ChangeSpec := { name := "sysWrites", fn := fun _ => fun
  | [d1, d2, d3, d4] => { results := [.lit (.bool false)], args := [d1, d2, d3, d4] }
  | _ => none }
def SysWritesWrongFalsely : Prop := sysWritesRow.holds Tryz.pinned (OpenSpec.ofChange sysWritesWrong)

/- THE SECOND FORM. 'bulk': how many values and letters a reading holds, each counted each time it is reached (what is shared counts as often as it is met; a slice's spare places count too). A statement '..UptoSaid' is the law's where the arguments, and the package variables that the reading takes, are together of bulk at most 1048576: NARROWER than '..Said'. Prove '..Said' where nothing that the law and all that it calls make is longer than what came in: it says more and counts as full. Else prove '..UptoSaid'. A law counts once. -/
mutual
def uptoBulk {H : Type} : DataW H → Nat
  | .lit (.string bytes) => bytes.length + 1
  | .lit _ => 1
  | .nil => 1
  | .ptr d => uptoBulk d + 1
  | .slice elems spare => uptoBulkAll elems + uptoBulkAll spare + 1
  | .agg parts => uptoBulkAll parts + 1
  | .iface _ d => uptoBulk d + 1
  | .map entries => uptoBulkEntries entries + 1
  | .held _ => 1
def uptoBulkAll {H : Type} : List (DataW H) → Nat
  | [] => 0
  | d :: r => uptoBulk d + uptoBulkAll r
def uptoBulkEntries {H : Type} : List (Lit × DataW H) → Nat
  | [] => 0
  | x :: r => uptoBulkEntry x + uptoBulkEntries r
def uptoBulkEntry {H : Type} : Lit × DataW H → Nat
  | (.string bytes, d) => bytes.length + uptoBulk d + 1
  | (_, d) => uptoBulk d + 1
 end
def uptoSmall : (H : Type) → List (DataW H) → Bool := fun _ ds => decide (uptoBulkAll ds ≤ 1048576)
def OpenSpec.upto (s : _root_.Go.ChangeSpec) : _root_.Go.OpenSpec := { _root_.Go.OpenSpec.ofChange s with cond := some uptoSmall }

/-- 'lazarettolaw18.SysFloats', WHERE WHAT IT READS IS OF BULK AT MOST 1048576: true; the input reads as it did. -/
def sysFloatsUptoRow : OpenClaim := { program := "ytjpgfgajkjhonaagreatdoor", sum := "7310ca5bb0846603cfa2cc1a6c887935dcbcd1e4b61ebfe0dfe92c2b449007bc", func := "lazaretto/lazarettolaw18.SysFloats", spec := "sysFloats", inPlace := ["internal/bytealg.IndexByteString", "internal/bytealg.IndexString", "internal/abi.NoEscape", "internal/bytealg.abigen_runtime_cmpstring", "slices.overlaps[string]"], unfollowed := true, recurses := true, named := ["lazaretto/op.table", "strconv.ErrSyntax", "strconv.ErrRange", "internal/strconv.uint64pow10", "math/bits.deBruijn32tab", "math/bits.deBruijn64tab", "unicode/utf8.first", "unicode/utf8.acceptRanges", "internal/bytealg.MaxLen"], plainKeys := false, apart := false, laid := [("math/bits.deBruijn32tab", laid_math_bits_deBruijn32tab), ("math/bits.deBruijn64tab", laid_math_bits_deBruijn64tab), ("internal/strconv.uint64pow10", laid_internal_strconv_uint64pow10), ("unicode/utf8.acceptRanges", laid_unicode_utf8_acceptRanges), ("strconv.ErrRange", laid_strconv_ErrRange), ("strconv.ErrSyntax", laid_strconv_ErrSyntax), ("lazaretto/op.table", laid_lazaretto_op_table), ("unicode/utf8.first", laid_unicode_utf8_first)], narrowed := true }
def SysFloatsUptoSaid : Prop := sysFloatsUptoRow.holds Tryz.pinned (OpenSpec.upto sysFloatsSpec)

/-- 'lazarettolaw18.SysEnds', WHERE WHAT IT READS IS OF BULK AT MOST 1048576: true; the input reads as it did. -/
def sysEndsUptoRow : OpenClaim := { program := "ytjpgfgajkjhonaagreatdoor", sum := "7310ca5bb0846603cfa2cc1a6c887935dcbcd1e4b61ebfe0dfe92c2b449007bc", func := "lazaretto/lazarettolaw18.SysEnds", spec := "sysEnds", inPlace := ["internal/bytealg.IndexByteString", "internal/bytealg.IndexString", "internal/abi.NoEscape", "internal/bytealg.abigen_runtime_cmpstring", "slices.overlaps[string]"], unfollowed := true, recurses := true, named := ["lazaretto/op.table", "strconv.ErrSyntax", "strconv.ErrRange", "internal/strconv.uint64pow10", "math/bits.deBruijn32tab", "math/bits.deBruijn64tab", "unicode/utf8.first", "unicode/utf8.acceptRanges", "internal/bytealg.MaxLen"], plainKeys := false, apart := false, laid := [("math/bits.deBruijn32tab", laid_math_bits_deBruijn32tab), ("math/bits.deBruijn64tab", laid_math_bits_deBruijn64tab), ("internal/strconv.uint64pow10", laid_internal_strconv_uint64pow10), ("unicode/utf8.acceptRanges", laid_unicode_utf8_acceptRanges), ("strconv.ErrRange", laid_strconv_ErrRange), ("strconv.ErrSyntax", laid_strconv_ErrSyntax), ("lazaretto/op.table", laid_lazaretto_op_table), ("unicode/utf8.first", laid_unicode_utf8_first)], narrowed := true }
def SysEndsUptoSaid : Prop := sysEndsUptoRow.holds Tryz.pinned (OpenSpec.upto sysEndsSpec)

/-- 'lazarettolaw18.SysThrows', WHERE WHAT IT READS IS OF BULK AT MOST 1048576: true; the input reads as it did. -/
def sysThrowsUptoRow : OpenClaim := { program := "ytjpgfgajkjhonaagreatdoor", sum := "7310ca5bb0846603cfa2cc1a6c887935dcbcd1e4b61ebfe0dfe92c2b449007bc", func := "lazaretto/lazarettolaw18.SysThrows", spec := "sysThrows", inPlace := ["internal/bytealg.IndexByteString", "internal/bytealg.IndexString", "internal/abi.NoEscape", "internal/bytealg.abigen_runtime_cmpstring", "slices.overlaps[string]"], unfollowed := true, recurses := true, named := ["lazaretto/op.table", "strconv.ErrSyntax", "strconv.ErrRange", "internal/strconv.uint64pow10", "math/bits.deBruijn32tab", "math/bits.deBruijn64tab", "unicode/utf8.first", "unicode/utf8.acceptRanges", "internal/bytealg.MaxLen"], plainKeys := false, apart := false, laid := [("math/bits.deBruijn32tab", laid_math_bits_deBruijn32tab), ("math/bits.deBruijn64tab", laid_math_bits_deBruijn64tab), ("internal/strconv.uint64pow10", laid_internal_strconv_uint64pow10), ("unicode/utf8.acceptRanges", laid_unicode_utf8_acceptRanges), ("strconv.ErrRange", laid_strconv_ErrRange), ("strconv.ErrSyntax", laid_strconv_ErrSyntax), ("lazaretto/op.table", laid_lazaretto_op_table), ("unicode/utf8.first", laid_unicode_utf8_first)], narrowed := true }
def SysThrowsUptoSaid : Prop := sysThrowsUptoRow.holds Tryz.pinned (OpenSpec.upto sysThrowsSpec)

/-- 'lazarettolaw18.SysHidden', WHERE WHAT IT READS IS OF BULK AT MOST 1048576: true; the input reads as it did. -/
def sysHiddenUptoRow : OpenClaim := { program := "ytjpgfgajkjhonaagreatdoor", sum := "7310ca5bb0846603cfa2cc1a6c887935dcbcd1e4b61ebfe0dfe92c2b449007bc", func := "lazaretto/lazarettolaw18.SysHidden", spec := "sysHidden", inPlace := ["internal/bytealg.IndexByteString", "internal/bytealg.IndexString", "internal/abi.NoEscape", "internal/bytealg.abigen_runtime_cmpstring", "slices.overlaps[string]", "maps.clone"], unfollowed := true, recurses := true, named := ["lazaretto/op.table", "strconv.ErrSyntax", "strconv.ErrRange", "internal/strconv.uint64pow10", "math/bits.deBruijn32tab", "math/bits.deBruijn64tab", "unicode/utf8.first", "unicode/utf8.acceptRanges", "internal/bytealg.MaxLen"], plainKeys := false, apart := false, laid := [("math/bits.deBruijn32tab", laid_math_bits_deBruijn32tab), ("math/bits.deBruijn64tab", laid_math_bits_deBruijn64tab), ("internal/strconv.uint64pow10", laid_internal_strconv_uint64pow10), ("unicode/utf8.acceptRanges", laid_unicode_utf8_acceptRanges), ("strconv.ErrRange", laid_strconv_ErrRange), ("strconv.ErrSyntax", laid_strconv_ErrSyntax), ("lazaretto/op.table", laid_lazaretto_op_table), ("unicode/utf8.first", laid_unicode_utf8_first)], narrowed := true }
def SysHiddenUptoSaid : Prop := sysHiddenUptoRow.holds Tryz.pinned (OpenSpec.upto sysHiddenSpec)

/-- 'lazarettolaw18.SysRooms', WHERE WHAT IT READS IS OF BULK AT MOST 1048576: true; the input reads as it did. -/
def sysRoomsUptoRow : OpenClaim := { program := "ytjpgfgajkjhonaagreatdoor", sum := "7310ca5bb0846603cfa2cc1a6c887935dcbcd1e4b61ebfe0dfe92c2b449007bc", func := "lazaretto/lazarettolaw18.SysRooms", spec := "sysRooms", inPlace := ["internal/bytealg.IndexByteString", "internal/bytealg.IndexString", "internal/abi.NoEscape", "internal/bytealg.abigen_runtime_cmpstring", "slices.overlaps[string]", "maps.clone"], unfollowed := true, recurses := true, named := ["lazaretto/op.table", "strconv.ErrSyntax", "strconv.ErrRange", "internal/strconv.uint64pow10", "math/bits.deBruijn32tab", "math/bits.deBruijn64tab", "unicode/utf8.first", "unicode/utf8.acceptRanges", "internal/bytealg.MaxLen"], plainKeys := false, apart := false, laid := [("math/bits.deBruijn32tab", laid_math_bits_deBruijn32tab), ("math/bits.deBruijn64tab", laid_math_bits_deBruijn64tab), ("internal/strconv.uint64pow10", laid_internal_strconv_uint64pow10), ("unicode/utf8.acceptRanges", laid_unicode_utf8_acceptRanges), ("strconv.ErrRange", laid_strconv_ErrRange), ("strconv.ErrSyntax", laid_strconv_ErrSyntax), ("lazaretto/op.table", laid_lazaretto_op_table), ("unicode/utf8.first", laid_unicode_utf8_first)], narrowed := true }
def SysRoomsUptoSaid : Prop := sysRoomsUptoRow.holds Tryz.pinned (OpenSpec.upto sysRoomsSpec)

/-- 'lazarettolaw18.SysWrites', WHERE WHAT IT READS IS OF BULK AT MOST 1048576: true; the input reads as it did. -/
def sysWritesUptoRow : OpenClaim := { program := "ytjpgfgajkjhonaagreatdoor", sum := "7310ca5bb0846603cfa2cc1a6c887935dcbcd1e4b61ebfe0dfe92c2b449007bc", func := "lazaretto/lazarettolaw18.SysWrites", spec := "sysWrites", inPlace := ["internal/bytealg.IndexByteString", "internal/bytealg.IndexString", "internal/abi.NoEscape", "internal/bytealg.abigen_runtime_cmpstring", "slices.overlaps[string]", "maps.clone"], unfollowed := true, recurses := true, named := ["lazaretto/op.table", "strconv.ErrSyntax", "strconv.ErrRange", "internal/strconv.uint64pow10", "math/bits.deBruijn32tab", "math/bits.deBruijn64tab", "unicode/utf8.first", "unicode/utf8.acceptRanges", "internal/bytealg.MaxLen"], plainKeys := false, apart := false, laid := [("math/bits.deBruijn32tab", laid_math_bits_deBruijn32tab), ("math/bits.deBruijn64tab", laid_math_bits_deBruijn64tab), ("internal/strconv.uint64pow10", laid_internal_strconv_uint64pow10), ("unicode/utf8.acceptRanges", laid_unicode_utf8_acceptRanges), ("strconv.ErrRange", laid_strconv_ErrRange), ("strconv.ErrSyntax", laid_strconv_ErrSyntax), ("lazaretto/op.table", laid_lazaretto_op_table), ("unicode/utf8.first", laid_unicode_utf8_first)], narrowed := true }
def SysWritesUptoSaid : Prop := sysWritesUptoRow.holds Tryz.pinned (OpenSpec.upto sysWritesSpec)

end Rows
end Go.Proofs.YtjpgfgajkjhonaaGreatDoor
