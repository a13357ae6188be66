/-
  NARROWER THAN 'FOR EVERY INPUT', by the rows' own cells (each row's printed sentence says how): VolumeEver: laid · VolumeLinks: laid · VolumeLines: laid · VolumeLives: laid · VolumeWords: laid · VolumeBytes: laid · VolumeNames: laid · VolumeOrder: laid.
  DERIVED. THE GIVEN ROWS OF THIS SEAT. 8 by the template 'for every input the law returns true; each argument reads behind the call as it read before'; 0 by the template 'total and deterministic' (their statements: YtjkmdpejcgepkaaGreatDoorTotals.lean).
  GIVEN WITH THE SEED: the statements are not yours to turn. If you find one false, say at which input.
  Laid BY PROGRAM, IN A SANDBOX (cutbox-rows.mjs): the forced cells as the released guide's own fill.sh prints them over the translation 46714306021c3a00… (all of the seat's roots in one cut). By AI agents, Wed Nov 11 2026. No macro, syntax, notation, axiom, sorry.
-/
import Derived.Test.YtjkmdpejcgepkaaGreatDoorChecked
import GoSem.Claim
import GoSem.ClaimJoined
import GoSem.ClaimMapViews
import Derived.JoinedTies
import Derived.KernelRfl
namespace Go.Proofs.YtjkmdpejcgepkaaGreatDoor
/- THE CELL 'sum', in the pinned program and in every row, IS THE sha256 OF THE DUMP (.gsa) THAT YtjkmdpejcgepkaaGreatDoorProg.lean LOADS. Nothing in Lean hashes anything: it is a label: what it is worth is what the hold of that sum in a sandbox is worth. -/
noncomputable def Tryz.pinned : Pinned := { name := "ytjkmdpejcgepkaagreatdoor", sum := "46714306021c3a00893236c02d5fa8966d17a1ed40463797cfbd93b28f7b7c55", checked := Tryz.checked }
namespace Rows
def none {H : Type} : Left H := { results := [], args := [] }

/- WHAT THE LISTED PACKAGE-LEVEL VARIABLES READ AS WHEN THE CALL BEGINS. Each datum BY PROGRAM (the guide's laid-datum.mjs) off the statement by which the dump's own 'gosem.cut.vars' lays the variable. In a bare row this is a premise. The card (YtjkmdpejcgepkaaGreatDoorCards.lean) ties it to the program's text. -/
def laid_math_bits_deBruijn32tab {H : Type} : DataW H := .agg [.lit (.int .u8 0), .lit (.int .u8 1), .lit (.int .u8 28), .lit (.int .u8 2), .lit (.int .u8 29), .lit (.int .u8 14), .lit (.int .u8 24), .lit (.int .u8 3), .lit (.int .u8 30), .lit (.int .u8 22), .lit (.int .u8 20), .lit (.int .u8 15), .lit (.int .u8 25), .lit (.int .u8 17), .lit (.int .u8 4), .lit (.int .u8 8), .lit (.int .u8 31), .lit (.int .u8 27), .lit (.int .u8 13), .lit (.int .u8 23), .lit (.int .u8 21), .lit (.int .u8 19), .lit (.int .u8 16), .lit (.int .u8 7), .lit (.int .u8 26), .lit (.int .u8 12), .lit (.int .u8 18), .lit (.int .u8 6), .lit (.int .u8 11), .lit (.int .u8 5), .lit (.int .u8 10), .lit (.int .u8 9)]
def laid_math_bits_deBruijn64tab {H : Type} : DataW H := .agg [.lit (.int .u8 0), .lit (.int .u8 1), .lit (.int .u8 56), .lit (.int .u8 2), .lit (.int .u8 57), .lit (.int .u8 49), .lit (.int .u8 28), .lit (.int .u8 3), .lit (.int .u8 61), .lit (.int .u8 58), .lit (.int .u8 42), .lit (.int .u8 50), .lit (.int .u8 38), .lit (.int .u8 29), .lit (.int .u8 17), .lit (.int .u8 4), .lit (.int .u8 62), .lit (.int .u8 47), .lit (.int .u8 59), .lit (.int .u8 36), .lit (.int .u8 45), .lit (.int .u8 43), .lit (.int .u8 51), .lit (.int .u8 22), .lit (.int .u8 53), .lit (.int .u8 39), .lit (.int .u8 33), .lit (.int .u8 30), .lit (.int .u8 24), .lit (.int .u8 18), .lit (.int .u8 12), .lit (.int .u8 5), .lit (.int .u8 63), .lit (.int .u8 55), .lit (.int .u8 48), .lit (.int .u8 27), .lit (.int .u8 60), .lit (.int .u8 41), .lit (.int .u8 37), .lit (.int .u8 16), .lit (.int .u8 46), .lit (.int .u8 35), .lit (.int .u8 44), .lit (.int .u8 21), .lit (.int .u8 52), .lit (.int .u8 32), .lit (.int .u8 23), .lit (.int .u8 11), .lit (.int .u8 54), .lit (.int .u8 26), .lit (.int .u8 40), .lit (.int .u8 15), .lit (.int .u8 34), .lit (.int .u8 20), .lit (.int .u8 31), .lit (.int .u8 10), .lit (.int .u8 25), .lit (.int .u8 14), .lit (.int .u8 19), .lit (.int .u8 9), .lit (.int .u8 13), .lit (.int .u8 8), .lit (.int .u8 7), .lit (.int .u8 6)]
def laid_internal_strconv_uint64pow10 {H : Type} : DataW H := .agg [.lit (.int .u64 1), .lit (.int .u64 10), .lit (.int .u64 100), .lit (.int .u64 1000), .lit (.int .u64 10000), .lit (.int .u64 100000), .lit (.int .u64 1000000), .lit (.int .u64 10000000), .lit (.int .u64 100000000), .lit (.int .u64 1000000000), .lit (.int .u64 10000000000), .lit (.int .u64 100000000000), .lit (.int .u64 1000000000000), .lit (.int .u64 10000000000000), .lit (.int .u64 100000000000000), .lit (.int .u64 1000000000000000), .lit (.int .u64 10000000000000000), .lit (.int .u64 100000000000000000), .lit (.int .u64 1000000000000000000), .lit (.int .u64 10000000000000000000)]
def laid_strconv_ErrRange {H : Type} : DataW H := .iface "*errors.errorString" (.ptr (.agg [.lit (.string [118, 97, 108, 117, 101, 32, 111, 117, 116, 32, 111, 102, 32, 114, 97, 110, 103, 101])]))
def laid_strconv_ErrSyntax {H : Type} : DataW H := .iface "*errors.errorString" (.ptr (.agg [.lit (.string [105, 110, 118, 97, 108, 105, 100, 32, 115, 121, 110, 116, 97, 120])]))

/-- 'palantypelaw10.VolumeEver': WHATEVER THE INPUT: true; the input reads as it did. -/
def volumeEverSpec : ChangeSpec := { name := "volumeEver", fn := fun _ => fun
  | [d1, d2, d3, d4] => { results := [.lit (.bool true)], args := [d1, d2, d3, d4] }
  | _ => none }
def volumeEverRow : OpenClaim := { program := "ytjkmdpejcgepkaagreatdoor", sum := "46714306021c3a00893236c02d5fa8966d17a1ed40463797cfbd93b28f7b7c55", func := "palantype/palantypelaw10.VolumeEver", spec := "volumeEver", inPlace := ["slices.overlaps[palantype/volume.entry]", "internal/abi.NoEscape", "internal/bytealg.IndexByteString", "internal/bytealg.IndexString"], unfollowed := true, recurses := true, named := ["internal/strconv.uint64pow10", "math/bits.deBruijn32tab", "math/bits.deBruijn64tab", "internal/bytealg.MaxLen", "strconv.ErrSyntax", "strconv.ErrRange"], apart := false, laid := [("math/bits.deBruijn32tab", laid_math_bits_deBruijn32tab), ("math/bits.deBruijn64tab", laid_math_bits_deBruijn64tab), ("internal/strconv.uint64pow10", laid_internal_strconv_uint64pow10), ("strconv.ErrRange", laid_strconv_ErrRange), ("strconv.ErrSyntax", laid_strconv_ErrSyntax)] }
def VolumeEverSaid : Prop := volumeEverRow.holds Tryz.pinned (OpenSpec.ofChange volumeEverSpec)

/-- ITS FALSE NEIGHBOUR: 'it returns false'. Refute it at one input. -/
def volumeEverWrong : ChangeSpec := { name := "volumeEver", fn := fun _ => fun
  | [d1, d2, d3, d4] => { results := [.lit (.bool false)], args := [d1, d2, d3, d4] }
  | _ => none }
def VolumeEverWrongFalsely : Prop := volumeEverRow.holds Tryz.pinned (OpenSpec.ofChange volumeEverWrong)

/-- 'palantypelaw10.VolumeLinks': WHATEVER THE INPUT: true; the input reads as it did. -/
def volumeLinksSpec : ChangeSpec := { name := "volumeLinks", fn := fun _ => fun
  | [d1, d2, d3, d4, d5, d6] => { results := [.lit (.bool true)], args := [d1, d2, d3, d4, d5, d6] }
  | _ => none }
def volumeLinksRow : OpenClaim := { program := "ytjkmdpejcgepkaagreatdoor", sum := "46714306021c3a00893236c02d5fa8966d17a1ed40463797cfbd93b28f7b7c55", func := "palantype/palantypelaw10.VolumeLinks", spec := "volumeLinks", inPlace := ["slices.overlaps[palantype/volume.entry]", "internal/abi.NoEscape", "internal/bytealg.IndexByteString", "internal/bytealg.IndexString"], unfollowed := true, recurses := true, named := ["internal/strconv.uint64pow10", "math/bits.deBruijn32tab", "math/bits.deBruijn64tab", "internal/bytealg.MaxLen", "strconv.ErrSyntax", "strconv.ErrRange"], apart := false, laid := [("math/bits.deBruijn32tab", laid_math_bits_deBruijn32tab), ("math/bits.deBruijn64tab", laid_math_bits_deBruijn64tab), ("internal/strconv.uint64pow10", laid_internal_strconv_uint64pow10), ("strconv.ErrRange", laid_strconv_ErrRange), ("strconv.ErrSyntax", laid_strconv_ErrSyntax)] }
def VolumeLinksSaid : Prop := volumeLinksRow.holds Tryz.pinned (OpenSpec.ofChange volumeLinksSpec)

/-- ITS FALSE NEIGHBOUR: 'it returns false'. Refute it at one input. -/
def volumeLinksWrong : ChangeSpec := { name := "volumeLinks", fn := fun _ => fun
  | [d1, d2, d3, d4, d5, d6] => { results := [.lit (.bool false)], args := [d1, d2, d3, d4, d5, d6] }
  | _ => none }
def VolumeLinksWrongFalsely : Prop := volumeLinksRow.holds Tryz.pinned (OpenSpec.ofChange volumeLinksWrong)

/-- 'palantypelaw10.VolumeLines': WHATEVER THE INPUT: true; the input reads as it did. -/
def volumeLinesSpec : ChangeSpec := { name := "volumeLines", fn := fun _ => fun
  | [d1, d2] => { results := [.lit (.bool true)], args := [d1, d2] }
  | _ => none }
def volumeLinesRow : OpenClaim := { program := "ytjkmdpejcgepkaagreatdoor", sum := "46714306021c3a00893236c02d5fa8966d17a1ed40463797cfbd93b28f7b7c55", func := "palantype/palantypelaw10.VolumeLines", spec := "volumeLines", inPlace := ["slices.overlaps[palantype/volume.entry]", "internal/abi.NoEscape", "internal/bytealg.IndexByteString", "internal/bytealg.IndexString"], unfollowed := true, recurses := true, named := ["internal/strconv.uint64pow10", "math/bits.deBruijn32tab", "math/bits.deBruijn64tab", "internal/bytealg.MaxLen", "strconv.ErrSyntax", "strconv.ErrRange"], apart := false, laid := [("math/bits.deBruijn32tab", laid_math_bits_deBruijn32tab), ("math/bits.deBruijn64tab", laid_math_bits_deBruijn64tab), ("internal/strconv.uint64pow10", laid_internal_strconv_uint64pow10), ("strconv.ErrRange", laid_strconv_ErrRange), ("strconv.ErrSyntax", laid_strconv_ErrSyntax)] }
def VolumeLinesSaid : Prop := volumeLinesRow.holds Tryz.pinned (OpenSpec.ofChange volumeLinesSpec)

/-- ITS FALSE NEIGHBOUR: 'it returns false'. Refute it at one input. -/
def volumeLinesWrong : ChangeSpec := { name := "volumeLines", fn := fun _ => fun
  | [d1, d2] => { results := [.lit (.bool false)], args := [d1, d2] }
  | _ => none }
def VolumeLinesWrongFalsely : Prop := volumeLinesRow.holds Tryz.pinned (OpenSpec.ofChange volumeLinesWrong)

/-- 'palantypelaw10.VolumeLives': WHATEVER THE INPUT: true; the input reads as it did. -/
def volumeLivesSpec : ChangeSpec := { name := "volumeLives", fn := fun _ => fun
  | [d1, d2, d3, d4, d5] => { results := [.lit (.bool true)], args := [d1, d2, d3, d4, d5] }
  | _ => none }
def volumeLivesRow : OpenClaim := { program := "ytjkmdpejcgepkaagreatdoor", sum := "46714306021c3a00893236c02d5fa8966d17a1ed40463797cfbd93b28f7b7c55", func := "palantype/palantypelaw10.VolumeLives", spec := "volumeLives", inPlace := ["slices.overlaps[palantype/volume.entry]", "internal/abi.NoEscape", "internal/bytealg.IndexByteString", "internal/bytealg.IndexString"], unfollowed := true, recurses := true, named := ["internal/strconv.uint64pow10", "math/bits.deBruijn32tab", "math/bits.deBruijn64tab", "internal/bytealg.MaxLen", "strconv.ErrSyntax", "strconv.ErrRange"], apart := false, laid := [("math/bits.deBruijn32tab", laid_math_bits_deBruijn32tab), ("math/bits.deBruijn64tab", laid_math_bits_deBruijn64tab), ("internal/strconv.uint64pow10", laid_internal_strconv_uint64pow10), ("strconv.ErrRange", laid_strconv_ErrRange), ("strconv.ErrSyntax", laid_strconv_ErrSyntax)] }
def VolumeLivesSaid : Prop := volumeLivesRow.holds Tryz.pinned (OpenSpec.ofChange volumeLivesSpec)

/-- ITS FALSE NEIGHBOUR: 'it returns false'. Refute it at one input. -/
def volumeLivesWrong : ChangeSpec := { name := "volumeLives", fn := fun _ => fun
  | [d1, d2, d3, d4, d5] => { results := [.lit (.bool false)], args := [d1, d2, d3, d4, d5] }
  | _ => none }
def VolumeLivesWrongFalsely : Prop := volumeLivesRow.holds Tryz.pinned (OpenSpec.ofChange volumeLivesWrong)

/-- 'palantypelaw10.VolumeWords': WHATEVER THE INPUT: true; the input reads as it did. -/
def volumeWordsSpec : ChangeSpec := { name := "volumeWords", fn := fun _ => fun
  | [d1, d2, d3, d4] => { results := [.lit (.bool true)], args := [d1, d2, d3, d4] }
  | _ => none }
def volumeWordsRow : OpenClaim := { program := "ytjkmdpejcgepkaagreatdoor", sum := "46714306021c3a00893236c02d5fa8966d17a1ed40463797cfbd93b28f7b7c55", func := "palantype/palantypelaw10.VolumeWords", spec := "volumeWords", inPlace := ["slices.overlaps[palantype/volume.entry]", "internal/abi.NoEscape", "internal/bytealg.IndexByteString", "internal/bytealg.IndexString"], unfollowed := true, recurses := true, named := ["internal/strconv.uint64pow10", "math/bits.deBruijn32tab", "math/bits.deBruijn64tab", "internal/bytealg.MaxLen", "strconv.ErrSyntax", "strconv.ErrRange"], apart := false, laid := [("math/bits.deBruijn32tab", laid_math_bits_deBruijn32tab), ("math/bits.deBruijn64tab", laid_math_bits_deBruijn64tab), ("internal/strconv.uint64pow10", laid_internal_strconv_uint64pow10), ("strconv.ErrRange", laid_strconv_ErrRange), ("strconv.ErrSyntax", laid_strconv_ErrSyntax)] }
def VolumeWordsSaid : Prop := volumeWordsRow.holds Tryz.pinned (OpenSpec.ofChange volumeWordsSpec)

/-- ITS FALSE NEIGHBOUR: 'it returns false'. Refute it at one input. -/
def volumeWordsWrong : ChangeSpec := { name := "volumeWords", fn := fun _ => fun
  | [d1, d2, d3, d4] => { results := [.lit (.bool false)], args := [d1, d2, d3, d4] }
  | _ => none }
def VolumeWordsWrongFalsely : Prop := volumeWordsRow.holds Tryz.pinned (OpenSpec.ofChange volumeWordsWrong)

/-- 'palantypelaw10.VolumeBytes': WHATEVER THE INPUT: true; the input reads as it did. -/
def volumeBytesSpec : ChangeSpec := { name := "volumeBytes", fn := fun _ => fun
  | [d1, d2, d3, d4, d5, d6] => { results := [.lit (.bool true)], args := [d1, d2, d3, d4, d5, d6] }
  | _ => none }
def volumeBytesRow : OpenClaim := { program := "ytjkmdpejcgepkaagreatdoor", sum := "46714306021c3a00893236c02d5fa8966d17a1ed40463797cfbd93b28f7b7c55", func := "palantype/palantypelaw10.VolumeBytes", spec := "volumeBytes", inPlace := ["slices.overlaps[palantype/volume.entry]", "internal/abi.NoEscape", "internal/bytealg.IndexByteString", "internal/bytealg.IndexString"], unfollowed := true, recurses := true, named := ["internal/strconv.uint64pow10", "math/bits.deBruijn32tab", "math/bits.deBruijn64tab", "internal/bytealg.MaxLen", "strconv.ErrSyntax", "strconv.ErrRange"], apart := false, laid := [("math/bits.deBruijn32tab", laid_math_bits_deBruijn32tab), ("math/bits.deBruijn64tab", laid_math_bits_deBruijn64tab), ("internal/strconv.uint64pow10", laid_internal_strconv_uint64pow10), ("strconv.ErrRange", laid_strconv_ErrRange), ("strconv.ErrSyntax", laid_strconv_ErrSyntax)] }
def VolumeBytesSaid : Prop := volumeBytesRow.holds Tryz.pinned (OpenSpec.ofChange volumeBytesSpec)

/-- ITS FALSE NEIGHBOUR: 'it returns false'. Refute it at one input. -/
def volumeBytesWrong : ChangeSpec := { name := "volumeBytes", fn := fun _ => fun
  | [d1, d2, d3, d4, d5, d6] => { results := [.lit (.bool false)], args := [d1, d2, d3, d4, d5, d6] }
  | _ => none }
def VolumeBytesWrongFalsely : Prop := volumeBytesRow.holds Tryz.pinned (OpenSpec.ofChange volumeBytesWrong)

/-- 'palantypelaw10.VolumeNames': WHATEVER THE INPUT: true; the input reads as it did. -/
def volumeNamesSpec : ChangeSpec := { name := "volumeNames", fn := fun _ => fun
  | [] => { results := [.lit (.bool true)], args := [] }
  | _ => none }
def volumeNamesRow : OpenClaim := { program := "ytjkmdpejcgepkaagreatdoor", sum := "46714306021c3a00893236c02d5fa8966d17a1ed40463797cfbd93b28f7b7c55", func := "palantype/palantypelaw10.VolumeNames", spec := "volumeNames", inPlace := ["slices.overlaps[palantype/volume.entry]", "internal/abi.NoEscape", "internal/bytealg.IndexByteString", "internal/bytealg.IndexString"], unfollowed := true, recurses := true, named := ["internal/strconv.uint64pow10", "math/bits.deBruijn32tab", "math/bits.deBruijn64tab", "internal/bytealg.MaxLen", "strconv.ErrSyntax", "strconv.ErrRange"], apart := false, laid := [("math/bits.deBruijn32tab", laid_math_bits_deBruijn32tab), ("math/bits.deBruijn64tab", laid_math_bits_deBruijn64tab), ("internal/strconv.uint64pow10", laid_internal_strconv_uint64pow10), ("strconv.ErrRange", laid_strconv_ErrRange), ("strconv.ErrSyntax", laid_strconv_ErrSyntax)] }
def VolumeNamesSaid : Prop := volumeNamesRow.holds Tryz.pinned (OpenSpec.ofChange volumeNamesSpec)

/-- ITS FALSE NEIGHBOUR: 'it returns false'. Refute it at one input. -/
def volumeNamesWrong : ChangeSpec := { name := "volumeNames", fn := fun _ => fun
  | [] => { results := [.lit (.bool false)], args := [] }
  | _ => none }
def VolumeNamesWrongFalsely : Prop := volumeNamesRow.holds Tryz.pinned (OpenSpec.ofChange volumeNamesWrong)

/-- 'palantypelaw10.VolumeOrder': WHATEVER THE INPUT: true; the input reads as it did. -/
def volumeOrderSpec : ChangeSpec := { name := "volumeOrder", fn := fun _ => fun
  | [d1, d2, d3, d4, d5, d6, d7] => { results := [.lit (.bool true)], args := [d1, d2, d3, d4, d5, d6, d7] }
  | _ => none }
def volumeOrderRow : OpenClaim := { program := "ytjkmdpejcgepkaagreatdoor", sum := "46714306021c3a00893236c02d5fa8966d17a1ed40463797cfbd93b28f7b7c55", func := "palantype/palantypelaw10.VolumeOrder", spec := "volumeOrder", inPlace := ["slices.overlaps[palantype/volume.entry]", "internal/abi.NoEscape", "internal/bytealg.IndexByteString", "internal/bytealg.IndexString"], unfollowed := true, recurses := true, named := ["internal/strconv.uint64pow10", "math/bits.deBruijn32tab", "math/bits.deBruijn64tab", "internal/bytealg.MaxLen", "strconv.ErrSyntax", "strconv.ErrRange"], apart := false, laid := [("math/bits.deBruijn32tab", laid_math_bits_deBruijn32tab), ("math/bits.deBruijn64tab", laid_math_bits_deBruijn64tab), ("internal/strconv.uint64pow10", laid_internal_strconv_uint64pow10), ("strconv.ErrRange", laid_strconv_ErrRange), ("strconv.ErrSyntax", laid_strconv_ErrSyntax)] }
def VolumeOrderSaid : Prop := volumeOrderRow.holds Tryz.pinned (OpenSpec.ofChange volumeOrderSpec)

/-- ITS FALSE NEIGHBOUR: 'it returns false'. Refute it at one input. -/
def volumeOrderWrong : ChangeSpec := { name := "volumeOrder", fn := fun _ => fun
  | [d1, d2, d3, d4, d5, d6, d7] => { results := [.lit (.bool false)], args := [d1, d2, d3, d4, d5, d6, d7] }
  | _ => none }
def VolumeOrderWrongFalsely : Prop := volumeOrderRow.holds Tryz.pinned (OpenSpec.ofChange volumeOrderWrong)

/- THE SECOND FORM. 'bulk': how many values and letters a reading holds, each counted each time it is reached (what is shared counts as often as it is met; a slice's spare places count too). A statement '..UptoSaid' is the law's where the arguments, and the package variables that the reading takes, are together of bulk at most 1048576: NARROWER than '..Said'. Prove '..Said' where nothing that the law and all that it calls make is longer than what came in: it says more and counts as full. Else prove '..UptoSaid'. A law counts once. -/
mutual
def uptoBulk {H : Type} : DataW H → Nat
  | .lit (.string bytes) => bytes.length + 1
  | .lit _ => 1
  | .nil => 1
  | .ptr d => uptoBulk d + 1
  | .slice elems spare => uptoBulkAll elems + uptoBulkAll spare + 1
  | .agg parts => uptoBulkAll parts + 1
  | .iface _ d => uptoBulk d + 1
  | .map entries => uptoBulkEntries entries + 1
  | .held _ => 1
def uptoBulkAll {H : Type} : List (DataW H) → Nat
  | [] => 0
  | d :: r => uptoBulk d + uptoBulkAll r
def uptoBulkEntries {H : Type} : List (Lit × DataW H) → Nat
  | [] => 0
  | x :: r => uptoBulkEntry x + uptoBulkEntries r
def uptoBulkEntry {H : Type} : Lit × DataW H → Nat
  | (.string bytes, d) => bytes.length + uptoBulk d + 1
  | (_, d) => uptoBulk d + 1
 end
def uptoSmall : (H : Type) → List (DataW H) → Bool := fun _ ds => decide (uptoBulkAll ds ≤ 1048576)
def OpenSpec.upto (s : _root_.Go.ChangeSpec) : _root_.Go.OpenSpec := { _root_.Go.OpenSpec.ofChange s with cond := some uptoSmall }

/-- 'palantypelaw10.VolumeEver', WHERE WHAT IT READS IS OF BULK AT MOST 1048576: true; the input reads as it did. -/
def volumeEverUptoRow : OpenClaim := { program := "ytjkmdpejcgepkaagreatdoor", sum := "46714306021c3a00893236c02d5fa8966d17a1ed40463797cfbd93b28f7b7c55", func := "palantype/palantypelaw10.VolumeEver", spec := "volumeEver", inPlace := ["slices.overlaps[palantype/volume.entry]", "internal/abi.NoEscape", "internal/bytealg.IndexByteString", "internal/bytealg.IndexString"], unfollowed := true, recurses := true, named := ["internal/strconv.uint64pow10", "math/bits.deBruijn32tab", "math/bits.deBruijn64tab", "internal/bytealg.MaxLen", "strconv.ErrSyntax", "strconv.ErrRange"], apart := false, laid := [("math/bits.deBruijn32tab", laid_math_bits_deBruijn32tab), ("math/bits.deBruijn64tab", laid_math_bits_deBruijn64tab), ("internal/strconv.uint64pow10", laid_internal_strconv_uint64pow10), ("strconv.ErrRange", laid_strconv_ErrRange), ("strconv.ErrSyntax", laid_strconv_ErrSyntax)], narrowed := true }
def VolumeEverUptoSaid : Prop := volumeEverUptoRow.holds Tryz.pinned (OpenSpec.upto volumeEverSpec)

/-- 'palantypelaw10.VolumeLinks', WHERE WHAT IT READS IS OF BULK AT MOST 1048576: true; the input reads as it did. -/
def volumeLinksUptoRow : OpenClaim := { program := "ytjkmdpejcgepkaagreatdoor", sum := "46714306021c3a00893236c02d5fa8966d17a1ed40463797cfbd93b28f7b7c55", func := "palantype/palantypelaw10.VolumeLinks", spec := "volumeLinks", inPlace := ["slices.overlaps[palantype/volume.entry]", "internal/abi.NoEscape", "internal/bytealg.IndexByteString", "internal/bytealg.IndexString"], unfollowed := true, recurses := true, named := ["internal/strconv.uint64pow10", "math/bits.deBruijn32tab", "math/bits.deBruijn64tab", "internal/bytealg.MaxLen", "strconv.ErrSyntax", "strconv.ErrRange"], apart := false, laid := [("math/bits.deBruijn32tab", laid_math_bits_deBruijn32tab), ("math/bits.deBruijn64tab", laid_math_bits_deBruijn64tab), ("internal/strconv.uint64pow10", laid_internal_strconv_uint64pow10), ("strconv.ErrRange", laid_strconv_ErrRange), ("strconv.ErrSyntax", laid_strconv_ErrSyntax)], narrowed := true }
def VolumeLinksUptoSaid : Prop := volumeLinksUptoRow.holds Tryz.pinned (OpenSpec.upto volumeLinksSpec)

/-- 'palantypelaw10.VolumeLines', WHERE WHAT IT READS IS OF BULK AT MOST 1048576: true; the input reads as it did. -/
def volumeLinesUptoRow : OpenClaim := { program := "ytjkmdpejcgepkaagreatdoor", sum := "46714306021c3a00893236c02d5fa8966d17a1ed40463797cfbd93b28f7b7c55", func := "palantype/palantypelaw10.VolumeLines", spec := "volumeLines", inPlace := ["slices.overlaps[palantype/volume.entry]", "internal/abi.NoEscape", "internal/bytealg.IndexByteString", "internal/bytealg.IndexString"], unfollowed := true, recurses := true, named := ["internal/strconv.uint64pow10", "math/bits.deBruijn32tab", "math/bits.deBruijn64tab", "internal/bytealg.MaxLen", "strconv.ErrSyntax", "strconv.ErrRange"], apart := false, laid := [("math/bits.deBruijn32tab", laid_math_bits_deBruijn32tab), ("math/bits.deBruijn64tab", laid_math_bits_deBruijn64tab), ("internal/strconv.uint64pow10", laid_internal_strconv_uint64pow10), ("strconv.ErrRange", laid_strconv_ErrRange), ("strconv.ErrSyntax", laid_strconv_ErrSyntax)], narrowed := true }
def VolumeLinesUptoSaid : Prop := volumeLinesUptoRow.holds Tryz.pinned (OpenSpec.upto volumeLinesSpec)

/-- 'palantypelaw10.VolumeLives', WHERE WHAT IT READS IS OF BULK AT MOST 1048576: true; the input reads as it did. -/
def volumeLivesUptoRow : OpenClaim := { program := "ytjkmdpejcgepkaagreatdoor", sum := "46714306021c3a00893236c02d5fa8966d17a1ed40463797cfbd93b28f7b7c55", func := "palantype/palantypelaw10.VolumeLives", spec := "volumeLives", inPlace := ["slices.overlaps[palantype/volume.entry]", "internal/abi.NoEscape", "internal/bytealg.IndexByteString", "internal/bytealg.IndexString"], unfollowed := true, recurses := true, named := ["internal/strconv.uint64pow10", "math/bits.deBruijn32tab", "math/bits.deBruijn64tab", "internal/bytealg.MaxLen", "strconv.ErrSyntax", "strconv.ErrRange"], apart := false, laid := [("math/bits.deBruijn32tab", laid_math_bits_deBruijn32tab), ("math/bits.deBruijn64tab", laid_math_bits_deBruijn64tab), ("internal/strconv.uint64pow10", laid_internal_strconv_uint64pow10), ("strconv.ErrRange", laid_strconv_ErrRange), ("strconv.ErrSyntax", laid_strconv_ErrSyntax)], narrowed := true }
def VolumeLivesUptoSaid : Prop := volumeLivesUptoRow.holds Tryz.pinned (OpenSpec.upto volumeLivesSpec)

/-- 'palantypelaw10.VolumeWords', WHERE WHAT IT READS IS OF BULK AT MOST 1048576: true; the input reads as it did. -/
def volumeWordsUptoRow : OpenClaim := { program := "ytjkmdpejcgepkaagreatdoor", sum := "46714306021c3a00893236c02d5fa8966d17a1ed40463797cfbd93b28f7b7c55", func := "palantype/palantypelaw10.VolumeWords", spec := "volumeWords", inPlace := ["slices.overlaps[palantype/volume.entry]", "internal/abi.NoEscape", "internal/bytealg.IndexByteString", "internal/bytealg.IndexString"], unfollowed := true, recurses := true, named := ["internal/strconv.uint64pow10", "math/bits.deBruijn32tab", "math/bits.deBruijn64tab", "internal/bytealg.MaxLen", "strconv.ErrSyntax", "strconv.ErrRange"], apart := false, laid := [("math/bits.deBruijn32tab", laid_math_bits_deBruijn32tab), ("math/bits.deBruijn64tab", laid_math_bits_deBruijn64tab), ("internal/strconv.uint64pow10", laid_internal_strconv_uint64pow10), ("strconv.ErrRange", laid_strconv_ErrRange), ("strconv.ErrSyntax", laid_strconv_ErrSyntax)], narrowed := true }
def VolumeWordsUptoSaid : Prop := volumeWordsUptoRow.holds Tryz.pinned (OpenSpec.upto volumeWordsSpec)

/-- 'palantypelaw10.VolumeBytes', WHERE WHAT IT READS IS OF BULK AT MOST 1048576: true; the input reads as it did. -/
def volumeBytesUptoRow : OpenClaim := { program := "ytjkmdpejcgepkaagreatdoor", sum := "46714306021c3a00893236c02d5fa8966d17a1ed40463797cfbd93b28f7b7c55", func := "palantype/palantypelaw10.VolumeBytes", spec := "volumeBytes", inPlace := ["slices.overlaps[palantype/volume.entry]", "internal/abi.NoEscape", "internal/bytealg.IndexByteString", "internal/bytealg.IndexString"], unfollowed := true, recurses := true, named := ["internal/strconv.uint64pow10", "math/bits.deBruijn32tab", "math/bits.deBruijn64tab", "internal/bytealg.MaxLen", "strconv.ErrSyntax", "strconv.ErrRange"], apart := false, laid := [("math/bits.deBruijn32tab", laid_math_bits_deBruijn32tab), ("math/bits.deBruijn64tab", laid_math_bits_deBruijn64tab), ("internal/strconv.uint64pow10", laid_internal_strconv_uint64pow10), ("strconv.ErrRange", laid_strconv_ErrRange), ("strconv.ErrSyntax", laid_strconv_ErrSyntax)], narrowed := true }
def VolumeBytesUptoSaid : Prop := volumeBytesUptoRow.holds Tryz.pinned (OpenSpec.upto volumeBytesSpec)

/-- 'palantypelaw10.VolumeNames', WHERE WHAT IT READS IS OF BULK AT MOST 1048576: true; the input reads as it did. -/
def volumeNamesUptoRow : OpenClaim := { program := "ytjkmdpejcgepkaagreatdoor", sum := "46714306021c3a00893236c02d5fa8966d17a1ed40463797cfbd93b28f7b7c55", func := "palantype/palantypelaw10.VolumeNames", spec := "volumeNames", inPlace := ["slices.overlaps[palantype/volume.entry]", "internal/abi.NoEscape", "internal/bytealg.IndexByteString", "internal/bytealg.IndexString"], unfollowed := true, recurses := true, named := ["internal/strconv.uint64pow10", "math/bits.deBruijn32tab", "math/bits.deBruijn64tab", "internal/bytealg.MaxLen", "strconv.ErrSyntax", "strconv.ErrRange"], apart := false, laid := [("math/bits.deBruijn32tab", laid_math_bits_deBruijn32tab), ("math/bits.deBruijn64tab", laid_math_bits_deBruijn64tab), ("internal/strconv.uint64pow10", laid_internal_strconv_uint64pow10), ("strconv.ErrRange", laid_strconv_ErrRange), ("strconv.ErrSyntax", laid_strconv_ErrSyntax)], narrowed := true }
def VolumeNamesUptoSaid : Prop := volumeNamesUptoRow.holds Tryz.pinned (OpenSpec.upto volumeNamesSpec)

/-- 'palantypelaw10.VolumeOrder', WHERE WHAT IT READS IS OF BULK AT MOST 1048576: true; the input reads as it did. -/
def volumeOrderUptoRow : OpenClaim := { program := "ytjkmdpejcgepkaagreatdoor", sum := "46714306021c3a00893236c02d5fa8966d17a1ed40463797cfbd93b28f7b7c55", func := "palantype/palantypelaw10.VolumeOrder", spec := "volumeOrder", inPlace := ["slices.overlaps[palantype/volume.entry]", "internal/abi.NoEscape", "internal/bytealg.IndexByteString", "internal/bytealg.IndexString"], unfollowed := true, recurses := true, named := ["internal/strconv.uint64pow10", "math/bits.deBruijn32tab", "math/bits.deBruijn64tab", "internal/bytealg.MaxLen", "strconv.ErrSyntax", "strconv.ErrRange"], apart := false, laid := [("math/bits.deBruijn32tab", laid_math_bits_deBruijn32tab), ("math/bits.deBruijn64tab", laid_math_bits_deBruijn64tab), ("internal/strconv.uint64pow10", laid_internal_strconv_uint64pow10), ("strconv.ErrRange", laid_strconv_ErrRange), ("strconv.ErrSyntax", laid_strconv_ErrSyntax)], narrowed := true }
def VolumeOrderUptoSaid : Prop := volumeOrderUptoRow.holds Tryz.pinned (OpenSpec.upto volumeOrderSpec)

end Rows
end Go.Proofs.YtjkmdpejcgepkaaGreatDoor
