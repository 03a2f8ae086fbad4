/-
  NARROWER THAN 'FOR EVERY INPUT', by the rows' own cells (each row's printed sentence says how): SketchParses: laid · SketchPrints: laid · SketchBack: laid · SketchAgain: laid · SketchPlaces: laid · SketchLoose: laid · SketchAhead: laid · SketchNames: laid.
  DERIVED. THE GIVEN ROWS OF THIS SEAT. 8 by the template 'for every input the law returns true; each argument reads behind the call as it read before'; 0 by the template 'total and deterministic' (their statements: YtohalcbhckahmaaDoorTotals.lean).
  GIVEN WITH THE SEED: the statements are not yours to turn. If you find one false, say at which input.
  Laid BY PROGRAM, IN A SANDBOX (cutbox-rows.mjs): the forced cells as the released guide's own fill.sh prints them over the translation 427a309cfa103fd9… (all of the seat's roots in one cut). By AI agents, Wed Nov 11 2026. No macro, syntax, notation, axiom, sorry.
-/
import Derived.Test.YtohalcbhckahmaaDoorChecked
import GoSem.Claim
import GoSem.ClaimJoined
import GoSem.ClaimMapViews
import Derived.JoinedTies
import Derived.KernelRfl
namespace Go.Proofs.YtohalcbhckahmaaDoor
/- THE CELL 'sum', in the pinned program and in every row, IS THE sha256 OF THE DUMP (.gsa) THAT YtohalcbhckahmaaDoorProg.lean LOADS. Nothing in Lean hashes anything: it is a label: what it is worth is what the hold of that sum in a sandbox is worth. -/
noncomputable def Tryd.pinned : Pinned := { name := "ytohalcbhckahmaadoor", sum := "427a309cfa103fd98e1ad22bbf485b19a28a8ab90b7e06fe82357c2738619fca", checked := Tryd.checked }
namespace Rows
def none {H : Type} : Left H := { results := [], args := [] }

/- WHAT THE LISTED PACKAGE-LEVEL VARIABLES READ AS WHEN THE CALL BEGINS. Each datum BY PROGRAM (the guide's laid-datum.mjs) off the statement by which the dump's own 'gosem.cut.vars' lays the variable. In a bare row this is a premise. The card (YtohalcbhckahmaaDoorCards.lean) ties it to the program's text. -/
def laid_math_bits_deBruijn32tab {H : Type} : DataW H := .agg [.lit (.int .u8 0), .lit (.int .u8 1), .lit (.int .u8 28), .lit (.int .u8 2), .lit (.int .u8 29), .lit (.int .u8 14), .lit (.int .u8 24), .lit (.int .u8 3), .lit (.int .u8 30), .lit (.int .u8 22), .lit (.int .u8 20), .lit (.int .u8 15), .lit (.int .u8 25), .lit (.int .u8 17), .lit (.int .u8 4), .lit (.int .u8 8), .lit (.int .u8 31), .lit (.int .u8 27), .lit (.int .u8 13), .lit (.int .u8 23), .lit (.int .u8 21), .lit (.int .u8 19), .lit (.int .u8 16), .lit (.int .u8 7), .lit (.int .u8 26), .lit (.int .u8 12), .lit (.int .u8 18), .lit (.int .u8 6), .lit (.int .u8 11), .lit (.int .u8 5), .lit (.int .u8 10), .lit (.int .u8 9)]
def laid_math_bits_deBruijn64tab {H : Type} : DataW H := .agg [.lit (.int .u8 0), .lit (.int .u8 1), .lit (.int .u8 56), .lit (.int .u8 2), .lit (.int .u8 57), .lit (.int .u8 49), .lit (.int .u8 28), .lit (.int .u8 3), .lit (.int .u8 61), .lit (.int .u8 58), .lit (.int .u8 42), .lit (.int .u8 50), .lit (.int .u8 38), .lit (.int .u8 29), .lit (.int .u8 17), .lit (.int .u8 4), .lit (.int .u8 62), .lit (.int .u8 47), .lit (.int .u8 59), .lit (.int .u8 36), .lit (.int .u8 45), .lit (.int .u8 43), .lit (.int .u8 51), .lit (.int .u8 22), .lit (.int .u8 53), .lit (.int .u8 39), .lit (.int .u8 33), .lit (.int .u8 30), .lit (.int .u8 24), .lit (.int .u8 18), .lit (.int .u8 12), .lit (.int .u8 5), .lit (.int .u8 63), .lit (.int .u8 55), .lit (.int .u8 48), .lit (.int .u8 27), .lit (.int .u8 60), .lit (.int .u8 41), .lit (.int .u8 37), .lit (.int .u8 16), .lit (.int .u8 46), .lit (.int .u8 35), .lit (.int .u8 44), .lit (.int .u8 21), .lit (.int .u8 52), .lit (.int .u8 32), .lit (.int .u8 23), .lit (.int .u8 11), .lit (.int .u8 54), .lit (.int .u8 26), .lit (.int .u8 40), .lit (.int .u8 15), .lit (.int .u8 34), .lit (.int .u8 20), .lit (.int .u8 31), .lit (.int .u8 10), .lit (.int .u8 25), .lit (.int .u8 14), .lit (.int .u8 19), .lit (.int .u8 9), .lit (.int .u8 13), .lit (.int .u8 8), .lit (.int .u8 7), .lit (.int .u8 6)]
def laid_internal_strconv_uint64pow10 {H : Type} : DataW H := .agg [.lit (.int .u64 1), .lit (.int .u64 10), .lit (.int .u64 100), .lit (.int .u64 1000), .lit (.int .u64 10000), .lit (.int .u64 100000), .lit (.int .u64 1000000), .lit (.int .u64 10000000), .lit (.int .u64 100000000), .lit (.int .u64 1000000000), .lit (.int .u64 10000000000), .lit (.int .u64 100000000000), .lit (.int .u64 1000000000000), .lit (.int .u64 10000000000000), .lit (.int .u64 100000000000000), .lit (.int .u64 1000000000000000), .lit (.int .u64 10000000000000000), .lit (.int .u64 100000000000000000), .lit (.int .u64 1000000000000000000), .lit (.int .u64 10000000000000000000)]
def laid_strconv_ErrRange {H : Type} : DataW H := .iface "*errors.errorString" (.ptr (.agg [.lit (.string [118, 97, 108, 117, 101, 32, 111, 117, 116, 32, 111, 102, 32, 114, 97, 110, 103, 101])]))
def laid_strconv_ErrSyntax {H : Type} : DataW H := .iface "*errors.errorString" (.ptr (.agg [.lit (.string [105, 110, 118, 97, 108, 105, 100, 32, 115, 121, 110, 116, 97, 120])]))

/-- 'pianolalaw05.SketchParses': WHATEVER THE INPUT: true; the input reads as it did. -/
def sketchParsesSpec : ChangeSpec := { name := "sketchParses", fn := fun _ => fun
  | [d] => { results := [.lit (.bool true)], args := [d] }
  | _ => none }
def sketchParsesRow : OpenClaim := { program := "ytohalcbhckahmaadoor", sum := "427a309cfa103fd98e1ad22bbf485b19a28a8ab90b7e06fe82357c2738619fca", func := "pianola/pianolalaw05.SketchParses", spec := "sketchParses", inPlace := ["internal/abi.NoEscape"], unfollowed := true, recurses := true, named := ["strconv.ErrSyntax", "strconv.ErrRange", "internal/strconv.uint64pow10", "math/bits.deBruijn32tab", "math/bits.deBruijn64tab"], apart := false, laid := [("math/bits.deBruijn32tab", laid_math_bits_deBruijn32tab), ("math/bits.deBruijn64tab", laid_math_bits_deBruijn64tab), ("internal/strconv.uint64pow10", laid_internal_strconv_uint64pow10), ("strconv.ErrRange", laid_strconv_ErrRange), ("strconv.ErrSyntax", laid_strconv_ErrSyntax)] }
def SketchParsesSaid : Prop := sketchParsesRow.holds Tryd.pinned (OpenSpec.ofChange sketchParsesSpec)

/-- ITS FALSE NEIGHBOUR: 'it returns false'. Refute it at one input. -/
def sketchParsesWrong : ChangeSpec := { name := "sketchParses", fn := fun _ => fun
  | [d] => { results := [.lit (.bool false)], args := [d] }
  | _ => none }
def SketchParsesWrongFalsely : Prop := sketchParsesRow.holds Tryd.pinned (OpenSpec.ofChange sketchParsesWrong)

/-- 'pianolalaw05.SketchPrints': WHATEVER THE INPUT: true; the input reads as it did. -/
def sketchPrintsSpec : ChangeSpec := { name := "sketchPrints", fn := fun _ => fun
  | [d] => { results := [.lit (.bool true)], args := [d] }
  | _ => none }
def sketchPrintsRow : OpenClaim := { program := "ytohalcbhckahmaadoor", sum := "427a309cfa103fd98e1ad22bbf485b19a28a8ab90b7e06fe82357c2738619fca", func := "pianola/pianolalaw05.SketchPrints", spec := "sketchPrints", inPlace := ["internal/abi.NoEscape"], unfollowed := true, recurses := true, named := ["internal/strconv.uint64pow10", "math/bits.deBruijn32tab", "math/bits.deBruijn64tab", "strconv.ErrSyntax", "strconv.ErrRange"], apart := false, laid := [("math/bits.deBruijn32tab", laid_math_bits_deBruijn32tab), ("math/bits.deBruijn64tab", laid_math_bits_deBruijn64tab), ("internal/strconv.uint64pow10", laid_internal_strconv_uint64pow10), ("strconv.ErrRange", laid_strconv_ErrRange), ("strconv.ErrSyntax", laid_strconv_ErrSyntax)] }
def SketchPrintsSaid : Prop := sketchPrintsRow.holds Tryd.pinned (OpenSpec.ofChange sketchPrintsSpec)

/-- ITS FALSE NEIGHBOUR: 'it returns false'. Refute it at one input. -/
def sketchPrintsWrong : ChangeSpec := { name := "sketchPrints", fn := fun _ => fun
  | [d] => { results := [.lit (.bool false)], args := [d] }
  | _ => none }
def SketchPrintsWrongFalsely : Prop := sketchPrintsRow.holds Tryd.pinned (OpenSpec.ofChange sketchPrintsWrong)

/-- 'pianolalaw05.SketchBack': WHATEVER THE INPUT: true; the input reads as it did. -/
def sketchBackSpec : ChangeSpec := { name := "sketchBack", fn := fun _ => fun
  | [d] => { results := [.lit (.bool true)], args := [d] }
  | _ => none }
def sketchBackRow : OpenClaim := { program := "ytohalcbhckahmaadoor", sum := "427a309cfa103fd98e1ad22bbf485b19a28a8ab90b7e06fe82357c2738619fca", func := "pianola/pianolalaw05.SketchBack", spec := "sketchBack", inPlace := ["internal/abi.NoEscape"], unfollowed := true, recurses := true, named := ["internal/strconv.uint64pow10", "math/bits.deBruijn32tab", "math/bits.deBruijn64tab", "strconv.ErrSyntax", "strconv.ErrRange"], apart := false, laid := [("math/bits.deBruijn32tab", laid_math_bits_deBruijn32tab), ("math/bits.deBruijn64tab", laid_math_bits_deBruijn64tab), ("internal/strconv.uint64pow10", laid_internal_strconv_uint64pow10), ("strconv.ErrRange", laid_strconv_ErrRange), ("strconv.ErrSyntax", laid_strconv_ErrSyntax)] }
def SketchBackSaid : Prop := sketchBackRow.holds Tryd.pinned (OpenSpec.ofChange sketchBackSpec)

/-- ITS FALSE NEIGHBOUR: 'it returns false'. Refute it at one input. -/
def sketchBackWrong : ChangeSpec := { name := "sketchBack", fn := fun _ => fun
  | [d] => { results := [.lit (.bool false)], args := [d] }
  | _ => none }
def SketchBackWrongFalsely : Prop := sketchBackRow.holds Tryd.pinned (OpenSpec.ofChange sketchBackWrong)

/-- 'pianolalaw05.SketchAgain': WHATEVER THE INPUT: true; the input reads as it did. -/
def sketchAgainSpec : ChangeSpec := { name := "sketchAgain", fn := fun _ => fun
  | [d] => { results := [.lit (.bool true)], args := [d] }
  | _ => none }
def sketchAgainRow : OpenClaim := { program := "ytohalcbhckahmaadoor", sum := "427a309cfa103fd98e1ad22bbf485b19a28a8ab90b7e06fe82357c2738619fca", func := "pianola/pianolalaw05.SketchAgain", spec := "sketchAgain", inPlace := ["internal/abi.NoEscape"], unfollowed := true, recurses := true, named := ["strconv.ErrSyntax", "strconv.ErrRange", "internal/strconv.uint64pow10", "math/bits.deBruijn32tab", "math/bits.deBruijn64tab"], apart := false, laid := [("math/bits.deBruijn32tab", laid_math_bits_deBruijn32tab), ("math/bits.deBruijn64tab", laid_math_bits_deBruijn64tab), ("internal/strconv.uint64pow10", laid_internal_strconv_uint64pow10), ("strconv.ErrRange", laid_strconv_ErrRange), ("strconv.ErrSyntax", laid_strconv_ErrSyntax)] }
def SketchAgainSaid : Prop := sketchAgainRow.holds Tryd.pinned (OpenSpec.ofChange sketchAgainSpec)

/-- ITS FALSE NEIGHBOUR: 'it returns false'. Refute it at one input. -/
def sketchAgainWrong : ChangeSpec := { name := "sketchAgain", fn := fun _ => fun
  | [d] => { results := [.lit (.bool false)], args := [d] }
  | _ => none }
def SketchAgainWrongFalsely : Prop := sketchAgainRow.holds Tryd.pinned (OpenSpec.ofChange sketchAgainWrong)

/-- 'pianolalaw05.SketchPlaces': WHATEVER THE INPUT: true; the input reads as it did. -/
def sketchPlacesSpec : ChangeSpec := { name := "sketchPlaces", fn := fun _ => fun
  | [d] => { results := [.lit (.bool true)], args := [d] }
  | _ => none }
def sketchPlacesRow : OpenClaim := { program := "ytohalcbhckahmaadoor", sum := "427a309cfa103fd98e1ad22bbf485b19a28a8ab90b7e06fe82357c2738619fca", func := "pianola/pianolalaw05.SketchPlaces", spec := "sketchPlaces", inPlace := ["internal/abi.NoEscape"], unfollowed := true, recurses := true, named := ["strconv.ErrSyntax", "strconv.ErrRange", "internal/strconv.uint64pow10", "math/bits.deBruijn32tab", "math/bits.deBruijn64tab"], apart := false, laid := [("math/bits.deBruijn32tab", laid_math_bits_deBruijn32tab), ("math/bits.deBruijn64tab", laid_math_bits_deBruijn64tab), ("internal/strconv.uint64pow10", laid_internal_strconv_uint64pow10), ("strconv.ErrRange", laid_strconv_ErrRange), ("strconv.ErrSyntax", laid_strconv_ErrSyntax)] }
def SketchPlacesSaid : Prop := sketchPlacesRow.holds Tryd.pinned (OpenSpec.ofChange sketchPlacesSpec)

/-- ITS FALSE NEIGHBOUR: 'it returns false'. Refute it at one input. -/
def sketchPlacesWrong : ChangeSpec := { name := "sketchPlaces", fn := fun _ => fun
  | [d] => { results := [.lit (.bool false)], args := [d] }
  | _ => none }
def SketchPlacesWrongFalsely : Prop := sketchPlacesRow.holds Tryd.pinned (OpenSpec.ofChange sketchPlacesWrong)

/-- 'pianolalaw05.SketchLoose': WHATEVER THE INPUT: true; the input reads as it did. -/
def sketchLooseSpec : ChangeSpec := { name := "sketchLoose", fn := fun _ => fun
  | [d] => { results := [.lit (.bool true)], args := [d] }
  | _ => none }
def sketchLooseRow : OpenClaim := { program := "ytohalcbhckahmaadoor", sum := "427a309cfa103fd98e1ad22bbf485b19a28a8ab90b7e06fe82357c2738619fca", func := "pianola/pianolalaw05.SketchLoose", spec := "sketchLoose", inPlace := ["internal/abi.NoEscape"], unfollowed := true, recurses := true, named := ["strconv.ErrSyntax", "strconv.ErrRange", "internal/strconv.uint64pow10", "math/bits.deBruijn32tab", "math/bits.deBruijn64tab"], apart := false, laid := [("math/bits.deBruijn32tab", laid_math_bits_deBruijn32tab), ("math/bits.deBruijn64tab", laid_math_bits_deBruijn64tab), ("internal/strconv.uint64pow10", laid_internal_strconv_uint64pow10), ("strconv.ErrRange", laid_strconv_ErrRange), ("strconv.ErrSyntax", laid_strconv_ErrSyntax)] }
def SketchLooseSaid : Prop := sketchLooseRow.holds Tryd.pinned (OpenSpec.ofChange sketchLooseSpec)

/-- ITS FALSE NEIGHBOUR: 'it returns false'. Refute it at one input. -/
def sketchLooseWrong : ChangeSpec := { name := "sketchLoose", fn := fun _ => fun
  | [d] => { results := [.lit (.bool false)], args := [d] }
  | _ => none }
def SketchLooseWrongFalsely : Prop := sketchLooseRow.holds Tryd.pinned (OpenSpec.ofChange sketchLooseWrong)

/-- 'pianolalaw05.SketchAhead': WHATEVER THE INPUT: true; the input reads as it did. -/
def sketchAheadSpec : ChangeSpec := { name := "sketchAhead", fn := fun _ => fun
  | [d1, d2] => { results := [.lit (.bool true)], args := [d1, d2] }
  | _ => none }
def sketchAheadRow : OpenClaim := { program := "ytohalcbhckahmaadoor", sum := "427a309cfa103fd98e1ad22bbf485b19a28a8ab90b7e06fe82357c2738619fca", func := "pianola/pianolalaw05.SketchAhead", spec := "sketchAhead", inPlace := ["internal/abi.NoEscape"], unfollowed := true, recurses := true, named := ["strconv.ErrSyntax", "strconv.ErrRange", "internal/strconv.uint64pow10", "math/bits.deBruijn32tab", "math/bits.deBruijn64tab"], apart := false, laid := [("math/bits.deBruijn32tab", laid_math_bits_deBruijn32tab), ("math/bits.deBruijn64tab", laid_math_bits_deBruijn64tab), ("internal/strconv.uint64pow10", laid_internal_strconv_uint64pow10), ("strconv.ErrRange", laid_strconv_ErrRange), ("strconv.ErrSyntax", laid_strconv_ErrSyntax)] }
def SketchAheadSaid : Prop := sketchAheadRow.holds Tryd.pinned (OpenSpec.ofChange sketchAheadSpec)

/-- ITS FALSE NEIGHBOUR: 'it returns false'. Refute it at one input. -/
def sketchAheadWrong : ChangeSpec := { name := "sketchAhead", fn := fun _ => fun
  | [d1, d2] => { results := [.lit (.bool false)], args := [d1, d2] }
  | _ => none }
def SketchAheadWrongFalsely : Prop := sketchAheadRow.holds Tryd.pinned (OpenSpec.ofChange sketchAheadWrong)

/-- 'pianolalaw05.SketchNames': WHATEVER THE INPUT: true; the input reads as it did. -/
def sketchNamesSpec : ChangeSpec := { name := "sketchNames", fn := fun _ => fun
  | [] => { results := [.lit (.bool true)], args := [] }
  | _ => none }
def sketchNamesRow : OpenClaim := { program := "ytohalcbhckahmaadoor", sum := "427a309cfa103fd98e1ad22bbf485b19a28a8ab90b7e06fe82357c2738619fca", func := "pianola/pianolalaw05.SketchNames", spec := "sketchNames", inPlace := ["internal/abi.NoEscape"], unfollowed := true, recurses := true, named := ["strconv.ErrSyntax", "strconv.ErrRange", "internal/strconv.uint64pow10", "math/bits.deBruijn32tab", "math/bits.deBruijn64tab"], apart := false, laid := [("math/bits.deBruijn32tab", laid_math_bits_deBruijn32tab), ("math/bits.deBruijn64tab", laid_math_bits_deBruijn64tab), ("internal/strconv.uint64pow10", laid_internal_strconv_uint64pow10), ("strconv.ErrRange", laid_strconv_ErrRange), ("strconv.ErrSyntax", laid_strconv_ErrSyntax)] }
def SketchNamesSaid : Prop := sketchNamesRow.holds Tryd.pinned (OpenSpec.ofChange sketchNamesSpec)

/-- ITS FALSE NEIGHBOUR: 'it returns false'. Refute it at one input. -/
def sketchNamesWrong : ChangeSpec := { name := "sketchNames", fn := fun _ => fun
  | [] => { results := [.lit (.bool false)], args := [] }
  | _ => none }
def SketchNamesWrongFalsely : Prop := sketchNamesRow.holds Tryd.pinned (OpenSpec.ofChange sketchNamesWrong)

/- THE SECOND FORM. 'bulk': how many values and letters a reading holds, each counted each time it is reached (what is shared counts as often as it is met; a slice's spare places count too). A statement '..UptoSaid' is the law's where the arguments, and the package variables that the reading takes, are together of bulk at most 1048576: NARROWER than '..Said'. Prove '..Said' where nothing that the law and all that it calls make is longer than what came in: it says more and counts as full. Else prove '..UptoSaid'. A law counts once. -/
mutual
def uptoBulk {H : Type} : DataW H → Nat
  | .lit (.string bytes) => bytes.length + 1
  | .lit _ => 1
  | .nil => 1
  | .ptr d => uptoBulk d + 1
  | .slice elems spare => uptoBulkAll elems + uptoBulkAll spare + 1
  | .agg parts => uptoBulkAll parts + 1
  | .iface _ d => uptoBulk d + 1
  | .map entries => uptoBulkEntries entries + 1
  | .held _ => 1
def uptoBulkAll {H : Type} : List (DataW H) → Nat
  | [] => 0
  | d :: r => uptoBulk d + uptoBulkAll r
def uptoBulkEntries {H : Type} : List (Lit × DataW H) → Nat
  | [] => 0
  | x :: r => uptoBulkEntry x + uptoBulkEntries r
def uptoBulkEntry {H : Type} : Lit × DataW H → Nat
  | (.string bytes, d) => bytes.length + uptoBulk d + 1
  | (_, d) => uptoBulk d + 1
 end
def uptoSmall : (H : Type) → List (DataW H) → Bool := fun _ ds => decide (uptoBulkAll ds ≤ 1048576)
def OpenSpec.upto (s : _root_.Go.ChangeSpec) : _root_.Go.OpenSpec := { _root_.Go.OpenSpec.ofChange s with cond := some uptoSmall }

/-- 'pianolalaw05.SketchParses', WHERE WHAT IT READS IS OF BULK AT MOST 1048576: true; the input reads as it did. -/
def sketchParsesUptoRow : OpenClaim := { program := "ytohalcbhckahmaadoor", sum := "427a309cfa103fd98e1ad22bbf485b19a28a8ab90b7e06fe82357c2738619fca", func := "pianola/pianolalaw05.SketchParses", spec := "sketchParses", inPlace := ["internal/abi.NoEscape"], unfollowed := true, recurses := true, named := ["strconv.ErrSyntax", "strconv.ErrRange", "internal/strconv.uint64pow10", "math/bits.deBruijn32tab", "math/bits.deBruijn64tab"], apart := false, laid := [("math/bits.deBruijn32tab", laid_math_bits_deBruijn32tab), ("math/bits.deBruijn64tab", laid_math_bits_deBruijn64tab), ("internal/strconv.uint64pow10", laid_internal_strconv_uint64pow10), ("strconv.ErrRange", laid_strconv_ErrRange), ("strconv.ErrSyntax", laid_strconv_ErrSyntax)], narrowed := true }
def SketchParsesUptoSaid : Prop := sketchParsesUptoRow.holds Tryd.pinned (OpenSpec.upto sketchParsesSpec)

/-- 'pianolalaw05.SketchPrints', WHERE WHAT IT READS IS OF BULK AT MOST 1048576: true; the input reads as it did. -/
def sketchPrintsUptoRow : OpenClaim := { program := "ytohalcbhckahmaadoor", sum := "427a309cfa103fd98e1ad22bbf485b19a28a8ab90b7e06fe82357c2738619fca", func := "pianola/pianolalaw05.SketchPrints", spec := "sketchPrints", inPlace := ["internal/abi.NoEscape"], unfollowed := true, recurses := true, named := ["internal/strconv.uint64pow10", "math/bits.deBruijn32tab", "math/bits.deBruijn64tab", "strconv.ErrSyntax", "strconv.ErrRange"], apart := false, laid := [("math/bits.deBruijn32tab", laid_math_bits_deBruijn32tab), ("math/bits.deBruijn64tab", laid_math_bits_deBruijn64tab), ("internal/strconv.uint64pow10", laid_internal_strconv_uint64pow10), ("strconv.ErrRange", laid_strconv_ErrRange), ("strconv.ErrSyntax", laid_strconv_ErrSyntax)], narrowed := true }
def SketchPrintsUptoSaid : Prop := sketchPrintsUptoRow.holds Tryd.pinned (OpenSpec.upto sketchPrintsSpec)

/-- 'pianolalaw05.SketchBack', WHERE WHAT IT READS IS OF BULK AT MOST 1048576: true; the input reads as it did. -/
def sketchBackUptoRow : OpenClaim := { program := "ytohalcbhckahmaadoor", sum := "427a309cfa103fd98e1ad22bbf485b19a28a8ab90b7e06fe82357c2738619fca", func := "pianola/pianolalaw05.SketchBack", spec := "sketchBack", inPlace := ["internal/abi.NoEscape"], unfollowed := true, recurses := true, named := ["internal/strconv.uint64pow10", "math/bits.deBruijn32tab", "math/bits.deBruijn64tab", "strconv.ErrSyntax", "strconv.ErrRange"], apart := false, laid := [("math/bits.deBruijn32tab", laid_math_bits_deBruijn32tab), ("math/bits.deBruijn64tab", laid_math_bits_deBruijn64tab), ("internal/strconv.uint64pow10", laid_internal_strconv_uint64pow10), ("strconv.ErrRange", laid_strconv_ErrRange), ("strconv.ErrSyntax", laid_strconv_ErrSyntax)], narrowed := true }
def SketchBackUptoSaid : Prop := sketchBackUptoRow.holds Tryd.pinned (OpenSpec.upto sketchBackSpec)

/-- 'pianolalaw05.SketchAgain', WHERE WHAT IT READS IS OF BULK AT MOST 1048576: true; the input reads as it did. -/
def sketchAgainUptoRow : OpenClaim := { program := "ytohalcbhckahmaadoor", sum := "427a309cfa103fd98e1ad22bbf485b19a28a8ab90b7e06fe82357c2738619fca", func := "pianola/pianolalaw05.SketchAgain", spec := "sketchAgain", inPlace := ["internal/abi.NoEscape"], unfollowed := true, recurses := true, named := ["strconv.ErrSyntax", "strconv.ErrRange", "internal/strconv.uint64pow10", "math/bits.deBruijn32tab", "math/bits.deBruijn64tab"], apart := false, laid := [("math/bits.deBruijn32tab", laid_math_bits_deBruijn32tab), ("math/bits.deBruijn64tab", laid_math_bits_deBruijn64tab), ("internal/strconv.uint64pow10", laid_internal_strconv_uint64pow10), ("strconv.ErrRange", laid_strconv_ErrRange), ("strconv.ErrSyntax", laid_strconv_ErrSyntax)], narrowed := true }
def SketchAgainUptoSaid : Prop := sketchAgainUptoRow.holds Tryd.pinned (OpenSpec.upto sketchAgainSpec)

/-- 'pianolalaw05.SketchPlaces', WHERE WHAT IT READS IS OF BULK AT MOST 1048576: true; the input reads as it did. -/
def sketchPlacesUptoRow : OpenClaim := { program := "ytohalcbhckahmaadoor", sum := "427a309cfa103fd98e1ad22bbf485b19a28a8ab90b7e06fe82357c2738619fca", func := "pianola/pianolalaw05.SketchPlaces", spec := "sketchPlaces", inPlace := ["internal/abi.NoEscape"], unfollowed := true, recurses := true, named := ["strconv.ErrSyntax", "strconv.ErrRange", "internal/strconv.uint64pow10", "math/bits.deBruijn32tab", "math/bits.deBruijn64tab"], apart := false, laid := [("math/bits.deBruijn32tab", laid_math_bits_deBruijn32tab), ("math/bits.deBruijn64tab", laid_math_bits_deBruijn64tab), ("internal/strconv.uint64pow10", laid_internal_strconv_uint64pow10), ("strconv.ErrRange", laid_strconv_ErrRange), ("strconv.ErrSyntax", laid_strconv_ErrSyntax)], narrowed := true }
def SketchPlacesUptoSaid : Prop := sketchPlacesUptoRow.holds Tryd.pinned (OpenSpec.upto sketchPlacesSpec)

/-- 'pianolalaw05.SketchLoose', WHERE WHAT IT READS IS OF BULK AT MOST 1048576: true; the input reads as it did. -/
def sketchLooseUptoRow : OpenClaim := { program := "ytohalcbhckahmaadoor", sum := "427a309cfa103fd98e1ad22bbf485b19a28a8ab90b7e06fe82357c2738619fca", func := "pianola/pianolalaw05.SketchLoose", spec := "sketchLoose", inPlace := ["internal/abi.NoEscape"], unfollowed := true, recurses := true, named := ["strconv.ErrSyntax", "strconv.ErrRange", "internal/strconv.uint64pow10", "math/bits.deBruijn32tab", "math/bits.deBruijn64tab"], apart := false, laid := [("math/bits.deBruijn32tab", laid_math_bits_deBruijn32tab), ("math/bits.deBruijn64tab", laid_math_bits_deBruijn64tab), ("internal/strconv.uint64pow10", laid_internal_strconv_uint64pow10), ("strconv.ErrRange", laid_strconv_ErrRange), ("strconv.ErrSyntax", laid_strconv_ErrSyntax)], narrowed := true }
def SketchLooseUptoSaid : Prop := sketchLooseUptoRow.holds Tryd.pinned (OpenSpec.upto sketchLooseSpec)

/-- 'pianolalaw05.SketchAhead', WHERE WHAT IT READS IS OF BULK AT MOST 1048576: true; the input reads as it did. -/
def sketchAheadUptoRow : OpenClaim := { program := "ytohalcbhckahmaadoor", sum := "427a309cfa103fd98e1ad22bbf485b19a28a8ab90b7e06fe82357c2738619fca", func := "pianola/pianolalaw05.SketchAhead", spec := "sketchAhead", inPlace := ["internal/abi.NoEscape"], unfollowed := true, recurses := true, named := ["strconv.ErrSyntax", "strconv.ErrRange", "internal/strconv.uint64pow10", "math/bits.deBruijn32tab", "math/bits.deBruijn64tab"], apart := false, laid := [("math/bits.deBruijn32tab", laid_math_bits_deBruijn32tab), ("math/bits.deBruijn64tab", laid_math_bits_deBruijn64tab), ("internal/strconv.uint64pow10", laid_internal_strconv_uint64pow10), ("strconv.ErrRange", laid_strconv_ErrRange), ("strconv.ErrSyntax", laid_strconv_ErrSyntax)], narrowed := true }
def SketchAheadUptoSaid : Prop := sketchAheadUptoRow.holds Tryd.pinned (OpenSpec.upto sketchAheadSpec)

/-- 'pianolalaw05.SketchNames', WHERE WHAT IT READS IS OF BULK AT MOST 1048576: true; the input reads as it did. -/
def sketchNamesUptoRow : OpenClaim := { program := "ytohalcbhckahmaadoor", sum := "427a309cfa103fd98e1ad22bbf485b19a28a8ab90b7e06fe82357c2738619fca", func := "pianola/pianolalaw05.SketchNames", spec := "sketchNames", inPlace := ["internal/abi.NoEscape"], unfollowed := true, recurses := true, named := ["strconv.ErrSyntax", "strconv.ErrRange", "internal/strconv.uint64pow10", "math/bits.deBruijn32tab", "math/bits.deBruijn64tab"], apart := false, laid := [("math/bits.deBruijn32tab", laid_math_bits_deBruijn32tab), ("math/bits.deBruijn64tab", laid_math_bits_deBruijn64tab), ("internal/strconv.uint64pow10", laid_internal_strconv_uint64pow10), ("strconv.ErrRange", laid_strconv_ErrRange), ("strconv.ErrSyntax", laid_strconv_ErrSyntax)], narrowed := true }
def SketchNamesUptoSaid : Prop := sketchNamesUptoRow.holds Tryd.pinned (OpenSpec.upto sketchNamesSpec)

end Rows
end Go.Proofs.YtohalcbhckahmaaDoor
