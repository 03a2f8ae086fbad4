/-
  No cell of these rows narrows 'for every input' (looked for: loops, veiled, ifaces, maps, wideKeys, modest, calm, conditions, laid).
  DERIVED. THE GIVEN ROWS OF THIS SEAT. 8 by the template 'for every input the law returns true; each argument reads behind the call as it read before'; 0 by the template 'total and deterministic' (their statements: YtijlgcbnoekmeaaTotals.lean).
  GIVEN WITH THE SEED: the statements are not yours to turn. If you find one false, say at which input.
  Laid BY PROGRAM, IN A SANDBOX (cutbox-rows.mjs): the forced cells as the released guide's own fill.sh prints them over the translation e31de8bcacfc154c… (all of the seat's roots in one cut). By AI agents, Wed Nov 11 2026. No macro, syntax, notation, axiom, sorry.
-/
import Derived.Test.YtijlgcbnoekmeaaChecked
import GoSem.Claim
import GoSem.ClaimJoined
import GoSem.ClaimMapViews
import Derived.JoinedTies
import Derived.KernelRfl
namespace Go.Proofs.Ytijlgcbnoekmeaa
/- THE CELL 'sum', in the pinned program and in every row, IS THE sha256 OF THE DUMP (.gsa) THAT YtijlgcbnoekmeaaProg.lean LOADS. Nothing in Lean hashes anything: it is a label: what it is worth is what the hold of that sum in a sandbox is worth. -/
noncomputable def Try.pinned : Pinned := { name := "ytijlgcbnoekmeaa", sum := "e31de8bcacfc154ce36a4cf4439897589c882547f4bb989e5ea3e99ad243ea84", checked := Try.checked }
namespace Rows
def none {H : Type} : Left H := { results := [], args := [] }

/-- 'pianolalaw10.NetChecks': WHATEVER THE INPUT: true; the input reads as it did. -/
def netChecksSpec : ChangeSpec := { name := "netChecks", fn := fun _ => fun
  | [d] => { results := [.lit (.bool true)], args := [d] }
  | _ => none }
def netChecksRow : OpenClaim := { program := "ytijlgcbnoekmeaa", sum := "e31de8bcacfc154ce36a4cf4439897589c882547f4bb989e5ea3e99ad243ea84", func := "pianola/pianolalaw10.NetChecks", spec := "netChecks", apart := false }
def NetChecksSaid : Prop := netChecksRow.holds Try.pinned (OpenSpec.ofChange netChecksSpec)

/-- ITS FALSE NEIGHBOUR: 'it returns false'. Refute it at one input. -/
def netChecksWrong : ChangeSpec := { name := "netChecks", fn := fun _ => fun
  | [d] => { results := [.lit (.bool false)], args := [d] }
  | _ => none }
def NetChecksWrongFalsely : Prop := netChecksRow.holds Try.pinned (OpenSpec.ofChange netChecksWrong)

/-- 'pianolalaw10.NetPlays': WHATEVER THE INPUT: true; the input reads as it did. -/
def netPlaysSpec : ChangeSpec := { name := "netPlays", fn := fun _ => fun
  | [d1, d2] => { results := [.lit (.bool true)], args := [d1, d2] }
  | _ => none }
def netPlaysRow : OpenClaim := { program := "ytijlgcbnoekmeaa", sum := "e31de8bcacfc154ce36a4cf4439897589c882547f4bb989e5ea3e99ad243ea84", func := "pianola/pianolalaw10.NetPlays", spec := "netPlays", apart := false }
def NetPlaysSaid : Prop := netPlaysRow.holds Try.pinned (OpenSpec.ofChange netPlaysSpec)

/-- ITS FALSE NEIGHBOUR: 'it returns false'. Refute it at one input. -/
def netPlaysWrong : ChangeSpec := { name := "netPlays", fn := fun _ => fun
  | [d1, d2] => { results := [.lit (.bool false)], args := [d1, d2] }
  | _ => none }
def NetPlaysWrongFalsely : Prop := netPlaysRow.holds Try.pinned (OpenSpec.ofChange netPlaysWrong)

/-- 'pianolalaw10.NetEquation': WHATEVER THE INPUT: true; the input reads as it did. -/
def netEquationSpec : ChangeSpec := { name := "netEquation", fn := fun _ => fun
  | [d1, d2] => { results := [.lit (.bool true)], args := [d1, d2] }
  | _ => none }
def netEquationRow : OpenClaim := { program := "ytijlgcbnoekmeaa", sum := "e31de8bcacfc154ce36a4cf4439897589c882547f4bb989e5ea3e99ad243ea84", func := "pianola/pianolalaw10.NetEquation", spec := "netEquation", apart := false }
def NetEquationSaid : Prop := netEquationRow.holds Try.pinned (OpenSpec.ofChange netEquationSpec)

/-- ITS FALSE NEIGHBOUR: 'it returns false'. Refute it at one input. -/
def netEquationWrong : ChangeSpec := { name := "netEquation", fn := fun _ => fun
  | [d1, d2] => { results := [.lit (.bool false)], args := [d1, d2] }
  | _ => none }
def NetEquationWrongFalsely : Prop := netEquationRow.holds Try.pinned (OpenSpec.ofChange netEquationWrong)

/-- 'pianolalaw10.NetSwaps': WHATEVER THE INPUT: true; the input reads as it did. -/
def netSwapsSpec : ChangeSpec := { name := "netSwaps", fn := fun _ => fun
  | [d1, d2, d3] => { results := [.lit (.bool true)], args := [d1, d2, d3] }
  | _ => none }
def netSwapsRow : OpenClaim := { program := "ytijlgcbnoekmeaa", sum := "e31de8bcacfc154ce36a4cf4439897589c882547f4bb989e5ea3e99ad243ea84", func := "pianola/pianolalaw10.NetSwaps", spec := "netSwaps", apart := false }
def NetSwapsSaid : Prop := netSwapsRow.holds Try.pinned (OpenSpec.ofChange netSwapsSpec)

/-- ITS FALSE NEIGHBOUR: 'it returns false'. Refute it at one input. -/
def netSwapsWrong : ChangeSpec := { name := "netSwaps", fn := fun _ => fun
  | [d1, d2, d3] => { results := [.lit (.bool false)], args := [d1, d2, d3] }
  | _ => none }
def NetSwapsWrongFalsely : Prop := netSwapsRow.holds Try.pinned (OpenSpec.ofChange netSwapsWrong)

/-- 'pianolalaw10.NetStays': WHATEVER THE INPUT: true; the input reads as it did. -/
def netStaysSpec : ChangeSpec := { name := "netStays", fn := fun _ => fun
  | [d1, d2, d3] => { results := [.lit (.bool true)], args := [d1, d2, d3] }
  | _ => none }
def netStaysRow : OpenClaim := { program := "ytijlgcbnoekmeaa", sum := "e31de8bcacfc154ce36a4cf4439897589c882547f4bb989e5ea3e99ad243ea84", func := "pianola/pianolalaw10.NetStays", spec := "netStays", apart := false }
def NetStaysSaid : Prop := netStaysRow.holds Try.pinned (OpenSpec.ofChange netStaysSpec)

/-- ITS FALSE NEIGHBOUR: 'it returns false'. Refute it at one input. -/
def netStaysWrong : ChangeSpec := { name := "netStays", fn := fun _ => fun
  | [d1, d2, d3] => { results := [.lit (.bool false)], args := [d1, d2, d3] }
  | _ => none }
def NetStaysWrongFalsely : Prop := netStaysRow.holds Try.pinned (OpenSpec.ofChange netStaysWrong)

/-- 'pianolalaw10.NetParts': WHATEVER THE INPUT: true; the input reads as it did. -/
def netPartsSpec : ChangeSpec := { name := "netParts", fn := fun _ => fun
  | [d1, d2, d3] => { results := [.lit (.bool true)], args := [d1, d2, d3] }
  | _ => none }
def netPartsRow : OpenClaim := { program := "ytijlgcbnoekmeaa", sum := "e31de8bcacfc154ce36a4cf4439897589c882547f4bb989e5ea3e99ad243ea84", func := "pianola/pianolalaw10.NetParts", spec := "netParts", apart := false }
def NetPartsSaid : Prop := netPartsRow.holds Try.pinned (OpenSpec.ofChange netPartsSpec)

/-- ITS FALSE NEIGHBOUR: 'it returns false'. Refute it at one input. -/
def netPartsWrong : ChangeSpec := { name := "netParts", fn := fun _ => fun
  | [d1, d2, d3] => { results := [.lit (.bool false)], args := [d1, d2, d3] }
  | _ => none }
def NetPartsWrongFalsely : Prop := netPartsRow.holds Try.pinned (OpenSpec.ofChange netPartsWrong)

/-- 'pianolalaw10.NetNil': WHATEVER THE INPUT: true; the input reads as it did. -/
def netNilSpec : ChangeSpec := { name := "netNil", fn := fun _ => fun
  | [d] => { results := [.lit (.bool true)], args := [d] }
  | _ => none }
def netNilRow : OpenClaim := { program := "ytijlgcbnoekmeaa", sum := "e31de8bcacfc154ce36a4cf4439897589c882547f4bb989e5ea3e99ad243ea84", func := "pianola/pianolalaw10.NetNil", spec := "netNil", apart := false }
def NetNilSaid : Prop := netNilRow.holds Try.pinned (OpenSpec.ofChange netNilSpec)

/-- ITS FALSE NEIGHBOUR: 'it returns false'. Refute it at one input. -/
def netNilWrong : ChangeSpec := { name := "netNil", fn := fun _ => fun
  | [d] => { results := [.lit (.bool false)], args := [d] }
  | _ => none }
def NetNilWrongFalsely : Prop := netNilRow.holds Try.pinned (OpenSpec.ofChange netNilWrong)

/-- 'pianolalaw10.NetOf': WHATEVER THE INPUT: true; the input reads as it did. -/
def netOfSpec : ChangeSpec := { name := "netOf", fn := fun _ => fun
  | [d] => { results := [.lit (.bool true)], args := [d] }
  | _ => none }
def netOfRow : OpenClaim := { program := "ytijlgcbnoekmeaa", sum := "e31de8bcacfc154ce36a4cf4439897589c882547f4bb989e5ea3e99ad243ea84", func := "pianola/pianolalaw10.NetOf", spec := "netOf", unfollowed := true, recurses := true, apart := false }
def NetOfSaid : Prop := netOfRow.holds Try.pinned (OpenSpec.ofChange netOfSpec)

/-- ITS FALSE NEIGHBOUR: 'it returns false'. Refute it at one input. -/
def netOfWrong : ChangeSpec := { name := "netOf", fn := fun _ => fun
  | [d] => { results := [.lit (.bool false)], args := [d] }
  | _ => none }
def NetOfWrongFalsely : Prop := netOfRow.holds Try.pinned (OpenSpec.ofChange netOfWrong)

/- THE SECOND FORM. 'bulk': how many values and letters a reading holds, each counted each time it is reached (what is shared counts as often as it is met; a slice's spare places count too). A statement '..UptoSaid' is the law's where the arguments, and the package variables that the reading takes, are together of bulk at most 1048576: NARROWER than '..Said'. Prove '..Said' where nothing that the law and all that it calls make is longer than what came in: it says more and counts as full. Else prove '..UptoSaid'. A law counts once. -/
mutual
def uptoBulk {H : Type} : DataW H → Nat
  | .lit (.string bytes) => bytes.length + 1
  | .lit _ => 1
  | .nil => 1
  | .ptr d => uptoBulk d + 1
  | .slice elems spare => uptoBulkAll elems + uptoBulkAll spare + 1
  | .agg parts => uptoBulkAll parts + 1
  | .iface _ d => uptoBulk d + 1
  | .map entries => uptoBulkEntries entries + 1
  | .held _ => 1
def uptoBulkAll {H : Type} : List (DataW H) → Nat
  | [] => 0
  | d :: r => uptoBulk d + uptoBulkAll r
def uptoBulkEntries {H : Type} : List (Lit × DataW H) → Nat
  | [] => 0
  | x :: r => uptoBulkEntry x + uptoBulkEntries r
def uptoBulkEntry {H : Type} : Lit × DataW H → Nat
  | (.string bytes, d) => bytes.length + uptoBulk d + 1
  | (_, d) => uptoBulk d + 1
 end
def uptoSmall : (H : Type) → List (DataW H) → Bool := fun _ ds => decide (uptoBulkAll ds ≤ 1048576)
def OpenSpec.upto (s : _root_.Go.ChangeSpec) : _root_.Go.OpenSpec := { _root_.Go.OpenSpec.ofChange s with cond := some uptoSmall }

/-- 'pianolalaw10.NetChecks', WHERE WHAT IT READS IS OF BULK AT MOST 1048576: true; the input reads as it did. -/
def netChecksUptoRow : OpenClaim := { program := "ytijlgcbnoekmeaa", sum := "e31de8bcacfc154ce36a4cf4439897589c882547f4bb989e5ea3e99ad243ea84", func := "pianola/pianolalaw10.NetChecks", spec := "netChecks", apart := false, narrowed := true }
def NetChecksUptoSaid : Prop := netChecksUptoRow.holds Try.pinned (OpenSpec.upto netChecksSpec)

/-- 'pianolalaw10.NetPlays', WHERE WHAT IT READS IS OF BULK AT MOST 1048576: true; the input reads as it did. -/
def netPlaysUptoRow : OpenClaim := { program := "ytijlgcbnoekmeaa", sum := "e31de8bcacfc154ce36a4cf4439897589c882547f4bb989e5ea3e99ad243ea84", func := "pianola/pianolalaw10.NetPlays", spec := "netPlays", apart := false, narrowed := true }
def NetPlaysUptoSaid : Prop := netPlaysUptoRow.holds Try.pinned (OpenSpec.upto netPlaysSpec)

/-- 'pianolalaw10.NetEquation', WHERE WHAT IT READS IS OF BULK AT MOST 1048576: true; the input reads as it did. -/
def netEquationUptoRow : OpenClaim := { program := "ytijlgcbnoekmeaa", sum := "e31de8bcacfc154ce36a4cf4439897589c882547f4bb989e5ea3e99ad243ea84", func := "pianola/pianolalaw10.NetEquation", spec := "netEquation", apart := false, narrowed := true }
def NetEquationUptoSaid : Prop := netEquationUptoRow.holds Try.pinned (OpenSpec.upto netEquationSpec)

/-- 'pianolalaw10.NetSwaps', WHERE WHAT IT READS IS OF BULK AT MOST 1048576: true; the input reads as it did. -/
def netSwapsUptoRow : OpenClaim := { program := "ytijlgcbnoekmeaa", sum := "e31de8bcacfc154ce36a4cf4439897589c882547f4bb989e5ea3e99ad243ea84", func := "pianola/pianolalaw10.NetSwaps", spec := "netSwaps", apart := false, narrowed := true }
def NetSwapsUptoSaid : Prop := netSwapsUptoRow.holds Try.pinned (OpenSpec.upto netSwapsSpec)

/-- 'pianolalaw10.NetStays', WHERE WHAT IT READS IS OF BULK AT MOST 1048576: true; the input reads as it did. -/
def netStaysUptoRow : OpenClaim := { program := "ytijlgcbnoekmeaa", sum := "e31de8bcacfc154ce36a4cf4439897589c882547f4bb989e5ea3e99ad243ea84", func := "pianola/pianolalaw10.NetStays", spec := "netStays", apart := false, narrowed := true }
def NetStaysUptoSaid : Prop := netStaysUptoRow.holds Try.pinned (OpenSpec.upto netStaysSpec)

/-- 'pianolalaw10.NetParts', WHERE WHAT IT READS IS OF BULK AT MOST 1048576: true; the input reads as it did. -/
def netPartsUptoRow : OpenClaim := { program := "ytijlgcbnoekmeaa", sum := "e31de8bcacfc154ce36a4cf4439897589c882547f4bb989e5ea3e99ad243ea84", func := "pianola/pianolalaw10.NetParts", spec := "netParts", apart := false, narrowed := true }
def NetPartsUptoSaid : Prop := netPartsUptoRow.holds Try.pinned (OpenSpec.upto netPartsSpec)

/-- 'pianolalaw10.NetNil', WHERE WHAT IT READS IS OF BULK AT MOST 1048576: true; the input reads as it did. -/
def netNilUptoRow : OpenClaim := { program := "ytijlgcbnoekmeaa", sum := "e31de8bcacfc154ce36a4cf4439897589c882547f4bb989e5ea3e99ad243ea84", func := "pianola/pianolalaw10.NetNil", spec := "netNil", apart := false, narrowed := true }
def NetNilUptoSaid : Prop := netNilUptoRow.holds Try.pinned (OpenSpec.upto netNilSpec)

/-- 'pianolalaw10.NetOf', WHERE WHAT IT READS IS OF BULK AT MOST 1048576: true; the input reads as it did. -/
def netOfUptoRow : OpenClaim := { program := "ytijlgcbnoekmeaa", sum := "e31de8bcacfc154ce36a4cf4439897589c882547f4bb989e5ea3e99ad243ea84", func := "pianola/pianolalaw10.NetOf", spec := "netOf", unfollowed := true, recurses := true, apart := false, narrowed := true }
def NetOfUptoSaid : Prop := netOfUptoRow.holds Try.pinned (OpenSpec.upto netOfSpec)

end Rows
end Go.Proofs.Ytijlgcbnoekmeaa
