/-
  No cell of these rows narrows 'for every input' (looked for: loops, veiled, ifaces, maps, wideKeys, modest, calm, conditions, laid).
  DERIVED. THE GIVEN ROWS OF THIS SEAT. 6 by the template 'for every input the law returns true; each argument reads behind the call as it read before'; 0 by the template 'total and deterministic' (their statements: YtpljnapglbmdlaaTotals.lean).
  GIVEN WITH THE SEED: the statements are not yours to turn. If you find one false, say at which input.
  Laid BY PROGRAM, IN A SANDBOX (cutbox-rows.mjs): the forced cells as the released guide's own fill.sh prints them over the translation a7be04f3cec6c656… (all of the seat's roots in one cut). By AI agents, Wed Nov 11 2026. No macro, syntax, notation, axiom, sorry.
-/
import Derived.Test.YtpljnapglbmdlaaChecked
import GoSem.Claim
import GoSem.ClaimJoined
import GoSem.ClaimMapViews
import Derived.JoinedTies
import Derived.KernelRfl
namespace Go.Proofs.Ytpljnapglbmdlaa
/- THE CELL 'sum', in the pinned program and in every row, IS THE sha256 OF THE DUMP (.gsa) THAT YtpljnapglbmdlaaProg.lean LOADS. Nothing in Lean hashes anything: it is a label: what it is worth is what the hold of that sum in a sandbox is worth. -/
noncomputable def Try.pinned : Pinned := { name := "ytpljnapglbmdlaa", sum := "a7be04f3cec6c656310df0c2e16bc35dd7d0cdb45cd6c660956b1f040178dadd", checked := Try.checked }
namespace Rows
def none {H : Type} : Left H := { results := [], args := [] }

/-- 'pianolalaw08.GraphChecks': WHATEVER THE INPUT: true; the input reads as it did. -/
def graphChecksSpec : ChangeSpec := { name := "graphChecks", fn := fun _ => fun
  | [d] => { results := [.lit (.bool true)], args := [d] }
  | _ => none }
def graphChecksRow : OpenClaim := { program := "ytpljnapglbmdlaa", sum := "a7be04f3cec6c656310df0c2e16bc35dd7d0cdb45cd6c660956b1f040178dadd", func := "pianola/pianolalaw08.GraphChecks", spec := "graphChecks", unfollowed := true, recurses := true, apart := false }
def GraphChecksSaid : Prop := graphChecksRow.holds Try.pinned (OpenSpec.ofChange graphChecksSpec)

/-- ITS FALSE NEIGHBOUR: 'it returns false'. Refute it at one input. -/
def graphChecksWrong : ChangeSpec := { name := "graphChecks", fn := fun _ => fun
  | [d] => { results := [.lit (.bool false)], args := [d] }
  | _ => none }
def GraphChecksWrongFalsely : Prop := graphChecksRow.holds Try.pinned (OpenSpec.ofChange graphChecksWrong)

/-- 'pianolalaw08.GraphDraws': WHATEVER THE INPUT: true; the input reads as it did. -/
def graphDrawsSpec : ChangeSpec := { name := "graphDraws", fn := fun _ => fun
  | [d] => { results := [.lit (.bool true)], args := [d] }
  | _ => none }
def graphDrawsRow : OpenClaim := { program := "ytpljnapglbmdlaa", sum := "a7be04f3cec6c656310df0c2e16bc35dd7d0cdb45cd6c660956b1f040178dadd", func := "pianola/pianolalaw08.GraphDraws", spec := "graphDraws", unfollowed := true, recurses := true, apart := false }
def GraphDrawsSaid : Prop := graphDrawsRow.holds Try.pinned (OpenSpec.ofChange graphDrawsSpec)

/-- ITS FALSE NEIGHBOUR: 'it returns false'. Refute it at one input. -/
def graphDrawsWrong : ChangeSpec := { name := "graphDraws", fn := fun _ => fun
  | [d] => { results := [.lit (.bool false)], args := [d] }
  | _ => none }
def GraphDrawsWrongFalsely : Prop := graphDrawsRow.holds Try.pinned (OpenSpec.ofChange graphDrawsWrong)

/-- 'pianolalaw08.GraphBack': WHATEVER THE INPUT: true; the input reads as it did. -/
def graphBackSpec : ChangeSpec := { name := "graphBack", fn := fun _ => fun
  | [d] => { results := [.lit (.bool true)], args := [d] }
  | _ => none }
def graphBackRow : OpenClaim := { program := "ytpljnapglbmdlaa", sum := "a7be04f3cec6c656310df0c2e16bc35dd7d0cdb45cd6c660956b1f040178dadd", func := "pianola/pianolalaw08.GraphBack", spec := "graphBack", unfollowed := true, recurses := true, apart := false }
def GraphBackSaid : Prop := graphBackRow.holds Try.pinned (OpenSpec.ofChange graphBackSpec)

/-- ITS FALSE NEIGHBOUR: 'it returns false'. Refute it at one input. -/
def graphBackWrong : ChangeSpec := { name := "graphBack", fn := fun _ => fun
  | [d] => { results := [.lit (.bool false)], args := [d] }
  | _ => none }
def GraphBackWrongFalsely : Prop := graphBackRow.holds Try.pinned (OpenSpec.ofChange graphBackWrong)

/-- 'pianolalaw08.GraphPorts': WHATEVER THE INPUT: true; the input reads as it did. -/
def graphPortsSpec : ChangeSpec := { name := "graphPorts", fn := fun _ => fun
  | [d] => { results := [.lit (.bool true)], args := [d] }
  | _ => none }
def graphPortsRow : OpenClaim := { program := "ytpljnapglbmdlaa", sum := "a7be04f3cec6c656310df0c2e16bc35dd7d0cdb45cd6c660956b1f040178dadd", func := "pianola/pianolalaw08.GraphPorts", spec := "graphPorts", unfollowed := true, recurses := true, apart := false }
def GraphPortsSaid : Prop := graphPortsRow.holds Try.pinned (OpenSpec.ofChange graphPortsSpec)

/-- ITS FALSE NEIGHBOUR: 'it returns false'. Refute it at one input. -/
def graphPortsWrong : ChangeSpec := { name := "graphPorts", fn := fun _ => fun
  | [d] => { results := [.lit (.bool false)], args := [d] }
  | _ => none }
def GraphPortsWrongFalsely : Prop := graphPortsRow.holds Try.pinned (OpenSpec.ofChange graphPortsWrong)

/-- 'pianolalaw08.GraphOrder': WHATEVER THE INPUT: true; the input reads as it did. -/
def graphOrderSpec : ChangeSpec := { name := "graphOrder", fn := fun _ => fun
  | [d] => { results := [.lit (.bool true)], args := [d] }
  | _ => none }
def graphOrderRow : OpenClaim := { program := "ytpljnapglbmdlaa", sum := "a7be04f3cec6c656310df0c2e16bc35dd7d0cdb45cd6c660956b1f040178dadd", func := "pianola/pianolalaw08.GraphOrder", spec := "graphOrder", unfollowed := true, recurses := true, apart := false }
def GraphOrderSaid : Prop := graphOrderRow.holds Try.pinned (OpenSpec.ofChange graphOrderSpec)

/-- ITS FALSE NEIGHBOUR: 'it returns false'. Refute it at one input. -/
def graphOrderWrong : ChangeSpec := { name := "graphOrder", fn := fun _ => fun
  | [d] => { results := [.lit (.bool false)], args := [d] }
  | _ => none }
def GraphOrderWrongFalsely : Prop := graphOrderRow.holds Try.pinned (OpenSpec.ofChange graphOrderWrong)

/-- 'pianolalaw08.GraphNames': WHATEVER THE INPUT: true; the input reads as it did. -/
def graphNamesSpec : ChangeSpec := { name := "graphNames", fn := fun _ => fun
  | [] => { results := [.lit (.bool true)], args := [] }
  | _ => none }
def graphNamesRow : OpenClaim := { program := "ytpljnapglbmdlaa", sum := "a7be04f3cec6c656310df0c2e16bc35dd7d0cdb45cd6c660956b1f040178dadd", func := "pianola/pianolalaw08.GraphNames", spec := "graphNames", unfollowed := true, recurses := true, apart := false }
def GraphNamesSaid : Prop := graphNamesRow.holds Try.pinned (OpenSpec.ofChange graphNamesSpec)

/-- ITS FALSE NEIGHBOUR: 'it returns false'. Refute it at one input. -/
def graphNamesWrong : ChangeSpec := { name := "graphNames", fn := fun _ => fun
  | [] => { results := [.lit (.bool false)], args := [] }
  | _ => none }
def GraphNamesWrongFalsely : Prop := graphNamesRow.holds Try.pinned (OpenSpec.ofChange graphNamesWrong)

/- THE SECOND FORM. 'bulk': how many values and letters a reading holds, each counted each time it is reached (what is shared counts as often as it is met; a slice's spare places count too). A statement '..UptoSaid' is the law's where the arguments, and the package variables that the reading takes, are together of bulk at most 1048576: NARROWER than '..Said'. Prove '..Said' where nothing that the law and all that it calls make is longer than what came in: it says more and counts as full. Else prove '..UptoSaid'. A law counts once. -/
mutual
def uptoBulk {H : Type} : DataW H → Nat
  | .lit (.string bytes) => bytes.length + 1
  | .lit _ => 1
  | .nil => 1
  | .ptr d => uptoBulk d + 1
  | .slice elems spare => uptoBulkAll elems + uptoBulkAll spare + 1
  | .agg parts => uptoBulkAll parts + 1
  | .iface _ d => uptoBulk d + 1
  | .map entries => uptoBulkEntries entries + 1
  | .held _ => 1
def uptoBulkAll {H : Type} : List (DataW H) → Nat
  | [] => 0
  | d :: r => uptoBulk d + uptoBulkAll r
def uptoBulkEntries {H : Type} : List (Lit × DataW H) → Nat
  | [] => 0
  | x :: r => uptoBulkEntry x + uptoBulkEntries r
def uptoBulkEntry {H : Type} : Lit × DataW H → Nat
  | (.string bytes, d) => bytes.length + uptoBulk d + 1
  | (_, d) => uptoBulk d + 1
 end
def uptoSmall : (H : Type) → List (DataW H) → Bool := fun _ ds => decide (uptoBulkAll ds ≤ 1048576)
def OpenSpec.upto (s : _root_.Go.ChangeSpec) : _root_.Go.OpenSpec := { _root_.Go.OpenSpec.ofChange s with cond := some uptoSmall }

/-- 'pianolalaw08.GraphChecks', WHERE WHAT IT READS IS OF BULK AT MOST 1048576: true; the input reads as it did. -/
def graphChecksUptoRow : OpenClaim := { program := "ytpljnapglbmdlaa", sum := "a7be04f3cec6c656310df0c2e16bc35dd7d0cdb45cd6c660956b1f040178dadd", func := "pianola/pianolalaw08.GraphChecks", spec := "graphChecks", unfollowed := true, recurses := true, apart := false, narrowed := true }
def GraphChecksUptoSaid : Prop := graphChecksUptoRow.holds Try.pinned (OpenSpec.upto graphChecksSpec)

/-- 'pianolalaw08.GraphDraws', WHERE WHAT IT READS IS OF BULK AT MOST 1048576: true; the input reads as it did. -/
def graphDrawsUptoRow : OpenClaim := { program := "ytpljnapglbmdlaa", sum := "a7be04f3cec6c656310df0c2e16bc35dd7d0cdb45cd6c660956b1f040178dadd", func := "pianola/pianolalaw08.GraphDraws", spec := "graphDraws", unfollowed := true, recurses := true, apart := false, narrowed := true }
def GraphDrawsUptoSaid : Prop := graphDrawsUptoRow.holds Try.pinned (OpenSpec.upto graphDrawsSpec)

/-- 'pianolalaw08.GraphBack', WHERE WHAT IT READS IS OF BULK AT MOST 1048576: true; the input reads as it did. -/
def graphBackUptoRow : OpenClaim := { program := "ytpljnapglbmdlaa", sum := "a7be04f3cec6c656310df0c2e16bc35dd7d0cdb45cd6c660956b1f040178dadd", func := "pianola/pianolalaw08.GraphBack", spec := "graphBack", unfollowed := true, recurses := true, apart := false, narrowed := true }
def GraphBackUptoSaid : Prop := graphBackUptoRow.holds Try.pinned (OpenSpec.upto graphBackSpec)

/-- 'pianolalaw08.GraphPorts', WHERE WHAT IT READS IS OF BULK AT MOST 1048576: true; the input reads as it did. -/
def graphPortsUptoRow : OpenClaim := { program := "ytpljnapglbmdlaa", sum := "a7be04f3cec6c656310df0c2e16bc35dd7d0cdb45cd6c660956b1f040178dadd", func := "pianola/pianolalaw08.GraphPorts", spec := "graphPorts", unfollowed := true, recurses := true, apart := false, narrowed := true }
def GraphPortsUptoSaid : Prop := graphPortsUptoRow.holds Try.pinned (OpenSpec.upto graphPortsSpec)

/-- 'pianolalaw08.GraphOrder', WHERE WHAT IT READS IS OF BULK AT MOST 1048576: true; the input reads as it did. -/
def graphOrderUptoRow : OpenClaim := { program := "ytpljnapglbmdlaa", sum := "a7be04f3cec6c656310df0c2e16bc35dd7d0cdb45cd6c660956b1f040178dadd", func := "pianola/pianolalaw08.GraphOrder", spec := "graphOrder", unfollowed := true, recurses := true, apart := false, narrowed := true }
def GraphOrderUptoSaid : Prop := graphOrderUptoRow.holds Try.pinned (OpenSpec.upto graphOrderSpec)

/-- 'pianolalaw08.GraphNames', WHERE WHAT IT READS IS OF BULK AT MOST 1048576: true; the input reads as it did. -/
def graphNamesUptoRow : OpenClaim := { program := "ytpljnapglbmdlaa", sum := "a7be04f3cec6c656310df0c2e16bc35dd7d0cdb45cd6c660956b1f040178dadd", func := "pianola/pianolalaw08.GraphNames", spec := "graphNames", unfollowed := true, recurses := true, apart := false, narrowed := true }
def GraphNamesUptoSaid : Prop := graphNamesUptoRow.holds Try.pinned (OpenSpec.upto graphNamesSpec)

end Rows
end Go.Proofs.Ytpljnapglbmdlaa
