/-
  No cell of these rows narrows 'for every input' (looked for: loops, veiled, ifaces, maps, wideKeys, modest, calm, conditions, laid).
  DERIVED. THE GIVEN ROWS OF THIS SEAT. 9 by the template 'for every input the law returns true; each argument reads behind the call as it read before'; 0 by the template 'total and deterministic' (their statements: YtfmpjbiaamkobaaTotals.lean).
  GIVEN WITH THE SEED: the statements are not yours to turn. If you find one false, say at which input.
  Laid BY PROGRAM, IN A SANDBOX (cutbox-rows.mjs): the forced cells as the released guide's own fill.sh prints them over the translation 5ce07ebdc84f4a07… (all of the seat's roots in one cut). By AI agents, Wed Nov 11 2026. No macro, syntax, notation, axiom, sorry.
-/
import Derived.Test.YtfmpjbiaamkobaaChecked
import GoSem.Claim
import GoSem.ClaimJoined
import GoSem.ClaimMapViews
import Derived.JoinedTies
import Derived.KernelRfl
namespace Go.Proofs.Ytfmpjbiaamkobaa
/- THE CELL 'sum', in the pinned program and in every row, IS THE sha256 OF THE DUMP (.gsa) THAT YtfmpjbiaamkobaaProg.lean LOADS. Nothing in Lean hashes anything: it is a label: what it is worth is what the hold of that sum in a sandbox is worth. -/
noncomputable def Try.pinned : Pinned := { name := "ytfmpjbiaamkobaa", sum := "5ce07ebdc84f4a07c8a25deb8ec92269d96b372cac9800f1ad6f83a260c9fafd", checked := Try.checked }
namespace Rows
def none {H : Type} : Left H := { results := [], args := [] }

/-- 'pianolalaw20.CodeChecks': WHATEVER THE INPUT: true; the input reads as it did. -/
def codeChecksSpec : ChangeSpec := { name := "codeChecks", fn := fun _ => fun
  | [d] => { results := [.lit (.bool true)], args := [d] }
  | _ => none }
def codeChecksRow : OpenClaim := { program := "ytfmpjbiaamkobaa", sum := "5ce07ebdc84f4a07c8a25deb8ec92269d96b372cac9800f1ad6f83a260c9fafd", func := "pianola/pianolalaw20.CodeChecks", spec := "codeChecks", unfollowed := true, recurses := true, apart := false }
def CodeChecksSaid : Prop := codeChecksRow.holds Try.pinned (OpenSpec.ofChange codeChecksSpec)

/-- ITS FALSE NEIGHBOUR: 'it returns false'. Refute it at one input. -/
def codeChecksWrong : ChangeSpec := { name := "codeChecks", fn := fun _ => fun
  | [d] => { results := [.lit (.bool false)], args := [d] }
  | _ => none }
def CodeChecksWrongFalsely : Prop := codeChecksRow.holds Try.pinned (OpenSpec.ofChange codeChecksWrong)

/-- 'pianolalaw20.CodeSteps': WHATEVER THE INPUT: true; the input reads as it did. -/
def codeStepsSpec : ChangeSpec := { name := "codeSteps", fn := fun _ => fun
  | [d] => { results := [.lit (.bool true)], args := [d] }
  | _ => none }
def codeStepsRow : OpenClaim := { program := "ytfmpjbiaamkobaa", sum := "5ce07ebdc84f4a07c8a25deb8ec92269d96b372cac9800f1ad6f83a260c9fafd", func := "pianola/pianolalaw20.CodeSteps", spec := "codeSteps", unfollowed := true, recurses := true, apart := false }
def CodeStepsSaid : Prop := codeStepsRow.holds Try.pinned (OpenSpec.ofChange codeStepsSpec)

/-- ITS FALSE NEIGHBOUR: 'it returns false'. Refute it at one input. -/
def codeStepsWrong : ChangeSpec := { name := "codeSteps", fn := fun _ => fun
  | [d] => { results := [.lit (.bool false)], args := [d] }
  | _ => none }
def CodeStepsWrongFalsely : Prop := codeStepsRow.holds Try.pinned (OpenSpec.ofChange codeStepsWrong)

/-- 'pianolalaw20.CodeEncodes': WHATEVER THE INPUT: true; the input reads as it did. -/
def codeEncodesSpec : ChangeSpec := { name := "codeEncodes", fn := fun _ => fun
  | [d] => { results := [.lit (.bool true)], args := [d] }
  | _ => none }
def codeEncodesRow : OpenClaim := { program := "ytfmpjbiaamkobaa", sum := "5ce07ebdc84f4a07c8a25deb8ec92269d96b372cac9800f1ad6f83a260c9fafd", func := "pianola/pianolalaw20.CodeEncodes", spec := "codeEncodes", unfollowed := true, recurses := true, apart := false }
def CodeEncodesSaid : Prop := codeEncodesRow.holds Try.pinned (OpenSpec.ofChange codeEncodesSpec)

/-- ITS FALSE NEIGHBOUR: 'it returns false'. Refute it at one input. -/
def codeEncodesWrong : ChangeSpec := { name := "codeEncodes", fn := fun _ => fun
  | [d] => { results := [.lit (.bool false)], args := [d] }
  | _ => none }
def CodeEncodesWrongFalsely : Prop := codeEncodesRow.holds Try.pinned (OpenSpec.ofChange codeEncodesWrong)

/-- 'pianolalaw20.CodeDecodes': WHATEVER THE INPUT: true; the input reads as it did. -/
def codeDecodesSpec : ChangeSpec := { name := "codeDecodes", fn := fun _ => fun
  | [d] => { results := [.lit (.bool true)], args := [d] }
  | _ => none }
def codeDecodesRow : OpenClaim := { program := "ytfmpjbiaamkobaa", sum := "5ce07ebdc84f4a07c8a25deb8ec92269d96b372cac9800f1ad6f83a260c9fafd", func := "pianola/pianolalaw20.CodeDecodes", spec := "codeDecodes", unfollowed := true, recurses := true, apart := false }
def CodeDecodesSaid : Prop := codeDecodesRow.holds Try.pinned (OpenSpec.ofChange codeDecodesSpec)

/-- ITS FALSE NEIGHBOUR: 'it returns false'. Refute it at one input. -/
def codeDecodesWrong : ChangeSpec := { name := "codeDecodes", fn := fun _ => fun
  | [d] => { results := [.lit (.bool false)], args := [d] }
  | _ => none }
def CodeDecodesWrongFalsely : Prop := codeDecodesRow.holds Try.pinned (OpenSpec.ofChange codeDecodesWrong)

/-- 'pianolalaw20.CodeBack': WHATEVER THE INPUT: true; the input reads as it did. -/
def codeBackSpec : ChangeSpec := { name := "codeBack", fn := fun _ => fun
  | [d] => { results := [.lit (.bool true)], args := [d] }
  | _ => none }
def codeBackRow : OpenClaim := { program := "ytfmpjbiaamkobaa", sum := "5ce07ebdc84f4a07c8a25deb8ec92269d96b372cac9800f1ad6f83a260c9fafd", func := "pianola/pianolalaw20.CodeBack", spec := "codeBack", unfollowed := true, recurses := true, apart := false }
def CodeBackSaid : Prop := codeBackRow.holds Try.pinned (OpenSpec.ofChange codeBackSpec)

/-- ITS FALSE NEIGHBOUR: 'it returns false'. Refute it at one input. -/
def codeBackWrong : ChangeSpec := { name := "codeBack", fn := fun _ => fun
  | [d] => { results := [.lit (.bool false)], args := [d] }
  | _ => none }
def CodeBackWrongFalsely : Prop := codeBackRow.holds Try.pinned (OpenSpec.ofChange codeBackWrong)

/-- 'pianolalaw20.CodeBytes': WHATEVER THE INPUT: true; the input reads as it did. -/
def codeBytesSpec : ChangeSpec := { name := "codeBytes", fn := fun _ => fun
  | [d] => { results := [.lit (.bool true)], args := [d] }
  | _ => none }
def codeBytesRow : OpenClaim := { program := "ytfmpjbiaamkobaa", sum := "5ce07ebdc84f4a07c8a25deb8ec92269d96b372cac9800f1ad6f83a260c9fafd", func := "pianola/pianolalaw20.CodeBytes", spec := "codeBytes", unfollowed := true, recurses := true, apart := false }
def CodeBytesSaid : Prop := codeBytesRow.holds Try.pinned (OpenSpec.ofChange codeBytesSpec)

/-- ITS FALSE NEIGHBOUR: 'it returns false'. Refute it at one input. -/
def codeBytesWrong : ChangeSpec := { name := "codeBytes", fn := fun _ => fun
  | [d] => { results := [.lit (.bool false)], args := [d] }
  | _ => none }
def CodeBytesWrongFalsely : Prop := codeBytesRow.holds Try.pinned (OpenSpec.ofChange codeBytesWrong)

/-- 'pianolalaw20.CodeCuts': WHATEVER THE INPUT: true; the input reads as it did. -/
def codeCutsSpec : ChangeSpec := { name := "codeCuts", fn := fun _ => fun
  | [d1, d2, d3] => { results := [.lit (.bool true)], args := [d1, d2, d3] }
  | _ => none }
def codeCutsRow : OpenClaim := { program := "ytfmpjbiaamkobaa", sum := "5ce07ebdc84f4a07c8a25deb8ec92269d96b372cac9800f1ad6f83a260c9fafd", func := "pianola/pianolalaw20.CodeCuts", spec := "codeCuts", unfollowed := true, recurses := true, apart := false }
def CodeCutsSaid : Prop := codeCutsRow.holds Try.pinned (OpenSpec.ofChange codeCutsSpec)

/-- ITS FALSE NEIGHBOUR: 'it returns false'. Refute it at one input. -/
def codeCutsWrong : ChangeSpec := { name := "codeCuts", fn := fun _ => fun
  | [d1, d2, d3] => { results := [.lit (.bool false)], args := [d1, d2, d3] }
  | _ => none }
def CodeCutsWrongFalsely : Prop := codeCutsRow.holds Try.pinned (OpenSpec.ofChange codeCutsWrong)

/-- 'pianolalaw20.CodeDone': WHATEVER THE INPUT: true; the input reads as it did. -/
def codeDoneSpec : ChangeSpec := { name := "codeDone", fn := fun _ => fun
  | [d] => { results := [.lit (.bool true)], args := [d] }
  | _ => none }
def codeDoneRow : OpenClaim := { program := "ytfmpjbiaamkobaa", sum := "5ce07ebdc84f4a07c8a25deb8ec92269d96b372cac9800f1ad6f83a260c9fafd", func := "pianola/pianolalaw20.CodeDone", spec := "codeDone", unfollowed := true, recurses := true, apart := false }
def CodeDoneSaid : Prop := codeDoneRow.holds Try.pinned (OpenSpec.ofChange codeDoneSpec)

/-- ITS FALSE NEIGHBOUR: 'it returns false'. Refute it at one input. -/
def codeDoneWrong : ChangeSpec := { name := "codeDone", fn := fun _ => fun
  | [d] => { results := [.lit (.bool false)], args := [d] }
  | _ => none }
def CodeDoneWrongFalsely : Prop := codeDoneRow.holds Try.pinned (OpenSpec.ofChange codeDoneWrong)

/-- 'pianolalaw20.CodeLines': WHATEVER THE INPUT: true; the input reads as it did. -/
def codeLinesSpec : ChangeSpec := { name := "codeLines", fn := fun _ => fun
  | [d] => { results := [.lit (.bool true)], args := [d] }
  | _ => none }
def codeLinesRow : OpenClaim := { program := "ytfmpjbiaamkobaa", sum := "5ce07ebdc84f4a07c8a25deb8ec92269d96b372cac9800f1ad6f83a260c9fafd", func := "pianola/pianolalaw20.CodeLines", spec := "codeLines", unfollowed := true, recurses := true, apart := false }
def CodeLinesSaid : Prop := codeLinesRow.holds Try.pinned (OpenSpec.ofChange codeLinesSpec)

/-- ITS FALSE NEIGHBOUR: 'it returns false'. Refute it at one input. -/
def codeLinesWrong : ChangeSpec := { name := "codeLines", fn := fun _ => fun
  | [d] => { results := [.lit (.bool false)], args := [d] }
  | _ => none }
def CodeLinesWrongFalsely : Prop := codeLinesRow.holds Try.pinned (OpenSpec.ofChange codeLinesWrong)

/- THE SECOND FORM. 'bulk': how many values and letters a reading holds, each counted each time it is reached (what is shared counts as often as it is met; a slice's spare places count too). A statement '..UptoSaid' is the law's where the arguments, and the package variables that the reading takes, are together of bulk at most 1048576: NARROWER than '..Said'. Prove '..Said' where nothing that the law and all that it calls make is longer than what came in: it says more and counts as full. Else prove '..UptoSaid'. A law counts once. -/
mutual
def uptoBulk {H : Type} : DataW H → Nat
  | .lit (.string bytes) => bytes.length + 1
  | .lit _ => 1
  | .nil => 1
  | .ptr d => uptoBulk d + 1
  | .slice elems spare => uptoBulkAll elems + uptoBulkAll spare + 1
  | .agg parts => uptoBulkAll parts + 1
  | .iface _ d => uptoBulk d + 1
  | .map entries => uptoBulkEntries entries + 1
  | .held _ => 1
def uptoBulkAll {H : Type} : List (DataW H) → Nat
  | [] => 0
  | d :: r => uptoBulk d + uptoBulkAll r
def uptoBulkEntries {H : Type} : List (Lit × DataW H) → Nat
  | [] => 0
  | x :: r => uptoBulkEntry x + uptoBulkEntries r
def uptoBulkEntry {H : Type} : Lit × DataW H → Nat
  | (.string bytes, d) => bytes.length + uptoBulk d + 1
  | (_, d) => uptoBulk d + 1
 end
def uptoSmall : (H : Type) → List (DataW H) → Bool := fun _ ds => decide (uptoBulkAll ds ≤ 1048576)
def OpenSpec.upto (s : _root_.Go.ChangeSpec) : _root_.Go.OpenSpec := { _root_.Go.OpenSpec.ofChange s with cond := some uptoSmall }

/-- 'pianolalaw20.CodeChecks', WHERE WHAT IT READS IS OF BULK AT MOST 1048576: true; the input reads as it did. -/
def codeChecksUptoRow : OpenClaim := { program := "ytfmpjbiaamkobaa", sum := "5ce07ebdc84f4a07c8a25deb8ec92269d96b372cac9800f1ad6f83a260c9fafd", func := "pianola/pianolalaw20.CodeChecks", spec := "codeChecks", unfollowed := true, recurses := true, apart := false, narrowed := true }
def CodeChecksUptoSaid : Prop := codeChecksUptoRow.holds Try.pinned (OpenSpec.upto codeChecksSpec)

/-- 'pianolalaw20.CodeSteps', WHERE WHAT IT READS IS OF BULK AT MOST 1048576: true; the input reads as it did. -/
def codeStepsUptoRow : OpenClaim := { program := "ytfmpjbiaamkobaa", sum := "5ce07ebdc84f4a07c8a25deb8ec92269d96b372cac9800f1ad6f83a260c9fafd", func := "pianola/pianolalaw20.CodeSteps", spec := "codeSteps", unfollowed := true, recurses := true, apart := false, narrowed := true }
def CodeStepsUptoSaid : Prop := codeStepsUptoRow.holds Try.pinned (OpenSpec.upto codeStepsSpec)

/-- 'pianolalaw20.CodeEncodes', WHERE WHAT IT READS IS OF BULK AT MOST 1048576: true; the input reads as it did. -/
def codeEncodesUptoRow : OpenClaim := { program := "ytfmpjbiaamkobaa", sum := "5ce07ebdc84f4a07c8a25deb8ec92269d96b372cac9800f1ad6f83a260c9fafd", func := "pianola/pianolalaw20.CodeEncodes", spec := "codeEncodes", unfollowed := true, recurses := true, apart := false, narrowed := true }
def CodeEncodesUptoSaid : Prop := codeEncodesUptoRow.holds Try.pinned (OpenSpec.upto codeEncodesSpec)

/-- 'pianolalaw20.CodeDecodes', WHERE WHAT IT READS IS OF BULK AT MOST 1048576: true; the input reads as it did. -/
def codeDecodesUptoRow : OpenClaim := { program := "ytfmpjbiaamkobaa", sum := "5ce07ebdc84f4a07c8a25deb8ec92269d96b372cac9800f1ad6f83a260c9fafd", func := "pianola/pianolalaw20.CodeDecodes", spec := "codeDecodes", unfollowed := true, recurses := true, apart := false, narrowed := true }
def CodeDecodesUptoSaid : Prop := codeDecodesUptoRow.holds Try.pinned (OpenSpec.upto codeDecodesSpec)

/-- 'pianolalaw20.CodeBack', WHERE WHAT IT READS IS OF BULK AT MOST 1048576: true; the input reads as it did. -/
def codeBackUptoRow : OpenClaim := { program := "ytfmpjbiaamkobaa", sum := "5ce07ebdc84f4a07c8a25deb8ec92269d96b372cac9800f1ad6f83a260c9fafd", func := "pianola/pianolalaw20.CodeBack", spec := "codeBack", unfollowed := true, recurses := true, apart := false, narrowed := true }
def CodeBackUptoSaid : Prop := codeBackUptoRow.holds Try.pinned (OpenSpec.upto codeBackSpec)

/-- 'pianolalaw20.CodeBytes', WHERE WHAT IT READS IS OF BULK AT MOST 1048576: true; the input reads as it did. -/
def codeBytesUptoRow : OpenClaim := { program := "ytfmpjbiaamkobaa", sum := "5ce07ebdc84f4a07c8a25deb8ec92269d96b372cac9800f1ad6f83a260c9fafd", func := "pianola/pianolalaw20.CodeBytes", spec := "codeBytes", unfollowed := true, recurses := true, apart := false, narrowed := true }
def CodeBytesUptoSaid : Prop := codeBytesUptoRow.holds Try.pinned (OpenSpec.upto codeBytesSpec)

/-- 'pianolalaw20.CodeCuts', WHERE WHAT IT READS IS OF BULK AT MOST 1048576: true; the input reads as it did. -/
def codeCutsUptoRow : OpenClaim := { program := "ytfmpjbiaamkobaa", sum := "5ce07ebdc84f4a07c8a25deb8ec92269d96b372cac9800f1ad6f83a260c9fafd", func := "pianola/pianolalaw20.CodeCuts", spec := "codeCuts", unfollowed := true, recurses := true, apart := false, narrowed := true }
def CodeCutsUptoSaid : Prop := codeCutsUptoRow.holds Try.pinned (OpenSpec.upto codeCutsSpec)

/-- 'pianolalaw20.CodeDone', WHERE WHAT IT READS IS OF BULK AT MOST 1048576: true; the input reads as it did. -/
def codeDoneUptoRow : OpenClaim := { program := "ytfmpjbiaamkobaa", sum := "5ce07ebdc84f4a07c8a25deb8ec92269d96b372cac9800f1ad6f83a260c9fafd", func := "pianola/pianolalaw20.CodeDone", spec := "codeDone", unfollowed := true, recurses := true, apart := false, narrowed := true }
def CodeDoneUptoSaid : Prop := codeDoneUptoRow.holds Try.pinned (OpenSpec.upto codeDoneSpec)

/-- 'pianolalaw20.CodeLines', WHERE WHAT IT READS IS OF BULK AT MOST 1048576: true; the input reads as it did. -/
def codeLinesUptoRow : OpenClaim := { program := "ytfmpjbiaamkobaa", sum := "5ce07ebdc84f4a07c8a25deb8ec92269d96b372cac9800f1ad6f83a260c9fafd", func := "pianola/pianolalaw20.CodeLines", spec := "codeLines", unfollowed := true, recurses := true, apart := false, narrowed := true }
def CodeLinesUptoSaid : Prop := codeLinesUptoRow.holds Try.pinned (OpenSpec.upto codeLinesSpec)

end Rows
end Go.Proofs.Ytfmpjbiaamkobaa
