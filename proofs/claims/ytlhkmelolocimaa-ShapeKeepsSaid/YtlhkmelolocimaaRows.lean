/-
  No cell of these rows narrows 'for every input' (looked for: loops, veiled, ifaces, maps, wideKeys, modest, calm, conditions, laid).
  DERIVED. THE GIVEN ROWS OF THIS SEAT. 6 by the template 'for every input the law returns true; each argument reads behind the call as it read before'; 0 by the template 'total and deterministic' (their statements: YtlhkmelolocimaaTotals.lean).
  GIVEN WITH THE SEED: the statements are not yours to turn. If you find one false, say at which input.
  Laid BY PROGRAM, IN A SANDBOX (cutbox-rows.mjs): the forced cells as the released guide's own fill.sh prints them over the translation 1bdcd05f596ec4b6… (all of the seat's roots in one cut). By AI agents, Wed Nov 11 2026. No macro, syntax, notation, axiom, sorry.
-/
import Derived.Test.YtlhkmelolocimaaChecked
import GoSem.Claim
import GoSem.ClaimJoined
import GoSem.ClaimMapViews
import Derived.JoinedTies
import Derived.KernelRfl
namespace Go.Proofs.Ytlhkmelolocimaa
/- THE CELL 'sum', in the pinned program and in every row, IS THE sha256 OF THE DUMP (.gsa) THAT YtlhkmelolocimaaProg.lean LOADS. Nothing in Lean hashes anything: it is a label: what it is worth is what the hold of that sum in a sandbox is worth. -/
noncomputable def Try.pinned : Pinned := { name := "ytlhkmelolocimaa", sum := "1bdcd05f596ec4b6da8e6a3284f0986c63cc7ae490d53d94eff75253cee488b4", checked := Try.checked }
namespace Rows
def none {H : Type} : Left H := { results := [], args := [] }

/-- 'pianolalaw06.ShapeOf': WHATEVER THE INPUT: true; the input reads as it did. -/
def shapeOfSpec : ChangeSpec := { name := "shapeOf", fn := fun _ => fun
  | [d1, d2] => { results := [.lit (.bool true)], args := [d1, d2] }
  | _ => none }
def shapeOfRow : OpenClaim := { program := "ytlhkmelolocimaa", sum := "1bdcd05f596ec4b6da8e6a3284f0986c63cc7ae490d53d94eff75253cee488b4", func := "pianola/pianolalaw06.ShapeOf", spec := "shapeOf", apart := false }
def ShapeOfSaid : Prop := shapeOfRow.holds Try.pinned (OpenSpec.ofChange shapeOfSpec)

/-- ITS FALSE NEIGHBOUR: 'it returns false'. Refute it at one input. -/
def shapeOfWrong : ChangeSpec := { name := "shapeOf", fn := fun _ => fun
  | [d1, d2] => { results := [.lit (.bool false)], args := [d1, d2] }
  | _ => none }
def ShapeOfWrongFalsely : Prop := shapeOfRow.holds Try.pinned (OpenSpec.ofChange shapeOfWrong)

/-- 'pianolalaw06.ShapeKeeps': WHATEVER THE INPUT: true; the input reads as it did. -/
def shapeKeepsSpec : ChangeSpec := { name := "shapeKeeps", fn := fun _ => fun
  | [d1, d2] => { results := [.lit (.bool true)], args := [d1, d2] }
  | _ => none }
def shapeKeepsRow : OpenClaim := { program := "ytlhkmelolocimaa", sum := "1bdcd05f596ec4b6da8e6a3284f0986c63cc7ae490d53d94eff75253cee488b4", func := "pianola/pianolalaw06.ShapeKeeps", spec := "shapeKeeps", apart := false }
def ShapeKeepsSaid : Prop := shapeKeepsRow.holds Try.pinned (OpenSpec.ofChange shapeKeepsSpec)

/-- ITS FALSE NEIGHBOUR: 'it returns false'. Refute it at one input. -/
def shapeKeepsWrong : ChangeSpec := { name := "shapeKeeps", fn := fun _ => fun
  | [d1, d2] => { results := [.lit (.bool false)], args := [d1, d2] }
  | _ => none }
def ShapeKeepsWrongFalsely : Prop := shapeKeepsRow.holds Try.pinned (OpenSpec.ofChange shapeKeepsWrong)

/-- 'pianolalaw06.ShapeTags': WHATEVER THE INPUT: true; the input reads as it did. -/
def shapeTagsSpec : ChangeSpec := { name := "shapeTags", fn := fun _ => fun
  | [d] => { results := [.lit (.bool true)], args := [d] }
  | _ => none }
def shapeTagsRow : OpenClaim := { program := "ytlhkmelolocimaa", sum := "1bdcd05f596ec4b6da8e6a3284f0986c63cc7ae490d53d94eff75253cee488b4", func := "pianola/pianolalaw06.ShapeTags", spec := "shapeTags", apart := false }
def ShapeTagsSaid : Prop := shapeTagsRow.holds Try.pinned (OpenSpec.ofChange shapeTagsSpec)

/-- ITS FALSE NEIGHBOUR: 'it returns false'. Refute it at one input. -/
def shapeTagsWrong : ChangeSpec := { name := "shapeTags", fn := fun _ => fun
  | [d] => { results := [.lit (.bool false)], args := [d] }
  | _ => none }
def ShapeTagsWrongFalsely : Prop := shapeTagsRow.holds Try.pinned (OpenSpec.ofChange shapeTagsWrong)

/-- 'pianolalaw06.ShapeSmall': WHATEVER THE INPUT: true; the input reads as it did. -/
def shapeSmallSpec : ChangeSpec := { name := "shapeSmall", fn := fun _ => fun
  | [d1, d2] => { results := [.lit (.bool true)], args := [d1, d2] }
  | _ => none }
def shapeSmallRow : OpenClaim := { program := "ytlhkmelolocimaa", sum := "1bdcd05f596ec4b6da8e6a3284f0986c63cc7ae490d53d94eff75253cee488b4", func := "pianola/pianolalaw06.ShapeSmall", spec := "shapeSmall", apart := false }
def ShapeSmallSaid : Prop := shapeSmallRow.holds Try.pinned (OpenSpec.ofChange shapeSmallSpec)

/-- ITS FALSE NEIGHBOUR: 'it returns false'. Refute it at one input. -/
def shapeSmallWrong : ChangeSpec := { name := "shapeSmall", fn := fun _ => fun
  | [d1, d2] => { results := [.lit (.bool false)], args := [d1, d2] }
  | _ => none }
def ShapeSmallWrongFalsely : Prop := shapeSmallRow.holds Try.pinned (OpenSpec.ofChange shapeSmallWrong)

/-- 'pianolalaw06.ShapeTurned': WHATEVER THE INPUT: true; the input reads as it did. -/
def shapeTurnedSpec : ChangeSpec := { name := "shapeTurned", fn := fun _ => fun
  | [d1, d2] => { results := [.lit (.bool true)], args := [d1, d2] }
  | _ => none }
def shapeTurnedRow : OpenClaim := { program := "ytlhkmelolocimaa", sum := "1bdcd05f596ec4b6da8e6a3284f0986c63cc7ae490d53d94eff75253cee488b4", func := "pianola/pianolalaw06.ShapeTurned", spec := "shapeTurned", apart := false }
def ShapeTurnedSaid : Prop := shapeTurnedRow.holds Try.pinned (OpenSpec.ofChange shapeTurnedSpec)

/-- ITS FALSE NEIGHBOUR: 'it returns false'. Refute it at one input. -/
def shapeTurnedWrong : ChangeSpec := { name := "shapeTurned", fn := fun _ => fun
  | [d1, d2] => { results := [.lit (.bool false)], args := [d1, d2] }
  | _ => none }
def ShapeTurnedWrongFalsely : Prop := shapeTurnedRow.holds Try.pinned (OpenSpec.ofChange shapeTurnedWrong)

/-- 'pianolalaw06.ShapeWords': WHATEVER THE INPUT: true; the input reads as it did. -/
def shapeWordsSpec : ChangeSpec := { name := "shapeWords", fn := fun _ => fun
  | [d] => { results := [.lit (.bool true)], args := [d] }
  | _ => none }
def shapeWordsRow : OpenClaim := { program := "ytlhkmelolocimaa", sum := "1bdcd05f596ec4b6da8e6a3284f0986c63cc7ae490d53d94eff75253cee488b4", func := "pianola/pianolalaw06.ShapeWords", spec := "shapeWords", apart := false }
def ShapeWordsSaid : Prop := shapeWordsRow.holds Try.pinned (OpenSpec.ofChange shapeWordsSpec)

/-- ITS FALSE NEIGHBOUR: 'it returns false'. Refute it at one input. -/
def shapeWordsWrong : ChangeSpec := { name := "shapeWords", fn := fun _ => fun
  | [d] => { results := [.lit (.bool false)], args := [d] }
  | _ => none }
def ShapeWordsWrongFalsely : Prop := shapeWordsRow.holds Try.pinned (OpenSpec.ofChange shapeWordsWrong)

/- THE SECOND FORM. 'bulk': how many values and letters a reading holds, each counted each time it is reached (what is shared counts as often as it is met; a slice's spare places count too). A statement '..UptoSaid' is the law's where the arguments, and the package variables that the reading takes, are together of bulk at most 1048576: NARROWER than '..Said'. Prove '..Said' where nothing that the law and all that it calls make is longer than what came in: it says more and counts as full. Else prove '..UptoSaid'. A law counts once. -/
mutual
def uptoBulk {H : Type} : DataW H → Nat
  | .lit (.string bytes) => bytes.length + 1
  | .lit _ => 1
  | .nil => 1
  | .ptr d => uptoBulk d + 1
  | .slice elems spare => uptoBulkAll elems + uptoBulkAll spare + 1
  | .agg parts => uptoBulkAll parts + 1
  | .iface _ d => uptoBulk d + 1
  | .map entries => uptoBulkEntries entries + 1
  | .held _ => 1
def uptoBulkAll {H : Type} : List (DataW H) → Nat
  | [] => 0
  | d :: r => uptoBulk d + uptoBulkAll r
def uptoBulkEntries {H : Type} : List (Lit × DataW H) → Nat
  | [] => 0
  | x :: r => uptoBulkEntry x + uptoBulkEntries r
def uptoBulkEntry {H : Type} : Lit × DataW H → Nat
  | (.string bytes, d) => bytes.length + uptoBulk d + 1
  | (_, d) => uptoBulk d + 1
 end
def uptoSmall : (H : Type) → List (DataW H) → Bool := fun _ ds => decide (uptoBulkAll ds ≤ 1048576)
def OpenSpec.upto (s : _root_.Go.ChangeSpec) : _root_.Go.OpenSpec := { _root_.Go.OpenSpec.ofChange s with cond := some uptoSmall }

/-- 'pianolalaw06.ShapeOf', WHERE WHAT IT READS IS OF BULK AT MOST 1048576: true; the input reads as it did. -/
def shapeOfUptoRow : OpenClaim := { program := "ytlhkmelolocimaa", sum := "1bdcd05f596ec4b6da8e6a3284f0986c63cc7ae490d53d94eff75253cee488b4", func := "pianola/pianolalaw06.ShapeOf", spec := "shapeOf", apart := false, narrowed := true }
def ShapeOfUptoSaid : Prop := shapeOfUptoRow.holds Try.pinned (OpenSpec.upto shapeOfSpec)

/-- 'pianolalaw06.ShapeKeeps', WHERE WHAT IT READS IS OF BULK AT MOST 1048576: true; the input reads as it did. -/
def shapeKeepsUptoRow : OpenClaim := { program := "ytlhkmelolocimaa", sum := "1bdcd05f596ec4b6da8e6a3284f0986c63cc7ae490d53d94eff75253cee488b4", func := "pianola/pianolalaw06.ShapeKeeps", spec := "shapeKeeps", apart := false, narrowed := true }
def ShapeKeepsUptoSaid : Prop := shapeKeepsUptoRow.holds Try.pinned (OpenSpec.upto shapeKeepsSpec)

/-- 'pianolalaw06.ShapeTags', WHERE WHAT IT READS IS OF BULK AT MOST 1048576: true; the input reads as it did. -/
def shapeTagsUptoRow : OpenClaim := { program := "ytlhkmelolocimaa", sum := "1bdcd05f596ec4b6da8e6a3284f0986c63cc7ae490d53d94eff75253cee488b4", func := "pianola/pianolalaw06.ShapeTags", spec := "shapeTags", apart := false, narrowed := true }
def ShapeTagsUptoSaid : Prop := shapeTagsUptoRow.holds Try.pinned (OpenSpec.upto shapeTagsSpec)

/-- 'pianolalaw06.ShapeSmall', WHERE WHAT IT READS IS OF BULK AT MOST 1048576: true; the input reads as it did. -/
def shapeSmallUptoRow : OpenClaim := { program := "ytlhkmelolocimaa", sum := "1bdcd05f596ec4b6da8e6a3284f0986c63cc7ae490d53d94eff75253cee488b4", func := "pianola/pianolalaw06.ShapeSmall", spec := "shapeSmall", apart := false, narrowed := true }
def ShapeSmallUptoSaid : Prop := shapeSmallUptoRow.holds Try.pinned (OpenSpec.upto shapeSmallSpec)

/-- 'pianolalaw06.ShapeTurned', WHERE WHAT IT READS IS OF BULK AT MOST 1048576: true; the input reads as it did. -/
def shapeTurnedUptoRow : OpenClaim := { program := "ytlhkmelolocimaa", sum := "1bdcd05f596ec4b6da8e6a3284f0986c63cc7ae490d53d94eff75253cee488b4", func := "pianola/pianolalaw06.ShapeTurned", spec := "shapeTurned", apart := false, narrowed := true }
def ShapeTurnedUptoSaid : Prop := shapeTurnedUptoRow.holds Try.pinned (OpenSpec.upto shapeTurnedSpec)

/-- 'pianolalaw06.ShapeWords', WHERE WHAT IT READS IS OF BULK AT MOST 1048576: true; the input reads as it did. -/
def shapeWordsUptoRow : OpenClaim := { program := "ytlhkmelolocimaa", sum := "1bdcd05f596ec4b6da8e6a3284f0986c63cc7ae490d53d94eff75253cee488b4", func := "pianola/pianolalaw06.ShapeWords", spec := "shapeWords", apart := false, narrowed := true }
def ShapeWordsUptoSaid : Prop := shapeWordsUptoRow.holds Try.pinned (OpenSpec.upto shapeWordsSpec)

end Rows
end Go.Proofs.Ytlhkmelolocimaa
