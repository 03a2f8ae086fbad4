/-
  Layer 4: the document's Same; the law's moved.
-/
import Derived.Test.YtohalcbhckahmaaDoorLexF
namespace Go.Proofs.YtohalcbhckahmaaDoor
open Go Go.RowKit Go.Joins
set_option linter.all false

theorem toks_at {w : World} {ao : Option Addr} {l : List LTok} (h : SlAt w ao (l.flatMap tokCells)) {i : Nat} (hi : i < l.length) :
    ∃ b off, ao = some ⟨b, off, none⟩ ∧ w.cell? ⟨b, off + i * 4, none⟩ = some (.int .u8 l[i].sort) ∧ w.cell? ⟨b, off + i * 4 + 1, none⟩ = some (.string ⟨l[i].text.toArray⟩) ∧
      w.cell? ⟨b, off + i * 4 + 2, none⟩ = some (I l[i].num) ∧ w.cell? ⟨b, off + i * 4 + 3, none⟩ = some (I l[i].at_) := by
  obtain ⟨b, off, e, hc⟩ := lx_row h (by intro e; rw [e] at hi; simp at hi)
  exact ⟨b, off, e, hc i hi 0 (by omega), hc i hi 1 (by omega), hc i hi 2 (by omega), hc i hi 3 (by omega)⟩
/-- Tokens further on in a text. -/
def movedL (l : List LTok) (d : Nat) : List LTok := l.map fun t => { t with at_ := t.at_ + d }
theorem movedL_take (l : List LTok) (d k : Nat) : (movedL l d).take k = movedL (l.take k) d := by unfold movedL; rw [List.map_take]
end Go.Proofs.YtohalcbhckahmaaDoor
