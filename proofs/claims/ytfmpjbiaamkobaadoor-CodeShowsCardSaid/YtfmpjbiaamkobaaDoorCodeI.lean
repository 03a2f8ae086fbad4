/-
  Layer 20: the document's Check and the program's are one.
-/
import Derived.Test.YtfmpjbiaamkobaaDoorCodeH
namespace Go.Proofs.YtfmpjbiaamkobaaDoor
open Go Go.RowKit
set_option linter.all false

theorem stepsR_ok {p : Pg} (h : (stepsR p).2 = 0) : stepsR p = ((rowsS p.ops p.ops.length 0).1, 0) ∧ loopsE p.lims p.ops = 0 ∧ p.ops.length ≤ 131072 := by
  unfold stepsR at h ⊢
  rw [walkR_eq] at h ⊢
  revert h
  repeat' split
  all_goals intro h
  all_goals first
    | (exfalso; simp only at h; omega)
    | exact ⟨rfl, by assumption, by omega⟩
theorem stepsR_bad {p : Pg} (h : (stepsR p).2 ≠ 0) : stepsR p = (0, (stepsR p).2) := by
  unfold stepsR at h ⊢
  rw [walkR_eq] at h ⊢
  revert h
  repeat' split
  all_goals intro h
  all_goals first
    | rfl
    | (exfalso; exact h rfl)


end Go.Proofs.YtfmpjbiaamkobaaDoor
