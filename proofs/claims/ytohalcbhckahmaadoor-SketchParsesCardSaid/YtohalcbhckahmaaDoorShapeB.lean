/-
  Walks, second part: shape's own lists, the reference's tests on parameters, the lists that are lent.
-/
import Derived.Test.YtohalcbhckahmaaDoorShapeA
namespace Go.Proofs.YtohalcbhckahmaaDoor
open Go Go.RowKit
set_option linter.all false

theorem ret_bool {a b : Bool} (h : a = b) : Ending.returned (.bool a) = .returned (.bool b) := by rw [h]

/-- ref: one(params, most). -/
def oneS (ps : List Int) (most : Int) : Bool := match ps with
  | [n] => decide (1 ≤ n ∧ n ≤ most)
  | _ => false

/-- ref: two(params). -/
def twoS (ps : List Int) : Bool := match ps with
  | [n, m] => decide (1 ≤ n ∧ n ≤ 16 ∧ 1 ≤ m ∧ m ≤ 64 ∧ n * m ≤ 64)
  | _ => false

/-- ref: good(tag, params). -/
def goodS (tag : Int) (ps : List Int) : Bool :=
  if tag = 1 then decide (1 ≤ ps.length ∧ ps.length ≤ 16)
  else if tag = 2 ∨ tag = 3 ∨ tag = 11 then oneS ps 64
  else if tag = 4 ∨ tag = 5 then twoS ps
  else if tag = 6 ∨ tag = 9 then oneS ps 16
  else if tag = 10 then decide (ps.length = 2)
  else decide (ps.length = 0)


end Go.Proofs.YtohalcbhckahmaaDoor
