/-
  Walks of the small functions of layer 6 and of the lists that both sides share: what each call returns, and what it keeps.
-/
import Derived.Test.YtmmoocbnmjmfeaaDoorChecked
import Derived.Test.YtmmoocbnmjmfeaaDoorMem
import Derived.Outline
import Derived.Deep.DeepMust
namespace Go.Proofs.YtmmoocbnmjmfeaaDoor
open Go Go.RowKit
set_option linter.all false

abbrev I (n : Int) : Value := .int .i64 n
abbrev Is (xs : List Int) : List Value := xs.map (Value.int .i64)

theorem Tryd.infoInt : (Tryd.prog.info? 3).map (fun i => (i.zero, i.size, i.bytes)) = some (some (.int .i64 0), 1, 8) := by kernel_rfl

/-- An owned list of ints. -/
def OwnI (w : World) (B : Nat) (ao : Option Addr) (c : Nat) (xs : List Int) : Prop := w.ownsRow B 3 1 (.slice ao xs.length c) xs.length (Is xs)

theorem OwnI.sl {w : World} {B : Nat} {ao : Option Addr} {c : Nat} {xs : List Int} (h : OwnI w B ao c xs) : SlAt w ao (Is xs) := SlAt.of_owns h
theorem OwnI.new {w w' : World} {B : Nat} {ao : Option Addr} {c : Nat} {xs : List Int} (h : OwnI w B ao c xs) (k : New w w') : OwnI w' B ao c xs := k.owns h
theorem OwnI.lt {w : World} {B : Nat} {ao : Option Addr} {c : Nat} {xs : List Int} (h : OwnI w B ao c xs) : ∀ a, ao = some a → B ≤ a.block ∧ a.block < w.heap.size := fun a ha =>
  World.ownsRow.lt h a.block (by subst ha; rfl)

theorem Is_at {w : World} {ao : Option Addr} {xs : List Int} (h : SlAt w ao (Is xs)) {i : Nat} (hi : i < xs.length) :
    ∃ b off, ao = some ⟨b, off, none⟩ ∧ w.cell? ⟨b, off + i, none⟩ = some (.int .i64 xs[i]) := by
  obtain ⟨b, off, e, c⟩ := h.at (i := i) (by simpa using hi)
  exact ⟨b, off, e, by rw [c]; simp⟩


end Go.Proofs.YtmmoocbnmjmfeaaDoor
