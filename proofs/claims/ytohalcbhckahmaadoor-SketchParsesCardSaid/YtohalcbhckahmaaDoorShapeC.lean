/-
  Walks, third part: the reference's table of rates.
-/
import Derived.Test.YtohalcbhckahmaaDoorShapeB
import Derived.Deep.RegionWith
import Derived.Deep.RegionHeld3
namespace Go.Proofs.YtohalcbhckahmaaDoor
open Go Go.RowKit
set_option linter.all false

/-- The table's rates. -/
def rates (tag : Int) (ps : List Int) : List Int × List Int :=
  let n := ps.getD 0 0
  let m := ps.getD 1 0
  if tag = 2 then ([1], [n])
  else if tag = 3 then ([n], [1])
  else if tag = 4 then (List.replicate n.toNat m, [n * m])
  else if tag = 5 then ([n * m], List.replicate n.toNat m)
  else if tag = 6 then (List.replicate n.toNat 1, [1])
  else if tag = 7 then ([1, 1], [1])
  else if tag = 9 then ([1], List.replicate n.toNat 1)
  else if tag = 10 then ([], [1])
  else if tag = 11 then ([n], [])
  else ([1], [1])

/-- What Of answers: the error, the rates. -/
def shapeS (tag : Int) (ps : List Int) : Int × List Int × List Int :=
  if 1 ≤ tag ∧ tag ≤ 11 then (if goodS tag ps then (0, rates tag ps) else (61, [], [])) else (60, [], [])

/-- Two lists of the call's own, apart from one another, and the error. -/
def Rates (w : World) (r : Int × List Int × List Int) (e : Ending) (w' : World) : Prop :=
  ∃ a ca b cb, e = .returned (.tuple #[.slice a r.2.1.length ca, .slice b r.2.2.length cb, I r.1]) ∧ OwnI w' w.heap.size a ca r.2.1 ∧ OwnI w' w.heap.size b cb r.2.2 ∧
    (∀ x y, a = some x → b = some y → x.block ≠ y.block) ∧ New w w'

theorem OwnI.nil (w : World) (B : Nat) : OwnI w B Option.none 0 [] := World.ownsRow_nil _ _ _ _

theorem Rates.none (w w' : World) (k : Int) (h : New w w') : Rates w (k, [], []) (.returned (.tuple #[.slice none 0 0, .slice none 0 0, I k])) w' :=
  ⟨Option.none, 0, Option.none, 0, rfl, World.ownsRow_nil _ _ _ _, World.ownsRow_nil _ _ _ _, (fun x y h => by cases h), h⟩

theorem Rates.mk {w w0 w1 w2 : World} {a b : Option Addr} {ca cb na nb : Nat} {xs ys xs' ys' : List Int} (h0 : New w w0) (ha : OwnI w1 w0.heap.size a ca xs) (h1 : New w0 w1) (hb : OwnI w2 w1.heap.size b cb ys) (h2 : New w1 w2)
    (hxs : xs = xs' ∧ na = xs'.length) (hys : ys = ys' ∧ nb = ys'.length) :
    Rates w (0, xs', ys') (.returned (.tuple #[.slice a na ca, .slice b nb cb, I 0])) w2 := by
  obtain ⟨rfl, rfl⟩ := hxs
  obtain ⟨rfl, rfl⟩ := hys
  have s0 := h0.size
  have s1 := h1.size
  exact ⟨a, ca, b, cb, rfl, ownsRow_rebase (ha.new h2) (fun k hk => by have := World.ownsRow.lt ha k hk; omega), ownsRow_rebase hb (fun k hk => by have := World.ownsRow.lt hb k hk; omega),
    (fun x y hx hy => by have := ha.lt x hx; have := hb.lt y hy; omega), (h0.trans h1).trans h2⟩

theorem Rates.fst {w w0 w1 : World} {a : Option Addr} {ca na : Nat} {xs xs' : List Int} (h0 : New w w0) (ha : OwnI w1 w0.heap.size a ca xs) (h1 : New w0 w1) (hxs : xs = xs' ∧ na = xs'.length) :
    Rates w (0, xs', []) (.returned (.tuple #[.slice a na ca, .slice Option.none 0 0, I 0])) w1 :=
  Rates.mk h0 ha h1 (OwnI.nil _ _) (New.refl w1) hxs ⟨rfl, rfl⟩

theorem Rates.snd {w w0 w1 : World} {a : Option Addr} {ca na : Nat} {xs xs' : List Int} (h0 : New w w0) (ha : OwnI w1 w0.heap.size a ca xs) (h1 : New w0 w1) (hxs : xs = xs' ∧ na = xs'.length) :
    Rates w (0, [], xs') (.returned (.tuple #[.slice Option.none 0 0, .slice a na ca, I 0])) w1 :=
  Rates.mk h0 (OwnI.nil _ _) (New.refl w0) ha h1 ⟨rfl, rfl⟩ hxs



end Go.Proofs.YtohalcbhckahmaaDoor
