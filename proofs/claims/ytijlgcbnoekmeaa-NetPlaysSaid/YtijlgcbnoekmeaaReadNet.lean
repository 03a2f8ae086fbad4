/-
  A net that came in, read as a fact for the walks.
-/
import Derived.Test.YtijlgcbnoekmeaaRead
import Derived.Test.YtijlgcbnoekmeaaMem3
import Derived.Test.YtijlgcbnoekmeaaNetA
namespace Go.Proofs.Ytijlgcbnoekmeaa
open Go Go.RowKit Go.ChangeShapes Go.WideShapes Go.ChangeAt Go.Deep Go.Joins
set_option linter.all false

theorem arcCells_len (a : ArcD) : (arcCells a).length = 5 := rfl

/-- A slice of arcs that came in. -/
theorem read_arcs {H : Type} {enc : TypeId × Value → H} {W : World} {fuel : Nat} {v : Value} {y : DataW H × List MemPlace}
    (h : DataW.trod enc Try.prog W 0 (fun _ => true) true fuel 22 [v] = some y) :
    ∃ (ao : Option Addr) (c : Nat) (arcs : List ArcD), v = .slice ao arcs.length c ∧ SlAt W ao (arcsCells arcs) ∧ arcs.length ≤ maxLen ∧ (y.1 = .nil ∧ arcs = [] ∨ ∃ es sp, y.1 = .slice es sp ∧ es.length = arcs.length) := by
  rcases open_slice_fields Try.underlying22 Try.underlying36 (by kernel_rfl) (by kernel_rfl) h with ⟨hcs, hx⟩ | ⟨a, len, cap, m, D, Pl, hcs, _, hl, hm, hmm, hx, hi⟩
  · simp only [List.cons.injEq, and_true] at hcs
    subst hcs; subst hx
    exact ⟨none, 0, [], rfl, SlAt.nil _ _, by simp, .inl ⟨rfl, rfl⟩⟩
  · simp only [List.cons.injEq, and_true] at hcs
    simp only [if_true] at hmm
    subst hcs; subst hx; subst hmm
    have hone : ∀ i, i < len → ∃ x : ArcD, ∀ j, j < 5 → W.cell? (a.add (i * 5 + j)) = (arcCells x)[j]? := by
      intro i hil
      obtain ⟨ys, n, _, _, _, hf⟩ := hi i (by omega)
      obtain ⟨v0, y0, c0, -, t0⟩ := hf 0 _ rfl
      obtain ⟨v1, y1, c1, -, t1⟩ := hf 1 _ rfl
      obtain ⟨v2, y2, c2, -, t2⟩ := hf 2 _ rfl
      obtain ⟨v3, y3, c3, -, t3⟩ := hf 3 _ rfl
      obtain ⟨v4, y4, c4, -, t4⟩ := hf 4 _ rfl
      obtain ⟨n0, e0, -, -⟩ := DataW.trod_int Try.underlying3 t0
      obtain ⟨n1, e1, -, -⟩ := DataW.trod_int Try.underlying3 t1
      obtain ⟨n2, e2, -, -⟩ := DataW.trod_int Try.underlying3 t2
      obtain ⟨n3, e3, -, -⟩ := DataW.trod_int Try.underlying3 t3
      obtain ⟨n4, e4, -, -⟩ := DataW.trod_int Try.underlying3 t4
      simp only [List.cons.injEq, and_true] at e0 e1 e2 e3 e4
      subst e0 e1 e2 e3 e4
      refine ⟨⟨n0, n1, n2, n3, n4⟩, fun j hj => ?_⟩
      match j, hj with
      | 0, _ => exact c0
      | 1, _ => exact c1
      | 2, _ => exact c2
      | 3, _ => exact c3
      | 4, _ => exact c4
    obtain ⟨arcs, hlen, hat⟩ := choose_list len hone
    subst hlen
    exact ⟨some a, _, arcs, rfl, sl_rows arcCells 5 arcCells_len arcs (fun i hi j hj => hat i hi j hj), by omega, .inr ⟨_, _, rfl, by simp⟩⟩

set_option maxRecDepth 100000 in
/-- A net that came in. -/
theorem read_net {H : Type} {enc : TypeId × Value → H} {W : World} {r : Reach} {b0 : Nat} {v : Value} {d : DataW H} {p : List MemPlace} (hv : Value.okWide Try.prog W r b0 24 v)
    (h : DataW.Trod enc Try.prog W 0 (fun _ => true) true 24 v d p) :
    ∃ (nodes : Int) (ao : Option Addr) (c : Nat) (arcs : List ArcD), v = .agg #[I nodes, .slice ao arcs.length c] ∧ (Lit.int .i64 nodes).wf = true ∧ SlAt W ao (arcsCells arcs) ∧ arcs.length ≤ maxLen ∧
      ∃ d0 d1, d = .agg [d0, d1] ∧ (d1 = .nil ∧ arcs = [] ∨ ∃ es sp, d1 = .slice es sp ∧ es.length = arcs.length) := by
  obtain ⟨v0, v1, y0, y1, n, rfl, rfl, -, h0, h1⟩ := open_agg2 Try.underlying24 (by kernel_rfl) (by kernel_rfl) hv h
  obtain ⟨z, e0, -, hw⟩ := DataW.trod_int Try.underlying3 h0
  obtain ⟨ao, c, arcs, rfl, hs, hl, hd⟩ := read_arcs h1
  simp only [List.cons.injEq, and_true] at e0
  subst e0
  exact ⟨z, ao, c, arcs, rfl, hw, hs, hl, _, _, rfl, hd⟩
end Go.Proofs.Ytijlgcbnoekmeaa
