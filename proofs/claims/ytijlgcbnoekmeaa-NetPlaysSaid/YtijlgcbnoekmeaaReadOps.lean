/-
  A script of calls that came in, read as a fact for the walks.
-/
import Derived.Test.YtijlgcbnoekmeaaRead
import Derived.Test.YtijlgcbnoekmeaaMem3
import Derived.Test.YtijlgcbnoekmeaaShapeA
namespace Go.Proofs.Ytijlgcbnoekmeaa
open Go Go.RowKit Go.ChangeShapes Go.WideShapes Go.ChangeAt Go.Deep Go.Joins
set_option linter.all false

/-- A call of a script. -/
structure CallD where
  ask : Int
  a : Option Addr
  c : Nat
  xs : List Int
def callCells (o : CallD) : List Value := [I o.ask, .slice o.a o.xs.length o.c]
theorem callCells_len (o : CallD) : (callCells o).length = 2 := rfl

theorem weightsAll_mem {H : Type} {P : Program} {e : TypeId} {l : List (DataW H)} {d : DataW H} (h : d ∈ l) {m : Nat} (hm : m ∈ d.weights P e) : m ∈ DataW.weightsAll P e l := by
  induction l with
  | nil => cases h
  | cons x r ih =>
    simp only [DataW.weightsAll, List.mem_append]
    rcases List.mem_cons.1 h with rfl | h
    · exact .inl hm
    · exact .inr (ih h)

set_option maxRecDepth 100000 in
theorem read_ops {H : Type} {enc : TypeId × Value → H} {W : World} {a : Option Addr} {n c : Nat} {d : DataW H} {ps : List MemPlace}
    (h : DataW.Trod enc Try.prog W 0 (fun _ => true) true 34 (.slice a n c) d ps) :
    ∃ ops : List CallD, n = ops.length ∧ SlAt W a (ops.flatMap callCells) ∧ (∀ o ∈ ops, SlAt W o.a (Is o.xs)) ∧ n ≤ maxLen ∧ ∀ B, (∀ m ∈ d.weights Try.prog 34, m ≤ B) → ∀ o ∈ ops, o.xs.length * 8 ≤ B := by
  obtain ⟨fuel, hf⟩ := h
  rcases open_slice_fields Try.underlying34 Try.underlying42 (by kernel_rfl) (by kernel_rfl) hf with ⟨hcs, hx⟩ | ⟨x, len, cap, m, D, Pl, hcs, _, hl, hm, hmm, hx, hi⟩
  · simp [Value.cells] at hcs
    obtain ⟨rfl, rfl, rfl⟩ := hcs
    exact ⟨[], rfl, SlAt.nil _ _, by simp, by simp, by simp⟩
  · simp [Value.cells] at hcs
    obtain ⟨rfl, rfl, rfl⟩ := hcs
    simp only [if_true] at hmm
    subst hmm
    simp only [Prod.mk.injEq] at hx
    have hone : ∀ i, i < n → ∃ o : CallD, (∀ j, j < 2 → W.cell? (x.add (i * 2 + j)) = (callCells o)[j]?) ∧ SlAt W o.a (Is o.xs) ∧ (o.xs = [] ∨ o.xs.length * 8 ∈ (D i).weights Try.prog 42 ∨ ∃ s, (o.xs.length + s) * 8 ∈ (D i).weights Try.prog 42) := by
      intro i hin
      obtain ⟨ys, k, hD, _, hyl, hfd⟩ := hi i (by omega)
      obtain ⟨v0, y0, c0, g0, t0⟩ := hfd 0 _ rfl
      obtain ⟨v1, y1, c1, g1, t1⟩ := hfd 1 _ rfl
      obtain ⟨z, e0, -, -⟩ := DataW.trod_int Try.underlying3 t0
      simp only [List.cons.injEq, and_true] at e0
      subst e0
      have hv : ∃ a' n' c', v1 = .slice a' n' c' := by
        rcases open_ints Try.underlying37 Try.underlying3 (by kernel_rfl) t1 with ⟨h1, _⟩ | ⟨x1, l1, c1, zs, h1, _⟩
        · simp at h1; exact ⟨_, _, _, h1⟩
        · simp at h1; exact ⟨_, _, _, h1⟩
      obtain ⟨a', n', c', rfl⟩ := hv
      obtain ⟨xs, rfl, hs, _, _, _, hd⟩ := read_ints (a := a') (n := n') (c := c') (d := y1.1) (ps := y1.2) (W := W) (enc := enc) ⟨k, t1⟩
      refine ⟨⟨z, a', c', xs⟩, fun j hj => ?_, hs, ?_⟩
      · match j, hj with
        | 0, _ => exact c0
        | 1, _ => exact c1
      · rcases hd with ⟨_, e⟩ | ⟨sp, e⟩
        · exact .inl e
        · refine .inr (.inr ⟨sp.length, ?_⟩)
          have hys : ys.map (·.1) = [y0.1, y1.1] := by
            match ys, hyl with
            | [u0, u1], _ =>
              simp only [List.getElem?_cons_zero, List.getElem?_cons_succ, Option.some.injEq] at g0 g1
              rw [g0, g1]; rfl
          rw [hD, hys, e]
          have hb : Try.prog.bytesOf 3 = 8 := by kernel_rfl
          simp [DataW.weights, DataW.weightsEach, Try.underlying42, Try.underlying37, lits_len, hb]
    obtain ⟨ops, hlen, hat⟩ := choose_list n hone
    subst hlen
    refine ⟨ops, rfl, sl_rows callCells 2 callCells_len ops (fun i hi j hj => (hat i hi).1 j hj), ?_, by omega, ?_⟩
    · intro o ho
      obtain ⟨i, hi, rfl⟩ := List.getElem_of_mem ho
      exact (hat i hi).2.1
    · intro B hB o ho
      obtain ⟨i, hi, rfl⟩ := List.getElem_of_mem ho
      have hin : ∀ m, m ∈ (D i).weights Try.prog 42 → m ∈ d.weights Try.prog 34 := by
        intro m hm
        rw [hx.1]
        simp only [DataW.weights, Try.underlying34, List.mem_cons, List.mem_append]
        exact .inr (.inl (weightsAll_mem (List.mem_map.2 ⟨i, by simpa using hi, rfl⟩) hm))
      rcases (hat i hi).2.2 with e | e | ⟨s, e⟩
      · rw [e]; simp
      · exact hB _ (hin _ e)
      · have := hB _ (hin _ e); omega
end Go.Proofs.Ytijlgcbnoekmeaa
