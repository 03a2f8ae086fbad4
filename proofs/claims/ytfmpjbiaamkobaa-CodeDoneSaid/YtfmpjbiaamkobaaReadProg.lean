/-
  A program that came in, read as a fact for the walks.
-/
import Derived.Test.YtfmpjbiaamkobaaRead
import Derived.Test.YtfmpjbiaamkobaaCodeN
namespace Go.Proofs.Ytfmpjbiaamkobaa
open Go Go.RowKit Go.ChangeShapes Go.WideShapes Go.ChangeAt Go.Deep Go.Joins
set_option linter.all false

section
variable {H : Type} {enc : TypeId × Value → H} {P : Program} {w : World} {base : Nat} {spare : Nat → Bool} {held : Bool}
theorem open_agg7 {r : Reach} {b0 : Nat} {t : TypeId} {f0 f1 f2 f3 f4 f5 f6 : Field} {v : Value} {d : DataW H} {p : List MemPlace} (hs : P.underlying t = some (.struct #[f0, f1, f2, f3, f4, f5, f6])) (hone : oneCellFields P #[f0, f1, f2, f3, f4, f5, f6] = true) (hC : P.cellsOf t = 7)
    (hv : Value.okWide P w r b0 t v) (h : DataW.Trod enc P w base spare held t v d p) :
    ∃ (v0 v1 v2 v3 v4 v5 v6 : Value) (y0 y1 y2 y3 y4 y5 y6 : DataW H × List MemPlace) (n : Nat), v = .agg #[v0, v1, v2, v3, v4, v5, v6] ∧ d = .agg [y0.1, y1.1, y2.1, y3.1, y4.1, y5.1, y6.1] ∧
      DataW.trod enc P w base spare held n f0.type [v0] = some y0 ∧ DataW.trod enc P w base spare held n f1.type [v1] = some y1 ∧ DataW.trod enc P w base spare held n f2.type [v2] = some y2 ∧ DataW.trod enc P w base spare held n f3.type [v3] = some y3 ∧ DataW.trod enc P w base spare held n f4.type [v4] = some y4 ∧ DataW.trod enc P w base spare held n f5.type [v5] = some y5 ∧ DataW.trod enc P w base spare held n f6.type [v6] = some y6 := by
  obtain ⟨cs, rfl, hsz⟩ := okWide_struct hs hv
  obtain ⟨l⟩ := cs
  match l, hsz.trans hC with
  | [c0, c1, c2, c3, c4, c5, c6], _ =>
    obtain ⟨fuel, hf⟩ := h
    obtain ⟨xs, n, _, hx, _, hlen, hg⟩ := DataW.trod_struct hs hf
    obtain ⟨o0, k0⟩ := hone_of hone 0 f0 rfl
    obtain ⟨o1, k1⟩ := hone_of hone 1 f1 rfl
    obtain ⟨o2, k2⟩ := hone_of hone 2 f2 rfl
    obtain ⟨o3, k3⟩ := hone_of hone 3 f3 rfl
    obtain ⟨o4, k4⟩ := hone_of hone 4 f4 rfl
    obtain ⟨o5, k5⟩ := hone_of hone 5 f5 rfl
    obtain ⟨o6, k6⟩ := hone_of hone 6 f6 rfl
    match xs, hlen with
    | [y0, y1, y2, y3, y4, y5, y6], _ =>
      simp only [Prod.mk.injEq] at hx
      exact ⟨c0, c1, c2, c3, c4, c5, c6, y0, y1, y2, y3, y4, y5, y6, n, rfl, by simpa using hx.1, by simpa [Value.cells, o0, k0] using hg 0 f0 rfl, by simpa [Value.cells, o1, k1] using hg 1 f1 rfl, by simpa [Value.cells, o2, k2] using hg 2 f2 rfl, by simpa [Value.cells, o3, k3] using hg 3 f3 rfl, by simpa [Value.cells, o4, k4] using hg 4 f4 rfl, by simpa [Value.cells, o5, k5] using hg 5 f5 rfl, by simpa [Value.cells, o6, k6] using hg 6 f6 rfl⟩
end

theorem i64_of_wf {x : Int} (h : (Lit.int .i64 x).wf = true) : i64B x := wf_i64 h
/-- A list of ints in a field. -/
theorem read_intsF {H : Type} {enc : TypeId × Value → H} {W : World} {n : Nat} {v : Value} {y : DataW H × List MemPlace}
    (h : DataW.trod enc Try.prog W 0 (fun _ => true) true n 43 [v] = some y) :
    ∃ a c xs, v = .slice a xs.length c ∧ SlAt W a (Is xs) ∧ (∀ x ∈ xs, i64B x) ∧ xs.length ≤ maxLen ∧ (y.1 = .nil ∧ xs = [] ∨ ∃ sp, y.1 = .slice (lits .i64 xs) sp) := by
  have hv : ∃ a' n' c', v = .slice a' n' c' := by
    rcases open_ints Try.underlying43 Try.underlying3 (by kernel_rfl) h with ⟨h1, _⟩ | ⟨x1, l1, c1, zs, h1, _⟩
    · simp at h1; exact ⟨_, _, _, h1⟩
    · simp at h1; exact ⟨_, _, _, h1⟩
  obtain ⟨a', n', c', rfl⟩ := hv
  obtain ⟨xs, rfl, hs, hw, hl, _, hd⟩ := read_ints (a := a') (n := n') (c := c') (d := y.1) (ps := y.2) (W := W) (enc := enc) ⟨n, h⟩
  exact ⟨a', c', xs, rfl, hs, fun x hx => i64_of_wf (hw x hx), hl, hd⟩

theorem read_cparts {H : Type} {enc : TypeId × Value → H} {W : World} {fuel : Nat} {v : Value} {y : DataW H × List MemPlace}
    (h : DataW.trod enc Try.prog W 0 (fun _ => true) true fuel 22 [v] = some y) :
    ∃ (ao : Option Addr) (c : Nat) (l : List PartD), v = .slice ao l.length c ∧ SlAt W ao (l.flatMap partCells) ∧ (∀ x ∈ l, SlAt W x.a (Is x.xs) ∧ (∀ y ∈ x.xs, i64B y) ∧ x.xs.length ≤ maxLen) ∧ l.length ≤ maxLen := by
  rcases open_slice_fields Try.underlying22 Try.underlying45 (by kernel_rfl) (by kernel_rfl) h with ⟨hcs, hx⟩ | ⟨a, len, cap, m, D, Pl, hcs, _, hl, hm, hmm, hx, hi⟩
  · simp only [List.cons.injEq, and_true] at hcs
    subst hcs
    exact ⟨none, 0, [], rfl, SlAt.nil _ _, by simp, by simp⟩
  · simp only [List.cons.injEq, and_true] at hcs
    simp only [if_true] at hmm
    subst hcs; subst hmm
    have hone : ∀ i, i < len → ∃ x : PartD, (∀ j, j < 2 → W.cell? (a.add (i * 2 + j)) = (partCells x)[j]?) ∧ SlAt W x.a (Is x.xs) ∧ (∀ y ∈ x.xs, i64B y) ∧ x.xs.length ≤ maxLen := by
      intro i hil
      obtain ⟨ys, n, _, _, _, hf⟩ := hi i (by omega)
      obtain ⟨v0, y0, c0, -, t0⟩ := hf 0 _ rfl
      obtain ⟨v1, y1, c1, -, t1⟩ := hf 1 _ rfl
      obtain ⟨n0, e0, -, -⟩ := DataW.trod_int Try.underlying42 t0
      simp only [List.cons.injEq, and_true] at e0
      subst e0
      obtain ⟨a1, c1', xs, rfl, hs, hw, hl, _⟩ := read_intsF t1
      refine ⟨⟨n0, a1, c1', xs⟩, fun j hj => ?_, hs, hw, hl⟩
      match j, hj with
      | 0, _ => exact c0
      | 1, _ => exact c1
    obtain ⟨l, hlen, hat⟩ := choose_list len hone
    subst hlen
    refine ⟨some a, _, l, rfl, sl_rows partCells 2 partCells_len l (fun i hi j hj => (hat i hi).1 j hj), fun x hx => ?_, by omega⟩
    obtain ⟨i, hi, rfl⟩ := List.getElem_of_mem hx
    exact (hat i hi).2

theorem read_cops {H : Type} {enc : TypeId × Value → H} {W : World} {fuel : Nat} {v : Value} {y : DataW H × List MemPlace}
    (h : DataW.trod enc Try.prog W 0 (fun _ => true) true fuel 24 [v] = some y) :
    ∃ (ao : Option Addr) (c : Nat) (l : List OpD), v = .slice ao l.length c ∧ SlAt W ao (l.flatMap opCells) ∧ l.length ≤ maxLen := by
  rcases open_slice_fields Try.underlying24 Try.underlying53 (by kernel_rfl) (by kernel_rfl) h with ⟨hcs, hx⟩ | ⟨a, len, cap, m, D, Pl, hcs, _, hl, hm, hmm, hx, hi⟩
  · simp only [List.cons.injEq, and_true] at hcs
    subst hcs
    exact ⟨none, 0, [], rfl, SlAt.nil _ _, by simp⟩
  · simp only [List.cons.injEq, and_true] at hcs
    simp only [if_true] at hmm
    subst hcs; subst hmm
    have hone : ∀ i, i < len → ∃ x : OpD, ∀ j, j < 3 → W.cell? (a.add (i * 3 + j)) = (opCells x)[j]? := by
      intro i hil
      obtain ⟨ys, n, _, _, _, hf⟩ := hi i (by omega)
      obtain ⟨v0, y0, c0, -, t0⟩ := hf 0 _ rfl
      obtain ⟨v1, y1, c1, -, t1⟩ := hf 1 _ rfl
      obtain ⟨v2, y2, c2, -, t2⟩ := hf 2 _ rfl
      obtain ⟨n0, e0, -, -⟩ := DataW.trod_int Try.underlying51 t0
      obtain ⟨n1, e1, -, -⟩ := DataW.trod_int Try.underlying3 t1
      obtain ⟨n2, e2, -, -⟩ := DataW.trod_int Try.underlying3 t2
      simp only [List.cons.injEq, and_true] at e0 e1 e2
      subst e0 e1 e2
      refine ⟨⟨n0, n1, n2⟩, fun j hj => ?_⟩
      match j, hj with
      | 0, _ => exact c0
      | 1, _ => exact c1
      | 2, _ => exact c2
    obtain ⟨l, hlen, hat⟩ := choose_list len hone
    subst hlen
    exact ⟨some a, _, l, rfl, sl_rows opCells 3 opCells_len l (fun i hi j hj => hat i hi j hj), by omega⟩

theorem list2 {α : Type} {l : List α} (h : l.length = 2) : ∃ a b, l = [a, b] := by
  match l, h with
  | [a, b], _ => exact ⟨a, b, rfl⟩
theorem list3 {α : Type} {l : List α} (h : l.length = 3) : ∃ a b c, l = [a, b, c] := by
  match l, h with
  | [a, b, c], _ => exact ⟨a, b, c, rfl⟩
set_option maxRecDepth 100000 in
theorem read_clines {H : Type} {enc : TypeId × Value → H} {W : World} {fuel : Nat} {v : Value} {y : DataW H × List MemPlace}
    (h : DataW.trod enc Try.prog W 0 (fun _ => true) true fuel 23 [v] = some y) :
    ∃ (ao : Option Addr) (c : Nat) (l : List LineD), v = .slice ao l.length c ∧ SlAt W ao (l.flatMap lineCells) ∧ (∀ x ∈ l, SlAt W x.a (Is x.xs) ∧ (∀ y ∈ x.xs, i64B y) ∧ x.xs.length ≤ maxLen) ∧ l.length ≤ maxLen := by
  have hC : Try.prog.cellsOf 49 = 3 := by kernel_rfl
  rcases open_slice Try.underlying23 h with ⟨hcs, hx⟩ | ⟨a, len, cap, m, n, D, Pl, hcs, hb, hl, hm, hmm, hx, hi⟩
  · simp only [List.cons.injEq, and_true] at hcs
    subst hcs
    exact ⟨none, 0, [], rfl, SlAt.nil _ _, by simp, by simp⟩
  · simp only [List.cons.injEq, and_true] at hcs
    simp only [if_true] at hmm
    subst hcs; subst hmm
    have hone : ∀ i, i < len → ∃ x : LineD, (∀ j, j < 3 → W.cell? (a.add (i * 3 + j)) = (lineCells x)[j]?) ∧ SlAt W x.a (Is x.xs) ∧ (∀ y ∈ x.xs, i64B y) ∧ x.xs.length ≤ maxLen := by
      intro i hil
      obtain ⟨cs', hc, ht'⟩ := hi i (by omega)
      rw [hC] at hc
      obtain ⟨ys, n', hn', hy, hlen, hyl, hf⟩ := DataW.trod_struct Try.underlying49 ht'
      obtain ⟨_, hcl, hat⟩ := World.cells?_some hc
      obtain ⟨u0, u1, u2, rfl⟩ := list3 hcl
      obtain ⟨y0, y1, rfl⟩ := list2 hyl
      have f0 : DataW.trod enc Try.prog W 0 (fun x => true) true n' 47 (List.take (Try.prog.cellsOf 47) (List.drop 0 [u0, u1, u2])) = some y0 := hf 0 _ rfl
      have f1 : DataW.trod enc Try.prog W 0 (fun x => true) true n' 43 (List.take (Try.prog.cellsOf 43) (List.drop 2 [u0, u1, u2])) = some y1 := hf 1 _ rfl
      rw [show Try.prog.cellsOf 47 = 2 by kernel_rfl] at f0
      rw [show Try.prog.cellsOf 43 = 1 by kernel_rfl] at f1
      simp only [List.drop_zero, List.take_succ_cons, List.take_zero, List.drop_succ_cons] at f0 f1
      obtain ⟨zs, k, hk, hz, hzl, hzn, hg⟩ := DataW.trod_struct Try.underlying47 f0
      obtain ⟨z0, z1, rfl⟩ := list2 hzn
      have g0 : DataW.trod enc Try.prog W 0 (fun x => true) true k 3 (List.take (Try.prog.cellsOf 3) (List.drop 0 [u0, u1])) = some z0 := hg 0 _ rfl
      have g1 : DataW.trod enc Try.prog W 0 (fun x => true) true k 3 (List.take (Try.prog.cellsOf 3) (List.drop 1 [u0, u1])) = some z1 := hg 1 _ rfl
      rw [show Try.prog.cellsOf 3 = 1 by kernel_rfl] at g0 g1
      simp only [List.drop_zero, List.take_succ_cons, List.take_zero, List.drop_succ_cons] at g0 g1
      obtain ⟨m0, e0, -, -⟩ := DataW.trod_int Try.underlying3 g0
      obtain ⟨m1, e1, -, -⟩ := DataW.trod_int Try.underlying3 g1
      simp only [List.cons.injEq, and_true] at e0 e1
      subst e0 e1
      obtain ⟨a1, c1', xs, rfl, hs, hw, hl', _⟩ := read_intsF f1
      refine ⟨⟨m0, m1, a1, c1', xs⟩, fun j hj => ?_, hs, hw, hl'⟩
      have h1 := hat j hj
      rw [Go.Deep.add_add] at h1
      exact h1
    obtain ⟨l, hlen, hat⟩ := choose_list len hone
    subst hlen
    refine ⟨some a, _, l, rfl, sl_rows lineCells 3 lineCells_len l (fun i hi j hj => (hat i hi).1 j hj), fun x hx => ?_, by omega⟩
    obtain ⟨i, hi, rfl⟩ := List.getElem_of_mem hx
    exact (hat i hi).2

set_option maxRecDepth 100000 in
/-- A program that came in. -/
theorem read_prog {H : Type} {enc : TypeId × Value → H} {W : World} {r : Reach} {b0 : Nat} {v : Value} {d : DataW H} {p : List MemPlace} (hv : Value.okWide Try.prog W r b0 26 v)
    (h : DataW.Trod enc Try.prog W 0 (fun _ => true) true 26 v d p) : ∃ q : Pg, v = q.v ∧ PgAt W q ∧ Lens q ∧ PgWf q := by
  obtain ⟨v0, v1, v2, v3, v4, v5, v6, y0, y1, y2, y3, y4, y5, y6, n, rfl, -, h0, h1, h2, h3, h4, h5, h6⟩ := open_agg7 Try.underlying26 (by kernel_rfl) (by kernel_rfl) hv h
  obtain ⟨z0, e0, -, -⟩ := DataW.trod_int Try.underlying3 h0
  obtain ⟨z1, e1, -, -⟩ := DataW.trod_int Try.underlying3 h1
  obtain ⟨z2, e2, -, -⟩ := DataW.trod_int Try.underlying3 h2
  obtain ⟨z3, e3, -, -⟩ := DataW.trod_int Try.underlying3 h3
  simp only [List.cons.injEq, and_true] at e0 e1 e2 e3
  subst e0 e1 e2 e3
  obtain ⟨a4, c4, l4, rfl, s4, x4, n4⟩ := read_cparts h4
  obtain ⟨a5, c5, l5, rfl, s5, x5, n5⟩ := read_clines h5
  obtain ⟨a6, c6, l6, rfl, s6, n6⟩ := read_cops h6
  have hm : ∀ n : Nat, n ≤ maxLen → n ≤ 9223372036854775807 := fun n h => by unfold maxLen at h; exact h
  exact ⟨⟨z0, z1, z2, z3, a4, c4, l4, a5, c5, l5, a6, c6, l6⟩, rfl, ⟨s6, s4, s5, fun x hx => (x4 x hx).1, fun x hx => (x5 x hx).1⟩,
    ⟨hm _ n4, hm _ n5, hm _ n6, fun x hx => hm _ (x4 x hx).2.2, fun x hx => hm _ (x5 x hx).2.2⟩, ⟨fun x hx => (x4 x hx).2.1, fun x hx => (x5 x hx).2.1⟩⟩
end Go.Proofs.Ytfmpjbiaamkobaa
