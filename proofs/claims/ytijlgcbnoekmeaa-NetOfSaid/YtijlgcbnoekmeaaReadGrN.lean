/-
  A graph that came in, with its size.
-/
import Derived.Test.YtijlgcbnoekmeaaRead
import Derived.Test.YtijlgcbnoekmeaaMem3
import Derived.Test.YtijlgcbnoekmeaaGrC
namespace Go.Proofs.Ytijlgcbnoekmeaa
open Go Go.RowKit Go.ChangeShapes Go.WideShapes Go.ChangeAt Go.Deep Go.Joins
set_option linter.all false

/-- Lengths that a heavy look bears. -/
structure GRoom (g : Gr) : Prop where
  a : g.acts.length ≤ 17592186044416
  e : g.edges.length ≤ 17592186044416
  i : g.ins.length ≤ 17592186044416
  o : g.outs.length ≤ 17592186044416
  ax : ∀ x ∈ g.acts, x.xs.length ≤ 17592186044416
  ex : ∀ x ∈ g.edges, x.xs.length ≤ 17592186044416
def i64B (x : Int) : Prop := -9223372036854775808 ≤ x ∧ x ≤ 9223372036854775807
theorem i64_of_wf {x : Int} (h : (Lit.int .i64 x).wf = true) : i64B x := wf_i64 h
theorem u8_of_wf {x : Int} (h : (Lit.int .u8 x).wf = true) : 0 ≤ x ∧ x ≤ 255 := wf_u8 h
/-- A list of ints in a field. -/
theorem read_intsF {H : Type} {enc : TypeId × Value → H} {W : World} {n : Nat} {v : Value} {y : DataW H × List MemPlace}
    (h : DataW.trod enc Try.prog W 0 (fun _ => true) true n 37 [v] = some y) :
    ∃ a c xs, v = .slice a xs.length c ∧ SlAt W a (Is xs) ∧ (∀ x ∈ xs, i64B x) ∧ xs.length ≤ maxLen ∧ (y.1 = .nil ∧ xs = [] ∨ ∃ sp, y.1 = .slice (lits .i64 xs) sp) := by
  have hv : ∃ a' n' c', v = .slice a' n' c' := by
    rcases open_ints Try.underlying37 Try.underlying3 (by kernel_rfl) h with ⟨h1, _⟩ | ⟨x1, l1, c1, zs, h1, _⟩
    · simp at h1; exact ⟨_, _, _, h1⟩
    · simp at h1; exact ⟨_, _, _, h1⟩
  obtain ⟨a', n', c', rfl⟩ := hv
  obtain ⟨xs, rfl, hs, hw, hl, _, hd⟩ := read_ints (a := a') (n := n') (c := c') (d := y.1) (ps := y.2) (W := W) (enc := enc) ⟨n, h⟩
  exact ⟨a', c', xs, rfl, hs, fun x hx => i64_of_wf (hw x hx), hl, hd⟩
theorem pweightsAll_mem {H : Type} {P : Program} {e : TypeId} {l : List (DataW H)} {d : DataW H} (h : d ∈ l) {m : Nat} (hm : m ∈ d.weights P e) : m ∈ DataW.weightsAll P e l := by
  induction l with
  | nil => cases h
  | cons x r ih =>
    simp only [DataW.weightsAll, List.mem_append]
    rcases List.mem_cons.1 h with rfl | h
    · exact .inl hm
    · exact .inr (ih h)
theorem bytesInt : Try.prog.bytesOf 3 = 8 := by kernel_rfl
theorem ints_weight {H : Type} {d : DataW H} {xs : List Int} {B : Nat} (h : d = .nil ∧ xs = [] ∨ ∃ sp, d = .slice (lits .i64 xs) sp) (hB : ∀ m ∈ d.weights Try.prog 37, m ≤ B) : xs.length * 8 ≤ B := by
  rcases h with ⟨_, rfl⟩ | ⟨sp, rfl⟩
  · simp
  · have := hB ((xs.length + sp.length) * 8) (by simp [DataW.weights, Try.underlying37, lits_len, bytesInt])
    omega
section
variable {H : Type} {enc : TypeId × Value → H} {P : Program} {w : World} {base : Nat} {spare : Nat → Bool} {held : Bool}
theorem open_agg5 {r : Reach} {b0 : Nat} {t : TypeId} {f0 f1 f2 f3 f4 : Field} {v : Value} {d : DataW H} {p : List MemPlace} (hs : P.underlying t = some (.struct #[f0, f1, f2, f3, f4])) (hone : oneCellFields P #[f0, f1, f2, f3, f4] = true) (hC : P.cellsOf t = 5)
    (hv : Value.okWide P w r b0 t v) (h : DataW.Trod enc P w base spare held t v d p) :
    ∃ (v0 v1 v2 v3 v4 : Value) (y0 y1 y2 y3 y4 : DataW H × List MemPlace) (n : Nat), v = .agg #[v0, v1, v2, v3, v4] ∧ d = .agg [y0.1, y1.1, y2.1, y3.1, y4.1] ∧
      DataW.trod enc P w base spare held n f0.type [v0] = some y0 ∧ DataW.trod enc P w base spare held n f1.type [v1] = some y1 ∧ DataW.trod enc P w base spare held n f2.type [v2] = some y2 ∧ DataW.trod enc P w base spare held n f3.type [v3] = some y3 ∧ DataW.trod enc P w base spare held n f4.type [v4] = some y4 := by
  obtain ⟨cs, rfl, hsz⟩ := okWide_struct hs hv
  obtain ⟨l⟩ := cs
  match l, hsz.trans hC with
  | [c0, c1, c2, c3, c4], _ =>
    obtain ⟨fuel, hf⟩ := h
    obtain ⟨xs, n, _, hx, _, hlen, hg⟩ := DataW.trod_struct hs hf
    obtain ⟨o0, k0⟩ := hone_of hone 0 f0 rfl
    obtain ⟨o1, k1⟩ := hone_of hone 1 f1 rfl
    obtain ⟨o2, k2⟩ := hone_of hone 2 f2 rfl
    obtain ⟨o3, k3⟩ := hone_of hone 3 f3 rfl
    obtain ⟨o4, k4⟩ := hone_of hone 4 f4 rfl
    match xs, hlen with
    | [y0, y1, y2, y3, y4], _ =>
      simp only [Prod.mk.injEq] at hx
      exact ⟨c0, c1, c2, c3, c4, y0, y1, y2, y3, y4, n, rfl, by simpa using hx.1, by simpa [Value.cells, o0, k0] using hg 0 f0 rfl, by simpa [Value.cells, o1, k1] using hg 1 f1 rfl, by simpa [Value.cells, o2, k2] using hg 2 f2 rfl, by simpa [Value.cells, o3, k3] using hg 3 f3 rfl, by simpa [Value.cells, o4, k4] using hg 4 f4 rfl⟩
end
theorem bytesActor : Try.prog.bytesOf 85 = 48 := by kernel_rfl
theorem read_gacts {H : Type} {enc : TypeId × Value → H} {W : World} {fuel : Nat} {v : Value} {y : DataW H × List MemPlace}
    (h : DataW.trod enc Try.prog W 0 (fun _ => true) true fuel 59 [v] = some y) :
    ∃ (ao : Option Addr) (c : Nat) (l : List GAct), v = .slice ao l.length c ∧ SlAt W ao (l.flatMap actCells) ∧ (∀ x ∈ l, (SlAt W x.a (Is x.xs) ∧ x.xs.length ≤ maxLen) ∧ (x.name.size ≤ maxLen ∧ 0 ≤ x.tag ∧ x.tag ≤ 255 ∧ ∀ y ∈ x.xs, i64B y)) ∧ l.length ≤ maxLen ∧
      ∀ B, (∀ m ∈ y.1.weights Try.prog 59, m ≤ B) → l.length * 48 ≤ B ∧ ∀ x ∈ l, x.xs.length * 8 ≤ B := by
  rcases open_slice_fields Try.underlying59 Try.underlying85 (by kernel_rfl) (by kernel_rfl) h with ⟨hcs, hx⟩ | ⟨a, len, cap, m, D, Pl, hcs, _, hl, hm, hmm, hx, hi⟩
  · simp only [List.cons.injEq, and_true] at hcs
    subst hcs
    exact ⟨none, 0, [], rfl, SlAt.nil _ _, by simp, by simp, by simp⟩
  · simp only [List.cons.injEq, and_true] at hcs
    simp only [if_true] at hmm
    subst hcs; subst hmm
    have hone : ∀ i, i < len → ∃ x : GAct, (∀ j, j < 3 → W.cell? (a.add (i * 3 + j)) = (actCells x)[j]?) ∧ ((SlAt W x.a (Is x.xs) ∧ x.xs.length ≤ maxLen) ∧ (x.name.size ≤ maxLen ∧ 0 ≤ x.tag ∧ x.tag ≤ 255 ∧ ∀ y ∈ x.xs, i64B y)) ∧ ∀ B, (∀ m ∈ (D i).weights Try.prog 85, m ≤ B) → x.xs.length * 8 ≤ B := by
      intro i hil
      obtain ⟨ys, n, hD, _, hyl, hf⟩ := hi i (by omega)
      obtain ⟨v0, y0, c0, g0, t0⟩ := hf 0 _ rfl
      obtain ⟨v1, y1, c1, g1, t1⟩ := hf 1 _ rfl
      obtain ⟨v2, y2, c2, g2, t2⟩ := hf 2 _ rfl
      obtain ⟨n0, e0, -, r0⟩ := DataW.trod_string Try.underlying9 t0
      simp only [List.cons.injEq, and_true] at e0
      subst e0
      obtain ⟨n1, e1, -, r1⟩ := DataW.trod_int Try.underlying83 t1
      simp only [List.cons.injEq, and_true] at e1
      subst e1
      replace r1 := u8_of_wf r1
      obtain ⟨a2, d2, xs, rfl, hs, hw, hxl, hd⟩ := read_intsF t2
      refine ⟨⟨n0, n1, a2, d2, xs⟩, fun j hj => ?_, ⟨⟨hs, hxl⟩, r0, r1.1, r1.2, hw⟩, fun B hB => ints_weight hd (fun m hm => hB m ?_)⟩
      · match j, hj with
        | 0, _ => exact c0
        | 1, _ => exact c1
        | 2, _ => exact c2
      · have hys : ys.map (·.1) = [y0.1, y1.1, y2.1] := by
          match ys, hyl with
          | [u0, u1, u2], _ =>
            simp only [List.getElem?_cons_zero, List.getElem?_cons_succ, Option.some.injEq] at g0 g1 g2
            rw [g0, g1, g2]; rfl
        rw [hD, hys]
        simp [DataW.weights, DataW.weightsEach, Try.underlying85, hm]
    obtain ⟨l, hlen, hat⟩ := choose_list len hone
    subst hlen
    refine ⟨some a, _, l, rfl, sl_rows actCells 3 (fun _ => rfl) l (fun i hi j hj => (hat i hi).1 j hj), fun x hx => ?_, by omega, fun B hB => ⟨?_, fun x hxm => ?_⟩⟩
    · obtain ⟨i, hi, rfl⟩ := List.getElem_of_mem hx
      exact (hat i hi).2.1
    · rw [hx] at hB
      simp only [DataW.weights, Try.underlying59, bytesActor, List.mem_cons, List.mem_append] at hB
      have := hB _ (.inl rfl)
      simp only [List.length_map, List.length_range] at this
      omega
    · obtain ⟨i, hi, rfl⟩ := List.getElem_of_mem hxm
      refine (hat i hi).2.2 B (fun m hm => hB m ?_)
      rw [hx]
      simp only [DataW.weights, Try.underlying59, List.mem_cons, List.mem_append]
      exact .inr (.inl (pweightsAll_mem (List.mem_map.2 ⟨i, by simpa using hi, rfl⟩) hm))
theorem bytesEdge : Try.prog.bytesOf 80 = 56 := by kernel_rfl
theorem read_gedges {H : Type} {enc : TypeId × Value → H} {W : World} {fuel : Nat} {v : Value} {y : DataW H × List MemPlace}
    (h : DataW.trod enc Try.prog W 0 (fun _ => true) true fuel 60 [v] = some y) :
    ∃ (ao : Option Addr) (c : Nat) (l : List GEdge), v = .slice ao l.length c ∧ SlAt W ao (l.flatMap edgeCells) ∧ (∀ x ∈ l, (SlAt W x.a (Is x.xs) ∧ x.xs.length ≤ maxLen) ∧ (i64B x.f ∧ i64B x.fp ∧ i64B x.t ∧ i64B x.tp ∧ ∀ y ∈ x.xs, i64B y)) ∧ l.length ≤ maxLen ∧
      ∀ B, (∀ m ∈ y.1.weights Try.prog 60, m ≤ B) → l.length * 56 ≤ B ∧ ∀ x ∈ l, x.xs.length * 8 ≤ B := by
  rcases open_slice_fields Try.underlying60 Try.underlying80 (by kernel_rfl) (by kernel_rfl) h with ⟨hcs, hx⟩ | ⟨a, len, cap, m, D, Pl, hcs, _, hl, hm, hmm, hx, hi⟩
  · simp only [List.cons.injEq, and_true] at hcs
    subst hcs
    exact ⟨none, 0, [], rfl, SlAt.nil _ _, by simp, by simp, by simp⟩
  · simp only [List.cons.injEq, and_true] at hcs
    simp only [if_true] at hmm
    subst hcs; subst hmm
    have hone : ∀ i, i < len → ∃ x : GEdge, (∀ j, j < 5 → W.cell? (a.add (i * 5 + j)) = (edgeCells x)[j]?) ∧ ((SlAt W x.a (Is x.xs) ∧ x.xs.length ≤ maxLen) ∧ (i64B x.f ∧ i64B x.fp ∧ i64B x.t ∧ i64B x.tp ∧ ∀ y ∈ x.xs, i64B y)) ∧ ∀ B, (∀ m ∈ (D i).weights Try.prog 80, m ≤ B) → x.xs.length * 8 ≤ B := by
      intro i hil
      obtain ⟨ys, n, hD, _, hyl, hf⟩ := hi i (by omega)
      obtain ⟨v0, y0, c0, g0, t0⟩ := hf 0 _ rfl
      obtain ⟨v1, y1, c1, g1, t1⟩ := hf 1 _ rfl
      obtain ⟨v2, y2, c2, g2, t2⟩ := hf 2 _ rfl
      obtain ⟨v3, y3, c3, g3, t3⟩ := hf 3 _ rfl
      obtain ⟨v4, y4, c4, g4, t4⟩ := hf 4 _ rfl
      obtain ⟨n0, e0, -, r0⟩ := DataW.trod_int Try.underlying3 t0
      simp only [List.cons.injEq, and_true] at e0
      subst e0
      replace r0 := i64_of_wf r0
      obtain ⟨n1, e1, -, r1⟩ := DataW.trod_int Try.underlying3 t1
      simp only [List.cons.injEq, and_true] at e1
      subst e1
      replace r1 := i64_of_wf r1
      obtain ⟨n2, e2, -, r2⟩ := DataW.trod_int Try.underlying3 t2
      simp only [List.cons.injEq, and_true] at e2
      subst e2
      replace r2 := i64_of_wf r2
      obtain ⟨n3, e3, -, r3⟩ := DataW.trod_int Try.underlying3 t3
      simp only [List.cons.injEq, and_true] at e3
      subst e3
      replace r3 := i64_of_wf r3
      obtain ⟨a4, d4, xs, rfl, hs, hw, hxl, hd⟩ := read_intsF t4
      refine ⟨⟨n0, n1, n2, n3, a4, d4, xs⟩, fun j hj => ?_, ⟨⟨hs, hxl⟩, r0, r1, r2, r3, hw⟩, fun B hB => ints_weight hd (fun m hm => hB m ?_)⟩
      · match j, hj with
        | 0, _ => exact c0
        | 1, _ => exact c1
        | 2, _ => exact c2
        | 3, _ => exact c3
        | 4, _ => exact c4
      · have hys : ys.map (·.1) = [y0.1, y1.1, y2.1, y3.1, y4.1] := by
          match ys, hyl with
          | [u0, u1, u2, u3, u4], _ =>
            simp only [List.getElem?_cons_zero, List.getElem?_cons_succ, Option.some.injEq] at g0 g1 g2 g3 g4
            rw [g0, g1, g2, g3, g4]; rfl
        rw [hD, hys]
        simp [DataW.weights, DataW.weightsEach, Try.underlying80, hm]
    obtain ⟨l, hlen, hat⟩ := choose_list len hone
    subst hlen
    refine ⟨some a, _, l, rfl, sl_rows edgeCells 5 (fun _ => rfl) l (fun i hi j hj => (hat i hi).1 j hj), fun x hx => ?_, by omega, fun B hB => ⟨?_, fun x hxm => ?_⟩⟩
    · obtain ⟨i, hi, rfl⟩ := List.getElem_of_mem hx
      exact (hat i hi).2.1
    · rw [hx] at hB
      simp only [DataW.weights, Try.underlying60, bytesEdge, List.mem_cons, List.mem_append] at hB
      have := hB _ (.inl rfl)
      simp only [List.length_map, List.length_range] at this
      omega
    · obtain ⟨i, hi, rfl⟩ := List.getElem_of_mem hxm
      refine (hat i hi).2.2 B (fun m hm => hB m ?_)
      rw [hx]
      simp only [DataW.weights, Try.underlying60, List.mem_cons, List.mem_append]
      exact .inr (.inl (pweightsAll_mem (List.mem_map.2 ⟨i, by simpa using hi, rfl⟩) hm))
theorem bytesPort : Try.prog.bytesOf 118 = 32 := by kernel_rfl
theorem read_gports {H : Type} {enc : TypeId × Value → H} {W : World} {fuel : Nat} {v : Value} {y : DataW H × List MemPlace}
    (h : DataW.trod enc Try.prog W 0 (fun _ => true) true fuel 61 [v] = some y) :
    ∃ (ao : Option Addr) (c : Nat) (l : List GPort), v = .slice ao l.length c ∧ SlAt W ao (l.flatMap portCells) ∧ (∀ x ∈ l, (x.name.size ≤ maxLen ∧ i64B x.ac ∧ i64B x.po)) ∧ l.length ≤ maxLen ∧
      ∀ B, (∀ m ∈ y.1.weights Try.prog 61, m ≤ B) → l.length * 32 ≤ B := by
  rcases open_slice_fields Try.underlying61 Try.underlying118 (by kernel_rfl) (by kernel_rfl) h with ⟨hcs, hx⟩ | ⟨a, len, cap, m, D, Pl, hcs, _, hl, hm, hmm, hx, hi⟩
  · simp only [List.cons.injEq, and_true] at hcs
    subst hcs
    exact ⟨none, 0, [], rfl, SlAt.nil _ _, by simp, by simp, by simp⟩
  · simp only [List.cons.injEq, and_true] at hcs
    simp only [if_true] at hmm
    subst hcs; subst hmm
    have hone : ∀ i, i < len → ∃ x : GPort, (∀ j, j < 3 → W.cell? (a.add (i * 3 + j)) = (portCells x)[j]?) ∧ ((x.name.size ≤ maxLen ∧ i64B x.ac ∧ i64B x.po)) := by
      intro i hil
      obtain ⟨ys, n, hD, _, hyl, hf⟩ := hi i (by omega)
      obtain ⟨v0, y0, c0, g0, t0⟩ := hf 0 _ rfl
      obtain ⟨v1, y1, c1, g1, t1⟩ := hf 1 _ rfl
      obtain ⟨v2, y2, c2, g2, t2⟩ := hf 2 _ rfl
      obtain ⟨n0, e0, -, r0⟩ := DataW.trod_string Try.underlying9 t0
      simp only [List.cons.injEq, and_true] at e0
      subst e0
      obtain ⟨n1, e1, -, r1⟩ := DataW.trod_int Try.underlying3 t1
      simp only [List.cons.injEq, and_true] at e1
      subst e1
      replace r1 := i64_of_wf r1
      obtain ⟨n2, e2, -, r2⟩ := DataW.trod_int Try.underlying3 t2
      simp only [List.cons.injEq, and_true] at e2
      subst e2
      replace r2 := i64_of_wf r2
      refine ⟨⟨n0, n1, n2⟩, fun j hj => ?_, ⟨r0, r1, r2⟩⟩
      · match j, hj with
        | 0, _ => exact c0
        | 1, _ => exact c1
        | 2, _ => exact c2
    obtain ⟨l, hlen, hat⟩ := choose_list len hone
    subst hlen
    refine ⟨some a, _, l, rfl, sl_rows portCells 3 (fun _ => rfl) l (fun i hi j hj => (hat i hi).1 j hj), fun x hx => ?_, by omega, fun B hB => ?_⟩
    · obtain ⟨i, hi, rfl⟩ := List.getElem_of_mem hx
      exact (hat i hi).2
    · rw [hx] at hB
      simp only [DataW.weights, Try.underlying61, bytesPort, List.mem_cons, List.mem_append] at hB
      have := hB _ (.inl rfl)
      simp only [List.length_map, List.length_range] at this
      omega
/-- The numbers of a graph that came in. -/
structure GWf (g : Gr) : Prop where
  tag : ∀ x ∈ g.acts, 0 ≤ x.tag ∧ x.tag ≤ 255
  ax : ∀ x ∈ g.acts, ∀ y ∈ x.xs, i64B y
  en : ∀ x ∈ g.edges, i64B x.f ∧ i64B x.fp ∧ i64B x.t ∧ i64B x.tp
  ex : ∀ x ∈ g.edges, ∀ y ∈ x.xs, i64B y
  ix : ∀ x ∈ g.ins, i64B x.ac ∧ i64B x.po
  ox : ∀ x ∈ g.outs, i64B x.ac ∧ i64B x.po
set_option maxRecDepth 100000 in
/-- A graph that came in, with its size. -/
theorem read_graph {H : Type} {enc : TypeId × Value → H} {W : World} {r : Reach} {b0 : Nat} {v : Value} {d : DataW H} {p : List MemPlace} (hv : Value.okWide Try.prog W r b0 63 v)
    (h : DataW.Trod enc Try.prog W 0 (fun _ => true) true 63 v d p) : ∃ g : Gr, v = g.v ∧ GrAt W g ∧ GLen g ∧ GWf g ∧ ((∀ m ∈ d.weights Try.prog 63, m ≤ 140737488351232) → GRoom g) := by
  obtain ⟨v0, v1, v2, v3, v4, y0, y1, y2, y3, y4, n, rfl, rfl, h0, h1, h2, h3, h4⟩ := open_agg5 Try.underlying63 (by kernel_rfl) (by kernel_rfl) hv h
  obtain ⟨s0, e0, -, z0⟩ := DataW.trod_string Try.underlying9 h0
  simp only [List.cons.injEq, and_true] at e0
  subst e0
  obtain ⟨a1, c1, l1, rfl, s1, x1, n1, w1⟩ := read_gacts h1
  obtain ⟨a2, c2, l2, rfl, s2, x2, n2, w2⟩ := read_gedges h2
  obtain ⟨a3, c3, l3, rfl, s3, x3, n3, w3⟩ := read_gports h3
  obtain ⟨a4, c4, l4, rfl, s4, x4, n4, w4⟩ := read_gports h4
  have hm : ∀ n : Nat, n ≤ maxLen → n ≤ 9223372036854775807 := fun n h => by unfold maxLen at h; exact h
  refine ⟨⟨s0, a1, c1, l1, a2, c2, l2, a3, c3, l3, a4, c4, l4⟩, rfl, ⟨s1, s2, s3, s4, fun x hx => (x1 x hx).1.1, fun x hx => (x2 x hx).1.1⟩,
    ⟨hm _ n1, hm _ n2, hm _ n3, hm _ n4, fun x hx => ⟨hm _ (x1 x hx).1.2, hm _ (x1 x hx).2.1⟩, fun x hx => hm _ (x2 x hx).1.2, fun x hx => hm _ (x3 x hx).1, fun x hx => hm _ (x4 x hx).1, hm _ z0⟩,
    ⟨fun x hx => ⟨(x1 x hx).2.2.1, (x1 x hx).2.2.2.1⟩, fun x hx => (x1 x hx).2.2.2.2, fun x hx => ⟨(x2 x hx).2.1, (x2 x hx).2.2.1, (x2 x hx).2.2.2.1, (x2 x hx).2.2.2.2.1⟩, fun x hx => (x2 x hx).2.2.2.2.2, fun x hx => (x3 x hx).2, fun x hx => (x4 x hx).2⟩, fun hB => ?_⟩
  have b1 := w1 140737488351232 (fun m hm => hB m (by simp [DataW.weights, DataW.weightsEach, Try.underlying63, hm]))
  have b2 := w2 140737488351232 (fun m hm => hB m (by simp [DataW.weights, DataW.weightsEach, Try.underlying63, hm]))
  have b3 := w3 140737488351232 (fun m hm => hB m (by simp [DataW.weights, DataW.weightsEach, Try.underlying63, hm]))
  have b4 := w4 140737488351232 (fun m hm => hB m (by simp [DataW.weights, DataW.weightsEach, Try.underlying63, hm]))
  refine ⟨show l1.length ≤ _ by have := b1.1; omega, show l2.length ≤ _ by have := b2.1; omega, show l3.length ≤ _ by omega, show l4.length ≤ _ by omega, fun x hx => ?_, fun x hx => ?_⟩
  · have := b1.2 x hx; omega
  · have := b2.2 x hx; omega
end Go.Proofs.Ytijlgcbnoekmeaa
