/-
  A program that came in, with its size.
-/
import Derived.Test.YtfmpjbiaamkobaaReadProg
import Derived.Test.YtfmpjbiaamkobaaCodeU2
namespace Go.Proofs.Ytfmpjbiaamkobaa
open Go Go.RowKit Go.ChangeShapes Go.WideShapes Go.ChangeAt Go.Deep Go.Joins
set_option linter.all false

theorem pweightsAll_mem {H : Type} {P : Program} {e : TypeId} {l : List (DataW H)} {d : DataW H} (h : d ∈ l) {m : Nat} (hm : m ∈ d.weights P e) : m ∈ DataW.weightsAll P e l := by
  induction l with
  | nil => cases h
  | cons x r ih =>
    simp only [DataW.weightsAll, List.mem_append]
    rcases List.mem_cons.1 h with rfl | h
    · exact .inl hm
    · exact .inr (ih h)

theorem bytesInt : Try.prog.bytesOf 3 = 8 := by kernel_rfl
theorem bytesPart : Try.prog.bytesOf 45 = 32 := by kernel_rfl
theorem bytesLine : Try.prog.bytesOf 49 = 40 := by kernel_rfl
theorem bytesOp : Try.prog.bytesOf 53 = 24 := by kernel_rfl

theorem ints_weight {H : Type} {d : DataW H} {xs : List Int} {B : Nat} (h : d = .nil ∧ xs = [] ∨ ∃ sp, d = .slice (lits .i64 xs) sp) (hB : ∀ m ∈ d.weights Try.prog 43, m ≤ B) : xs.length * 8 ≤ B := by
  rcases h with ⟨_, rfl⟩ | ⟨sp, rfl⟩
  · simp
  · have := hB ((xs.length + sp.length) * 8) (by simp [DataW.weights, Try.underlying43, lits_len, bytesInt])
    omega

theorem read_cpartsS {H : Type} {enc : TypeId × Value → H} {W : World} {fuel : Nat} {v : Value} {y : DataW H × List MemPlace}
    (h : DataW.trod enc Try.prog W 0 (fun _ => true) true fuel 22 [v] = some y) :
    ∃ (ao : Option Addr) (c : Nat) (l : List PartD), v = .slice ao l.length c ∧ SlAt W ao (l.flatMap partCells) ∧ (∀ x ∈ l, SlAt W x.a (Is x.xs) ∧ (∀ y ∈ x.xs, i64B y) ∧ x.xs.length ≤ maxLen) ∧ l.length ≤ maxLen ∧
      ∀ B, (∀ m ∈ y.1.weights Try.prog 22, m ≤ B) → l.length * 32 ≤ B ∧ ∀ x ∈ l, x.xs.length * 8 ≤ B := by
  rcases open_slice_fields Try.underlying22 Try.underlying45 (by kernel_rfl) (by kernel_rfl) h with ⟨hcs, hx⟩ | ⟨a, len, cap, m, D, Pl, hcs, _, hl, hm, hmm, hx, hi⟩
  · simp only [List.cons.injEq, and_true] at hcs
    subst hcs
    exact ⟨none, 0, [], rfl, SlAt.nil _ _, by simp, by simp, by simp⟩
  · simp only [List.cons.injEq, and_true] at hcs
    simp only [if_true] at hmm
    subst hcs; subst hmm
    have hone : ∀ i, i < len → ∃ x : PartD, (∀ j, j < 2 → W.cell? (a.add (i * 2 + j)) = (partCells x)[j]?) ∧ (SlAt W x.a (Is x.xs) ∧ (∀ y ∈ x.xs, i64B y) ∧ x.xs.length ≤ maxLen) ∧ ∀ B, (∀ m ∈ (D i).weights Try.prog 45, m ≤ B) → x.xs.length * 8 ≤ B := by
      intro i hil
      obtain ⟨ys, n, hD, _, hyl, hf⟩ := hi i (by omega)
      obtain ⟨v0, y0, c0, g0, t0⟩ := hf 0 _ rfl
      obtain ⟨v1, y1, c1, g1, t1⟩ := hf 1 _ rfl
      obtain ⟨n0, e0, -, -⟩ := DataW.trod_int Try.underlying42 t0
      simp only [List.cons.injEq, and_true] at e0
      subst e0
      obtain ⟨a1, c1', xs, rfl, hs, hw, hl, hd⟩ := read_intsF t1
      refine ⟨⟨n0, a1, c1', xs⟩, fun j hj => ?_, ⟨hs, hw, hl⟩, fun B hB => ints_weight hd (fun m hm => hB m ?_)⟩
      · match j, hj with
        | 0, _ => exact c0
        | 1, _ => exact c1
      · have hys : ys.map (·.1) = [y0.1, y1.1] := by
          match ys, hyl with
          | [u0, u1], _ =>
            simp only [List.getElem?_cons_zero, List.getElem?_cons_succ, Option.some.injEq] at g0 g1
            rw [g0, g1]; rfl
        rw [hD, hys]
        simp [DataW.weights, DataW.weightsEach, Try.underlying45, hm]
    obtain ⟨l, hlen, hat⟩ := choose_list len hone
    subst hlen
    refine ⟨some a, _, l, rfl, sl_rows partCells 2 partCells_len l (fun i hi j hj => (hat i hi).1 j hj), fun x hx => ?_, by omega, fun B hB => ⟨?_, fun x hxm => ?_⟩⟩
    · obtain ⟨i, hi, rfl⟩ := List.getElem_of_mem hx
      exact (hat i hi).2.1
    · rw [hx] at hB
      simp only [DataW.weights, Try.underlying22, bytesPart, List.mem_cons, List.mem_append] at hB
      have := hB _ (.inl rfl)
      simp only [List.length_map, List.length_range] at this
      omega
    · obtain ⟨i, hi, rfl⟩ := List.getElem_of_mem hxm
      refine (hat i hi).2.2 B (fun m hm => hB m ?_)
      rw [hx]
      simp only [DataW.weights, Try.underlying22, List.mem_cons, List.mem_append]
      exact .inr (.inl (pweightsAll_mem (List.mem_map.2 ⟨i, by simpa using hi, rfl⟩) hm))

theorem read_copsS {H : Type} {enc : TypeId × Value → H} {W : World} {fuel : Nat} {v : Value} {y : DataW H × List MemPlace}
    (h : DataW.trod enc Try.prog W 0 (fun _ => true) true fuel 24 [v] = some y) :
    ∃ (ao : Option Addr) (c : Nat) (l : List OpD), v = .slice ao l.length c ∧ SlAt W ao (l.flatMap opCells) ∧ l.length ≤ maxLen ∧ ∀ B, (∀ m ∈ y.1.weights Try.prog 24, m ≤ B) → l.length * 24 ≤ B := by
  obtain ⟨ao, c, l, hv, hs, hn⟩ := read_cops h
  refine ⟨ao, c, l, hv, hs, hn, fun B hB => ?_⟩
  rcases open_slice_fields Try.underlying24 Try.underlying53 (by kernel_rfl) (by kernel_rfl) h with ⟨hcs, hx⟩ | ⟨a, len, cap, m, D, Pl, hcs, _, hl, hm, hmm, hx, hi⟩
  · simp only [List.cons.injEq, and_true] at hcs
    rw [hv] at hcs
    simp only [Value.slice.injEq] at hcs
    rw [hcs.2.1]
    omega
  · simp only [List.cons.injEq, and_true] at hcs
    rw [hv] at hcs
    simp only [Value.slice.injEq] at hcs
    simp only [if_true] at hmm
    rw [hx] at hB
    simp only [DataW.weights, Try.underlying24, bytesOp, List.mem_cons, List.mem_append] at hB
    have := hB _ (.inl rfl)
    simp only [List.length_map, List.length_range] at this
    omega

set_option maxRecDepth 100000 in
theorem read_clinesS {H : Type} {enc : TypeId × Value → H} {W : World} {fuel : Nat} {v : Value} {y : DataW H × List MemPlace}
    (h : DataW.trod enc Try.prog W 0 (fun _ => true) true fuel 23 [v] = some y) :
    ∃ (ao : Option Addr) (c : Nat) (l : List LineD), v = .slice ao l.length c ∧ SlAt W ao (l.flatMap lineCells) ∧ (∀ x ∈ l, SlAt W x.a (Is x.xs) ∧ (∀ y ∈ x.xs, i64B y) ∧ x.xs.length ≤ maxLen) ∧ l.length ≤ maxLen ∧
      ∀ B, (∀ m ∈ y.1.weights Try.prog 23, m ≤ B) → l.length * 40 ≤ B ∧ ∀ x ∈ l, x.xs.length * 8 ≤ B := by
  have hC : Try.prog.cellsOf 49 = 3 := by kernel_rfl
  rcases open_slice Try.underlying23 h with ⟨hcs, hx⟩ | ⟨a, len, cap, m, n, D, Pl, hcs, hb, hl, hm, hmm, hx, hi⟩
  · simp only [List.cons.injEq, and_true] at hcs
    subst hcs
    exact ⟨none, 0, [], rfl, SlAt.nil _ _, by simp, by simp, by simp⟩
  · simp only [List.cons.injEq, and_true] at hcs
    simp only [if_true] at hmm
    subst hcs; subst hmm
    have hone : ∀ i, i < len → ∃ x : LineD, (∀ j, j < 3 → W.cell? (a.add (i * 3 + j)) = (lineCells x)[j]?) ∧ (SlAt W x.a (Is x.xs) ∧ (∀ y ∈ x.xs, i64B y) ∧ x.xs.length ≤ maxLen) ∧ ∀ B, (∀ m ∈ (D i).weights Try.prog 49, m ≤ B) → x.xs.length * 8 ≤ B := by
      intro i hil
      obtain ⟨cs', hc, ht'⟩ := hi i (by omega)
      rw [hC] at hc
      obtain ⟨ys, n', hn', hy, hlen, hyl, hf⟩ := DataW.trod_struct Try.underlying49 ht'
      obtain ⟨_, hcl, hat⟩ := World.cells?_some hc
      obtain ⟨u0, u1, u2, rfl⟩ := list3 hcl
      obtain ⟨y0, y1, rfl⟩ := list2 hyl
      have f0 : DataW.trod enc Try.prog W 0 (fun x => true) true n' 47 (List.take (Try.prog.cellsOf 47) (List.drop 0 [u0, u1, u2])) = some y0 := hf 0 _ rfl
      have f1 : DataW.trod enc Try.prog W 0 (fun x => true) true n' 43 (List.take (Try.prog.cellsOf 43) (List.drop 2 [u0, u1, u2])) = some y1 := hf 1 _ rfl
      rw [show Try.prog.cellsOf 47 = 2 by kernel_rfl] at f0
      rw [show Try.prog.cellsOf 43 = 1 by kernel_rfl] at f1
      simp only [List.drop_zero, List.take_succ_cons, List.take_zero, List.drop_succ_cons] at f0 f1
      obtain ⟨zs, k, hk, hz, hzl, hzn, hg⟩ := DataW.trod_struct Try.underlying47 f0
      obtain ⟨z0, z1, rfl⟩ := list2 hzn
      have g0 : DataW.trod enc Try.prog W 0 (fun x => true) true k 3 (List.take (Try.prog.cellsOf 3) (List.drop 0 [u0, u1])) = some z0 := hg 0 _ rfl
      have g1 : DataW.trod enc Try.prog W 0 (fun x => true) true k 3 (List.take (Try.prog.cellsOf 3) (List.drop 1 [u0, u1])) = some z1 := hg 1 _ rfl
      rw [show Try.prog.cellsOf 3 = 1 by kernel_rfl] at g0 g1
      simp only [List.drop_zero, List.take_succ_cons, List.take_zero, List.drop_succ_cons] at g0 g1
      obtain ⟨m0, e0, -, -⟩ := DataW.trod_int Try.underlying3 g0
      obtain ⟨m1, e1, -, -⟩ := DataW.trod_int Try.underlying3 g1
      simp only [List.cons.injEq, and_true] at e0 e1
      subst e0 e1
      obtain ⟨a1, c1', xs, rfl, hs, hw, hl', hd⟩ := read_intsF f1
      refine ⟨⟨m0, m1, a1, c1', xs⟩, fun j hj => ?_, ⟨hs, hw, hl'⟩, fun B hB => ints_weight hd (fun m hm => hB m ?_)⟩
      · have h1 := hat j hj
        rw [Go.Deep.add_add] at h1
        exact h1
      · have hy1 : D i = .agg [y0.1, y1.1] := congrArg Prod.fst hy
        rw [hy1]
        simp [DataW.weights, DataW.weightsEach, Try.underlying49, hm]
    obtain ⟨l, hlen, hat⟩ := choose_list len hone
    subst hlen
    refine ⟨some a, _, l, rfl, sl_rows lineCells 3 lineCells_len l (fun i hi j hj => (hat i hi).1 j hj), fun x hx => ?_, by omega, fun B hB => ⟨?_, fun x hxm => ?_⟩⟩
    · obtain ⟨i, hi, rfl⟩ := List.getElem_of_mem hx
      exact (hat i hi).2.1
    · rw [hx] at hB
      simp only [DataW.weights, Try.underlying23, bytesLine, List.mem_cons, List.mem_append] at hB
      have := hB _ (.inl rfl)
      simp only [List.length_map, List.length_range] at this
      omega
    · obtain ⟨i, hi, rfl⟩ := List.getElem_of_mem hxm
      refine (hat i hi).2.2 B (fun m hm => hB m ?_)
      rw [hx]
      simp only [DataW.weights, Try.underlying23, List.mem_cons, List.mem_append]
      exact .inr (.inl (pweightsAll_mem (List.mem_map.2 ⟨i, by simpa using hi, rfl⟩) hm))

set_option maxRecDepth 100000 in
/-- A program that came in, with its size. -/
theorem read_progS {H : Type} {enc : TypeId × Value → H} {W : World} {r : Reach} {b0 : Nat} {v : Value} {d : DataW H} {p : List MemPlace} (hv : Value.okWide Try.prog W r b0 26 v)
    (h : DataW.Trod enc Try.prog W 0 (fun _ => true) true 26 v d p) : ∃ q : Pg, v = q.v ∧ PgAt W q ∧ Lens q ∧ PgWf q ∧ ((∀ m ∈ d.weights Try.prog 26, m ≤ 140737488351232) → Room q) := by
  obtain ⟨v0, v1, v2, v3, v4, v5, v6, y0, y1, y2, y3, y4, y5, y6, n, rfl, rfl, h0, h1, h2, h3, h4, h5, h6⟩ := open_agg7 Try.underlying26 (by kernel_rfl) (by kernel_rfl) hv h
  obtain ⟨z0, e0, -, -⟩ := DataW.trod_int Try.underlying3 h0
  obtain ⟨z1, e1, -, -⟩ := DataW.trod_int Try.underlying3 h1
  obtain ⟨z2, e2, -, -⟩ := DataW.trod_int Try.underlying3 h2
  obtain ⟨z3, e3, -, -⟩ := DataW.trod_int Try.underlying3 h3
  simp only [List.cons.injEq, and_true] at e0 e1 e2 e3
  subst e0 e1 e2 e3
  obtain ⟨a4, c4, l4, rfl, s4, x4, n4, w4⟩ := read_cpartsS h4
  obtain ⟨a5, c5, l5, rfl, s5, x5, n5, w5⟩ := read_clinesS h5
  obtain ⟨a6, c6, l6, rfl, s6, n6, w6⟩ := read_copsS h6
  have hm : ∀ n : Nat, n ≤ maxLen → n ≤ 9223372036854775807 := fun n h => by unfold maxLen at h; exact h
  refine ⟨⟨z0, z1, z2, z3, a4, c4, l4, a5, c5, l5, a6, c6, l6⟩, rfl, ⟨s6, s4, s5, fun x hx => (x4 x hx).1, fun x hx => (x5 x hx).1⟩,
    ⟨hm _ n4, hm _ n5, hm _ n6, fun x hx => hm _ (x4 x hx).2.2, fun x hx => hm _ (x5 x hx).2.2⟩, ⟨fun x hx => (x4 x hx).2.1, fun x hx => (x5 x hx).2.1⟩, fun hB => ?_⟩
  have b4 := w4 140737488351232 (fun m hm => hB m (by simp [DataW.weights, DataW.weightsEach, Try.underlying26, hm]))
  have b5 := w5 140737488351232 (fun m hm => hB m (by simp [DataW.weights, DataW.weightsEach, Try.underlying26, hm]))
  have b6 := w6 140737488351232 (fun m hm => hB m (by simp [DataW.weights, DataW.weightsEach, Try.underlying26, hm]))
  exact ⟨b4.1, b5.1, b6, b4.2, b5.2⟩
end Go.Proofs.Ytfmpjbiaamkobaa
