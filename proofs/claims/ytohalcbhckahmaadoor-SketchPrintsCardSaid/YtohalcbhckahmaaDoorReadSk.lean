/-
  A sketch that came in, with its size.
-/
import Derived.Test.YtohalcbhckahmaaDoorRead
import Derived.Test.YtohalcbhckahmaaDoorMem3
import Derived.Test.YtohalcbhckahmaaDoorSkS
import Derived.Deep.Strs
namespace Go.Proofs.YtohalcbhckahmaaDoor
open Go Go.RowKit Go.ChangeShapes Go.WideShapes Go.ChangeAt Go.Deep Go.Joins
set_option linter.all false

def i64B (x : Int) : Prop := -9223372036854775808 ≤ x ∧ x ≤ 9223372036854775807
theorem i64_of_wf {x : Int} (h : (Lit.int .i64 x).wf = true) : i64B x := wf_i64 h
theorem u8_of_wf {x : Int} (h : (Lit.int .u8 x).wf = true) : 0 ≤ x ∧ x ≤ 255 := wf_u8 h
/-- A list of ints in a field. -/
theorem read_intsF {H : Type} {enc : TypeId × Value → H} {W : World} {n : Nat} {v : Value} {y : DataW H × List MemPlace}
    (h : DataW.trod enc Tryd.prog W 0 (fun _ => true) true n 38 [v] = some y) :
    ∃ a c xs, v = .slice a xs.length c ∧ SlAt W a (Is xs) ∧ (∀ x ∈ xs, i64B x) ∧ xs.length ≤ maxLen ∧ (y.1 = .nil ∧ xs = [] ∨ ∃ sp, y.1 = .slice (lits .i64 xs) sp) := by
  have hv : ∃ a' n' c', v = .slice a' n' c' := by
    rcases open_ints Tryd.underlying38 Tryd.underlying3 (by kernel_rfl) h with ⟨h1, _⟩ | ⟨x1, l1, c1, zs, h1, _⟩
    · simp at h1; exact ⟨_, _, _, h1⟩
    · simp at h1; exact ⟨_, _, _, h1⟩
  obtain ⟨a', n', c', rfl⟩ := hv
  obtain ⟨xs, rfl, hs, hw, hl, _, hd⟩ := read_ints (a := a') (n := n') (c := c') (d := y.1) (ps := y.2) (W := W) (enc := enc) ⟨n, h⟩
  exact ⟨a', c', xs, rfl, hs, fun x hx => i64_of_wf (hw x hx), hl, hd⟩
theorem pweightsAll_mem {H : Type} {P : Program} {e : TypeId} {l : List (DataW H)} {d : DataW H} (h : d ∈ l) {m : Nat} (hm : m ∈ d.weights P e) : m ∈ DataW.weightsAll P e l := by
  induction l with
  | nil => cases h
  | cons x r ih =>
    simp only [DataW.weightsAll, List.mem_append]
    rcases List.mem_cons.1 h with rfl | h
    · exact .inl hm
    · exact .inr (ih h)
theorem bytesInt : Tryd.prog.bytesOf 3 = 8 := by kernel_rfl
theorem ints_weight {H : Type} {d : DataW H} {xs : List Int} {B : Nat} (h : d = .nil ∧ xs = [] ∨ ∃ sp, d = .slice (lits .i64 xs) sp) (hB : ∀ m ∈ d.weights Tryd.prog 38, m ≤ B) : xs.length * 8 ≤ B := by
  rcases h with ⟨_, rfl⟩ | ⟨sp, rfl⟩
  · simp
  · have := hB ((xs.length + sp.length) * 8) (by simp [DataW.weights, Tryd.underlying38, lits_len, bytesInt])
    omega
section
variable {H : Type} {enc : TypeId × Value → H} {P : Program} {w : World} {base : Nat} {spare : Nat → Bool} {held : Bool}
/-- A slice of structs, opened: the fields may be of many cells. -/
theorem open_slice_rows {t e : TypeId} {fs : Array Field} {fuel : Nat} {cs : List Value} {x : DataW H × List MemPlace} (ht : P.underlying t = some (.slice e)) (he : P.underlying e = some (.struct fs))
    {C : Nat} (hC : P.cellsOf e = C) (h : DataW.trod enc P w base spare held fuel t cs = some x) :
    (cs = [.slice none 0 0] ∧ x = (.nil, [])) ∨
    ∃ (a : Addr) (len cap m : Nat) (D : Nat → DataW H), cs = [.slice (some a) len cap] ∧ base ≤ a.block ∧ len ≤ cap ∧ cap ≤ maxLen ∧ m = (if spare a.block then cap else len) ∧
      x.1 = .slice ((List.range len).map D) ((List.range (m - len)).map fun j => D (len + j)) ∧
      ∀ i, i < m → ∃ (cs' : List Value) (ys : List (DataW H × List MemPlace)) (n : Nat), cs'.length = C ∧ (∀ j, j < C → w.cell? (a.add (i * C + j)) = cs'[j]?) ∧ D i = .agg (ys.map (·.1)) ∧ ys.length = fs.size ∧
        ∀ (j : Nat) (f : Field), fs[j]? = some f → DataW.trod enc P w base spare held n f.type ((cs'.drop f.offset).take (P.cellsOf f.type)) = ys[j]? := by
  subst hC
  rcases open_slice ht h with h0 | ⟨a, len, cap, m, n, D, Pl, hcs, hb, hl, hm, hmm, hx, hi⟩
  · exact .inl h0
  · refine .inr ⟨a, len, cap, m, D, hcs, hb, hl, hm, hmm, by rw [hx], fun i him => ?_⟩
    obtain ⟨cs', hc, ht'⟩ := hi i him
    obtain ⟨ys, n', hn', hy, hlen, hyl, hf⟩ := DataW.trod_struct he ht'
    obtain ⟨_, hcl, hat⟩ := World.cells?_some hc
    simp only [Prod.mk.injEq] at hy
    refine ⟨cs', ys, n', hlen, fun j hj => ?_, hy.1, hyl, fun j f hj => hf j f hj⟩
    rw [← Go.Deep.add_add, hat j hj]
theorem open_agg2 {r : Reach} {b0 : Nat} {t : TypeId} {f0 f1 : Field} {v : Value} {d : DataW H} {p : List MemPlace} (hs : P.underlying t = some (.struct #[f0, f1])) (hone : oneCellFields P #[f0, f1] = true) (hC : P.cellsOf t = 2)
    (hv : Value.okWide P w r b0 t v) (h : DataW.Trod enc P w base spare held t v d p) :
    ∃ (v0 v1 : Value) (y0 y1 : DataW H × List MemPlace) (n : Nat), v = .agg #[v0, v1] ∧ d = .agg [y0.1, y1.1] ∧
      DataW.trod enc P w base spare held n f0.type [v0] = some y0 ∧ DataW.trod enc P w base spare held n f1.type [v1] = some y1 := by
  obtain ⟨cs, rfl, hsz⟩ := okWide_struct hs hv
  obtain ⟨l⟩ := cs
  match l, hsz.trans hC with
  | [c0, c1], _ =>
    obtain ⟨fuel, hf⟩ := h
    obtain ⟨xs, n, _, hx, _, hlen, hg⟩ := DataW.trod_struct hs hf
    obtain ⟨o0, k0⟩ := hone_of hone 0 f0 rfl
    obtain ⟨o1, k1⟩ := hone_of hone 1 f1 rfl
    match xs, hlen with
    | [y0, y1], _ =>
      simp only [Prod.mk.injEq] at hx
      exact ⟨c0, c1, y0, y1, n, rfl, by simpa using hx.1, by simpa [Value.cells, o0, k0] using hg 0 f0 rfl, by simpa [Value.cells, o1, k1] using hg 1 f1 rfl⟩
end
theorem cellsStr : Tryd.prog.cellsOf 9 = 1 := by kernel_rfl
theorem cellsI : Tryd.prog.cellsOf 3 = 1 := by kernel_rfl
theorem cellsIs : Tryd.prog.cellsOf 38 = 1 := by kernel_rfl
theorem cellsKind : Tryd.prog.cellsOf 37 = 1 := by kernel_rfl
theorem cellsPl : Tryd.prog.cellsOf 40 = 3 := by kernel_rfl
theorem cellsIt : Tryd.prog.cellsOf 42 = 11 := by kernel_rfl
theorem bytesItem : Tryd.prog.bytesOf 42 = 136 := by kernel_rfl
theorem read_place {H : Type} {enc : TypeId × Value → H} {W : World} {n : Nat} {v0 v1 v2 : Value} {y : DataW H × List MemPlace}
    (h : DataW.trod enc Tryd.prog W 0 (fun _ => true) true n 40 [v0, v1, v2] = some y) :
    ∃ (s : ByteArray) (p a : Int), v0 = .string s ∧ v1 = I p ∧ v2 = I a ∧ s.size ≤ maxLen ∧ i64B p ∧ i64B a := by
  obtain ⟨y0, y1, y2, m, -, -, h0, h1, h2⟩ := Go.Deep.trod_struct3 Tryd.underlying40 h
  simp only [cellsStr, cellsI, List.drop_zero, List.drop_succ_cons, List.take_succ_cons, List.take_zero] at h0 h1 h2
  obtain ⟨s, e0, -, z0⟩ := DataW.trod_string Tryd.underlying9 h0
  obtain ⟨p, e1, -, z1⟩ := DataW.trod_int Tryd.underlying3 h1
  obtain ⟨a, e2, -, z2⟩ := DataW.trod_int Tryd.underlying3 h2
  simp only [List.cons.injEq, and_true] at e0 e1 e2
  exact ⟨s, p, a, e0, e1, e2, z0, i64_of_wf z1, i64_of_wf z2⟩
/-- An item that came in. -/
structure ItW (W : World) (x : SIt) : Prop where
  nx : SlAt W x.a (Is x.xs)
  nl : x.xs.length ≤ maxLen
  kd : 0 ≤ x.kind ∧ x.kind ≤ 255
  nm : x.name.size ≤ maxLen
  tg : x.tag.size ≤ maxLen
  xs : ∀ y ∈ x.xs, i64B y
  fn : x.fn.size ≤ maxLen
  fp : i64B x.fp
  tn : x.tn.size ≤ maxLen
  tp : i64B x.tp
set_option maxRecDepth 100000 in
theorem read_items {H : Type} {enc : TypeId × Value → H} {W : World} {fuel : Nat} {v : Value} {y : DataW H × List MemPlace}
    (h : DataW.trod enc Tryd.prog W 0 (fun _ => true) true fuel 22 [v] = some y) :
    ∃ (ao : Option Addr) (c : Nat) (l : List SIt), v = .slice ao l.length c ∧ SlAt W ao (l.flatMap itCells) ∧ (∀ x ∈ l, ItW W x) ∧ l.length ≤ maxLen ∧
      ∀ B, (∀ m ∈ y.1.weights Tryd.prog 22, m ≤ B) → l.length * 136 ≤ B ∧ ∀ x ∈ l, x.xs.length * 8 ≤ B := by
  rcases open_slice_rows Tryd.underlying22 Tryd.underlying42 cellsIt h with ⟨hcs, hx⟩ | ⟨a, len, cap, m, D, hcs, _, hl, hm, hmm, hx, hi⟩
  · simp only [List.cons.injEq, and_true] at hcs
    subst hcs
    exact ⟨none, 0, [], rfl, SlAt.nil _ _, by simp, by simp, by simp⟩
  · simp only [List.cons.injEq, and_true] at hcs
    simp only [if_true] at hmm
    subst hcs; subst hmm
    have hone : ∀ i, i < len → ∃ x : SIt, (∀ j, j < 11 → W.cell? (a.add (i * 11 + j)) = (itCells x)[j]?) ∧ ItW W x ∧ ∀ B, (∀ m ∈ (D i).weights Tryd.prog 42, m ≤ B) → x.xs.length * 8 ≤ B := by
      intro i hil
      obtain ⟨cs', ys, n, hcl, hcell, hD, hyl, hf⟩ := hi i (by omega)
      match cs', hcl with
      | [v0, v1, v2, v3, v4, v5, v6, v7, v8, v9, v10], _ =>
        match ys, hyl with
        | [y0, y1, y2, y3, y4, y5, y6], _ =>
          have t0 := hf 0 _ rfl
          have t1 := hf 1 _ rfl
          have t2 := hf 2 _ rfl
          have t3 := hf 3 _ rfl
          have t4 := hf 4 _ rfl
          have t5 := hf 5 _ rfl
          have t6 := hf 6 _ rfl
          simp only [cellsStr, cellsI, cellsIs, cellsKind, cellsPl, List.drop_zero, List.drop_succ_cons, List.take_succ_cons, List.take_zero, List.getElem?_cons_zero, List.getElem?_cons_succ] at t0 t1 t2 t3 t4 t5 t6
          obtain ⟨n0, e0, -, r0⟩ := DataW.trod_int Tryd.underlying37 t0
          obtain ⟨n1, e1, -, r1⟩ := DataW.trod_string Tryd.underlying9 t1
          obtain ⟨n2, e2, -, r2⟩ := DataW.trod_string Tryd.underlying9 t2
          obtain ⟨a3, d3, xs, rfl, hs, hw, hxl, hd⟩ := read_intsF t3
          obtain ⟨fn, fp, fa, rfl, rfl, rfl, f1, f2, f3⟩ := read_place t4
          obtain ⟨tn, tp, ta, rfl, rfl, rfl, u1, u2, u3⟩ := read_place t5
          obtain ⟨n6, e6, -, r6⟩ := DataW.trod_int Tryd.underlying3 t6
          cases e0
          cases e1
          cases e2
          cases e6
          refine ⟨⟨n0, n1, n2, a3, d3, xs, fn, fp, fa, tn, tp, ta, n6⟩, fun j hj => hcell j hj, ⟨hs, hxl, u8_of_wf r0, r1, r2, hw, f1, f2, u1, u2⟩, fun B hB => ints_weight hd (fun m hm => hB m ?_)⟩
          rw [hD]
          simp [DataW.weights, DataW.weightsEach, Tryd.underlying42, hm]
    obtain ⟨l, hlen, hat⟩ := choose_list len hone
    subst hlen
    refine ⟨some a, _, l, rfl, sl_rows itCells 11 (fun _ => rfl) l (fun i hi j hj => (hat i hi).1 j hj), fun x hx => ?_, by omega, fun B hB => ⟨?_, fun x hxm => ?_⟩⟩
    · obtain ⟨i, hi, rfl⟩ := List.getElem_of_mem hx
      exact (hat i hi).2.1
    · rw [hx] at hB
      simp only [DataW.weights, Tryd.underlying22, bytesItem, List.mem_cons, List.mem_append] at hB
      have := hB _ (.inl rfl)
      simp only [List.length_map, List.length_range] at this
      omega
    · obtain ⟨i, hi, rfl⟩ := List.getElem_of_mem hxm
      refine (hat i hi).2.2 B (fun m hm => hB m ?_)
      rw [hx]
      simp only [DataW.weights, Tryd.underlying22, List.mem_cons, List.mem_append]
      exact .inr (.inl (pweightsAll_mem (List.mem_map.2 ⟨i, by simpa using hi, rfl⟩) hm))
/-- Lengths that a heavy look bears. -/
structure SRoom (s : Sk) : Prop where
  i : s.items.length ≤ 17592186044416
  ix : ∀ x ∈ s.items, x.xs.length ≤ 17592186044416
structure SWf (W : World) (s : Sk) : Prop where
  n : s.name.size ≤ maxLen
  i : s.items.length ≤ maxLen
  it : ∀ x ∈ s.items, ItW W x
set_option maxRecDepth 100000 in
/-- A sketch that came in, with its size. -/
theorem read_sketch {H : Type} {enc : TypeId × Value → H} {W : World} {r : Reach} {b0 : Nat} {v : Value} {d : DataW H} {p : List MemPlace} (hv : Value.okWide Tryd.prog W r b0 24 v)
    (h : DataW.Trod enc Tryd.prog W 0 (fun _ => true) true 24 v d p) : ∃ s : Sk, v = s.v ∧ SkAt W s ∧ SWf W s ∧ ((∀ m ∈ d.weights Tryd.prog 24, m ≤ 140737488351232) → SRoom s) := by
  obtain ⟨v0, v1, y0, y1, n, rfl, rfl, h0, h1⟩ := open_agg2 Tryd.underlying24 (by kernel_rfl) (by kernel_rfl) hv h
  obtain ⟨s0, e0, -, z0⟩ := DataW.trod_string Tryd.underlying9 h0
  simp only [List.cons.injEq, and_true] at e0
  subst e0
  obtain ⟨a1, c1, l1, rfl, s1, x1, n1, w1⟩ := read_items h1
  refine ⟨⟨s0, a1, c1, l1⟩, rfl, ⟨s1, fun x hx => (x1 x hx).nx⟩, ⟨z0, n1, x1⟩, fun hB => ?_⟩
  have b1 := w1 140737488351232 (fun m hm => hB m (by simp [DataW.weights, DataW.weightsEach, Tryd.underlying24, hm]))
  refine ⟨show l1.length ≤ _ by have := b1.1; omega, fun x hx => ?_⟩
  have := b1.2 x hx; omega
theorem SWf.bnd {W : World} {s : Sk} (h : SWf W s) : s.name.size ≤ 9223372036854775807 ∧ s.items.length ≤ 9223372036854775807 := by
  have h1 := h.n
  have h2 := h.i
  unfold maxLen at h1 h2
  exact ⟨h1, h2⟩
end Go.Proofs.YtohalcbhckahmaaDoor
