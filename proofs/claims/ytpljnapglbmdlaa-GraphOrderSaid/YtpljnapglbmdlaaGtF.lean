/-
  Layer 8: a graph whose lists are grown one by one, its actors lent.
-/
import Derived.Test.YtpljnapglbmdlaaGsH
namespace Go.Proofs.Ytpljnapglbmdlaa
open Go Go.RowKit Go.Joins
set_option linter.all false

structure OrdAt (w : World) (g r : Gr) (P : Nat) (w' : World) : Prop where
  eo : w'.ownsRow w.heap.size 58 5 (.slice r.ea r.edges.length r.ec) r.edges.length (r.edges.flatMap edgeCells)
  io : w'.ownsRow w.heap.size 60 3 (.slice r.ia r.ins.length r.ic) r.ins.length (r.ins.flatMap portCells)
  oo : w'.ownsRow w.heap.size 60 3 (.slice r.oa r.outs.length r.oc) r.outs.length (r.outs.flatMap portCells)
  po : ∀ k, blk r.ia k → ¬ blk r.oa k
  ao : w'.ownsRow w.heap.size 55 3 (.slice r.aa (r.acts.length + 1) r.ac) (r.acts.length + 1) ((r.acts ++ [mkAct]).flatMap actCells)
  la : ∀ x ∈ r.acts, LtB w' x.a x.c x.xs
  bl : w'.heap[P]? = some (.cells r.cs 26 (0, 0))
  hg : w'.heap[w.heap.size]? = some (.cells g.cs 26 (0, 0))
  nw : New w w'
  hP : w.heap.size < P
theorem OrdAt.new {w w1 w2 : World} {g r : Gr} {P : Nat} (h : OrdAt w g r P w1) (k : New w1 w2) : OrdAt w g r P w2 :=
  ⟨k.owns h.eo, k.owns h.io, k.owns h.oo, h.po, k.owns h.ao, fun x hx => (h.la x hx).new k, Keeps.heap k h.bl (fun h => h), Keeps.heap k h.hg (fun h => h), h.nw.trans k, h.hP⟩
theorem OrdAt.at {w w1 : World} {g r : Gr} {P : Nat} (h : OrdAt w g r P w1) (he : ∀ x ∈ r.edges, SlAt w1 x.a (Is x.xs)) : GrAt w1 r :=
  ⟨(SlAt.of_owns h.ao).snoc, SlAt.of_owns h.eo, SlAt.of_owns h.io, SlAt.of_owns h.oo, fun x hx => (h.la x hx).sl, he⟩
theorem OrdAt.addE {w w1 w2 w3 : World} {g r : Gr} {P : Nat} (h : OrdAt w g r P w1) (x : GEdge) (k12 : New w1 w2)
    {a' : Option Addr} {c' : Nat} (ho : w3.ownsRow w.heap.size 58 5 (.slice a' (r.edges.length + 1) c') (r.edges.length + 1) (r.edges.flatMap edgeCells ++ edgeCells x)) (hk : Keeps (blk r.ea) w2 w3) (hm : Moved w2 r.ea a') :
    (w3.cell? ⟨P, 2, none⟩ = some (.slice r.ea r.edges.length r.ec) ∧ w3.frozen? ⟨P, 2, none⟩ = false ∧ P < w3.heap.size) ∧ OrdAt w g { r with ea := a', ec := c', edges := r.edges ++ [x] } P (w3.setCell ⟨P, 2, none⟩ (.slice a' (r.edges.length + 1) c')) := by
  have h2 := h.new k12
  have htag : ∀ k, blk r.ea k → ∃ cur, w2.heap[k]? = some (.cells cur 58 (0, 0)) := fun k hb => tab_tag h2.eo (own_blk hb)
  have hne : ∀ {b : Nat} {cs : Array Value} {t : TypeId}, w2.heap[b]? = some (.cells cs t (0, 0)) → t ≠ 58 → ¬ blk r.ea b := fun hb ht hx => by
    obtain ⟨cur, hc⟩ := htag _ hx
    rw [hb] at hc; simp at hc; exact ht hc.2
  have hP3 := hk.heap h2.bl (hne h2.bl (by decide))
  have ks : Keeps (fun k => k = P) w3 (w3.setCell ⟨P, 2, none⟩ (.slice a' (r.edges.length + 1) c')) := Keeps.setCell w3 _ _ rfl
  have kA : Keeps (fun k => k = P ∨ blk r.ea k) w2 (w3.setCell ⟨P, 2, none⟩ (.slice a' (r.edges.length + 1) c')) := (hk.mono (fun _ _ h => .inr h)).trans ks (fun _ _ h => .inl h)
  have hS : ∀ e : TypeId, e ≠ 26 → e ≠ 58 → ∀ k, (k = P ∨ blk r.ea k) → ∃ cur t fr, w2.heap[k]? = some (.cells cur t fr) ∧ t ≠ e := fun e h1 h3 k hk => by
    rcases hk with rfl | hk
    · exact ⟨_, _, _, h2.bl, Ne.symm h1⟩
    · obtain ⟨cur, hc⟩ := htag k hk; exact ⟨cur, _, _, hc, Ne.symm h3⟩
  have hown : (w3.setCell ⟨P, 2, none⟩ (.slice a' (r.edges.length + 1) c')).ownsRow w.heap.size 58 5 (.slice a' (r.edges.length + 1) c') (r.edges.length + 1) (r.edges.flatMap edgeCells ++ edgeCells x) := own_oth ho ks (fun k hk => ⟨_, _, _, hk ▸ hP3, by decide⟩)
  have hPl := h2.hP
  obtain ⟨p0, p1, p2, p3, p4, hPlt⟩ := gr_cells hP3
  refine ⟨⟨p2, unfrozen_of_block hP3 2, hPlt⟩, ⟨?_, ?_, ?_, ?_, ?_, ?_, ?_, ?_, ?_, hPl⟩⟩
  · simpa using hown
  · exact own_oth h2.io kA (hS _ (by decide) (by decide))
  · exact own_oth h2.oo kA (hS _ (by decide) (by decide))
  · exact h.po
  · exact own_oth h2.ao kA (hS _ (by decide) (by decide))
  · exact fun y hy => (h2.la y hy).keeps kA (hS _ (by decide) (by decide))
  · rw [block_setCell hP3]; simp [Gr.cs]
  · refine kA.heap h2.hg (fun hx => ?_)
    rcases hx with hx | hx
    · omega
    · exact hne h2.hg (by decide) hx
  · exact New.keeps h2.nw kA (fun i hi hx => by
      rcases hx with rfl | hx
      · omega
      · have := (own_of_blk h2.eo hx).1; omega)
theorem OrdAt.addI {w w1 w2 w3 : World} {g r : Gr} {P : Nat} (h : OrdAt w g r P w1) (x : GPort) (k12 : New w1 w2)
    {a' : Option Addr} {c' : Nat} (ho : w3.ownsRow w.heap.size 60 3 (.slice a' (r.ins.length + 1) c') (r.ins.length + 1) (r.ins.flatMap portCells ++ portCells x)) (hk : Keeps (blk r.ia) w2 w3) (hm : Moved w2 r.ia a') :
    (w3.cell? ⟨P, 3, none⟩ = some (.slice r.ia r.ins.length r.ic) ∧ w3.frozen? ⟨P, 3, none⟩ = false ∧ P < w3.heap.size) ∧ OrdAt w g { r with ia := a', ic := c', ins := r.ins ++ [x] } P (w3.setCell ⟨P, 3, none⟩ (.slice a' (r.ins.length + 1) c')) := by
  have h2 := h.new k12
  have htag : ∀ k, blk r.ia k → ∃ cur, w2.heap[k]? = some (.cells cur 60 (0, 0)) := fun k hb => tab_tag h2.io (own_blk hb)
  have hne : ∀ {b : Nat} {cs : Array Value} {t : TypeId}, w2.heap[b]? = some (.cells cs t (0, 0)) → t ≠ 60 → ¬ blk r.ia b := fun hb ht hx => by
    obtain ⟨cur, hc⟩ := htag _ hx
    rw [hb] at hc; simp at hc; exact ht hc.2
  have hP3 := hk.heap h2.bl (hne h2.bl (by decide))
  have ks : Keeps (fun k => k = P) w3 (w3.setCell ⟨P, 3, none⟩ (.slice a' (r.ins.length + 1) c')) := Keeps.setCell w3 _ _ rfl
  have kA : Keeps (fun k => k = P ∨ blk r.ia k) w2 (w3.setCell ⟨P, 3, none⟩ (.slice a' (r.ins.length + 1) c')) := (hk.mono (fun _ _ h => .inr h)).trans ks (fun _ _ h => .inl h)
  have hS : ∀ e : TypeId, e ≠ 26 → e ≠ 60 → ∀ k, (k = P ∨ blk r.ia k) → ∃ cur t fr, w2.heap[k]? = some (.cells cur t fr) ∧ t ≠ e := fun e h1 h3 k hk => by
    rcases hk with rfl | hk
    · exact ⟨_, _, _, h2.bl, Ne.symm h1⟩
    · obtain ⟨cur, hc⟩ := htag k hk; exact ⟨cur, _, _, hc, Ne.symm h3⟩
  have hown : (w3.setCell ⟨P, 3, none⟩ (.slice a' (r.ins.length + 1) c')).ownsRow w.heap.size 60 3 (.slice a' (r.ins.length + 1) c') (r.ins.length + 1) (r.ins.flatMap portCells ++ portCells x) := own_oth ho ks (fun k hk => ⟨_, _, _, hk ▸ hP3, by decide⟩)
  have hPl := h2.hP
  obtain ⟨p0, p1, p2, p3, p4, hPlt⟩ := gr_cells hP3
  refine ⟨⟨p3, unfrozen_of_block hP3 3, hPlt⟩, ⟨?_, ?_, ?_, ?_, ?_, ?_, ?_, ?_, ?_, hPl⟩⟩
  · exact own_oth h2.eo kA (hS _ (by decide) (by decide))
  · simpa using hown
  · refine kA.owns h2.oo (fun k hk1 hx => ?_)
    have hk2 : blk r.oa k := blk_of_own hk1
    rcases hx with rfl | hx
    · obtain ⟨cur, hc⟩ := tab_tag h2.oo hk1
      rw [h2.bl] at hc; simp at hc
    · exact h.po k hx hk2
  · intro k hk1 hk2
    rcases moved_blk hm hk1 with hx | hx
    · exact h.po k hx hk2
    · have := (own_of_blk h2.oo hk2).2
      omega
  · exact own_oth h2.ao kA (hS _ (by decide) (by decide))
  · exact fun y hy => (h2.la y hy).keeps kA (hS _ (by decide) (by decide))
  · rw [block_setCell hP3]; simp [Gr.cs]
  · refine kA.heap h2.hg (fun hx => ?_)
    rcases hx with hx | hx
    · omega
    · exact hne h2.hg (by decide) hx
  · exact New.keeps h2.nw kA (fun i hi hx => by
      rcases hx with rfl | hx
      · omega
      · have := (own_of_blk h2.io hx).1; omega)
theorem OrdAt.addO {w w1 w2 w3 : World} {g r : Gr} {P : Nat} (h : OrdAt w g r P w1) (x : GPort) (k12 : New w1 w2)
    {a' : Option Addr} {c' : Nat} (ho : w3.ownsRow w.heap.size 60 3 (.slice a' (r.outs.length + 1) c') (r.outs.length + 1) (r.outs.flatMap portCells ++ portCells x)) (hk : Keeps (blk r.oa) w2 w3) (hm : Moved w2 r.oa a') :
    (w3.cell? ⟨P, 4, none⟩ = some (.slice r.oa r.outs.length r.oc) ∧ w3.frozen? ⟨P, 4, none⟩ = false ∧ P < w3.heap.size) ∧ OrdAt w g { r with oa := a', oc := c', outs := r.outs ++ [x] } P (w3.setCell ⟨P, 4, none⟩ (.slice a' (r.outs.length + 1) c')) := by
  have h2 := h.new k12
  have htag : ∀ k, blk r.oa k → ∃ cur, w2.heap[k]? = some (.cells cur 60 (0, 0)) := fun k hb => tab_tag h2.oo (own_blk hb)
  have hne : ∀ {b : Nat} {cs : Array Value} {t : TypeId}, w2.heap[b]? = some (.cells cs t (0, 0)) → t ≠ 60 → ¬ blk r.oa b := fun hb ht hx => by
    obtain ⟨cur, hc⟩ := htag _ hx
    rw [hb] at hc; simp at hc; exact ht hc.2
  have hP3 := hk.heap h2.bl (hne h2.bl (by decide))
  have ks : Keeps (fun k => k = P) w3 (w3.setCell ⟨P, 4, none⟩ (.slice a' (r.outs.length + 1) c')) := Keeps.setCell w3 _ _ rfl
  have kA : Keeps (fun k => k = P ∨ blk r.oa k) w2 (w3.setCell ⟨P, 4, none⟩ (.slice a' (r.outs.length + 1) c')) := (hk.mono (fun _ _ h => .inr h)).trans ks (fun _ _ h => .inl h)
  have hS : ∀ e : TypeId, e ≠ 26 → e ≠ 60 → ∀ k, (k = P ∨ blk r.oa k) → ∃ cur t fr, w2.heap[k]? = some (.cells cur t fr) ∧ t ≠ e := fun e h1 h3 k hk => by
    rcases hk with rfl | hk
    · exact ⟨_, _, _, h2.bl, Ne.symm h1⟩
    · obtain ⟨cur, hc⟩ := htag k hk; exact ⟨cur, _, _, hc, Ne.symm h3⟩
  have hown : (w3.setCell ⟨P, 4, none⟩ (.slice a' (r.outs.length + 1) c')).ownsRow w.heap.size 60 3 (.slice a' (r.outs.length + 1) c') (r.outs.length + 1) (r.outs.flatMap portCells ++ portCells x) := own_oth ho ks (fun k hk => ⟨_, _, _, hk ▸ hP3, by decide⟩)
  have hPl := h2.hP
  obtain ⟨p0, p1, p2, p3, p4, hPlt⟩ := gr_cells hP3
  refine ⟨⟨p4, unfrozen_of_block hP3 4, hPlt⟩, ⟨?_, ?_, ?_, ?_, ?_, ?_, ?_, ?_, ?_, hPl⟩⟩
  · exact own_oth h2.eo kA (hS _ (by decide) (by decide))
  · refine kA.owns h2.io (fun k hk1 hx => ?_)
    have hk2 : blk r.ia k := blk_of_own hk1
    rcases hx with rfl | hx
    · obtain ⟨cur, hc⟩ := tab_tag h2.io hk1
      rw [h2.bl] at hc; simp at hc
    · exact h.po k hk2 hx
  · simpa using hown
  · intro k hk1 hk2
    rcases moved_blk hm hk2 with hx | hx
    · exact h.po k hk1 hx
    · have := (own_of_blk h2.io hk1).2
      omega
  · exact own_oth h2.ao kA (hS _ (by decide) (by decide))
  · exact fun y hy => (h2.la y hy).keeps kA (hS _ (by decide) (by decide))
  · rw [block_setCell hP3]; simp [Gr.cs]
  · refine kA.heap h2.hg (fun hx => ?_)
    rcases hx with hx | hx
    · omega
    · exact hne h2.hg (by decide) hx
  · exact New.keeps h2.nw kA (fun i hi hx => by
      rcases hx with rfl | hx
      · omega
      · have := (own_of_blk h2.oo hx).1; omega)
theorem OrdAt.start {w w5 W : World} {g q : Gr} {B P : Nat} {cs : Array Value} (hq : Lended w5 B g q) (hB : w.heap.size ≤ B) (hp : w5.heap[P]? = some (.cells cs 26 (0, 0))) (hg : w5.heap[w.heap.size]? = some (.cells g.cs 26 (0, 0))) (nw : New w w5) (hP : w.heap.size < P)
    (hb : W.heap[P]? = some (.cells (⟨g.name, q.aa, q.ac, q.acts, none, 0, [], none, 0, [], none, 0, []⟩ : Gr).cs 26 (0, 0))) (k : Keeps (fun k => k = P) w5 W) :
    OrdAt w g ⟨g.name, q.aa, q.ac, q.acts, none, 0, [], none, 0, [], none, 0, []⟩ P W := by
  have hS : ∀ e : TypeId, e ≠ 26 → ∀ k, k = P → ∃ cur t fr, w5.heap[k]? = some (.cells cur t fr) ∧ t ≠ e := fun e h1 k hk => ⟨_, _, _, hk ▸ hp, Ne.symm h1⟩
  have ha := ownsRow_le hq.ow.ao hB
  simp only [qL, List.length_append, List.length_cons, List.length_nil, Nat.zero_add] at ha
  refine ⟨World.ownsRow_nil _ _ _ _, World.ownsRow_nil _ _ _ _, World.ownsRow_nil _ _ _ _, (fun k hk => by obtain ⟨y, hy, _⟩ := hk; cases hy), own_oth ha k (hS _ (by decide)), fun x hx => (hq.la x hx).keeps k (hS _ (by decide)), hb, k.heap hg (by omega), New.keeps nw k (fun i hi e => by omega), hP⟩
theorem SlAt.rest {α : Type} {f : α → List Value} {n : Nat} (hf : ∀ x, (f x).length = n) (hn : 0 < n) {w : World} {a : Option Addr} {x : α} {t : List α} (h : SlAt w a ((x :: t).flatMap f)) : SlAt w (Option.map (fun z => (⟨z.block, z.off + n, none⟩ : Addr)) a) (t.flatMap f) := by
  obtain ⟨b, off, rfl, -⟩ := h.at (i := 0) (by simp [hf]; omega)
  have := h.drop n
  have e : ((x :: t).flatMap f).drop n = t.flatMap f := by rw [List.flatMap_cons, ← hf x, List.drop_left]
  rw [e] at this
  exact this
end Go.Proofs.Ytpljnapglbmdlaa
