/-
  Layer 8: Build: how far it has come, in memory.
-/
import Derived.Test.YtpljnapglbmdlaaGrX
namespace Go.Proofs.Ytpljnapglbmdlaa
open Go Go.RowKit Go.Joins
set_option linter.all false

abbrev zG : Array Value := #[.string ⟨#[]⟩, .slice none 0 0, .slice none 0 0, .slice none 0 0, .slice none 0 0]
/-- What Build answers. -/
def Built (w : World) (s : Sk) (e : Ending) (w' : World) : Prop :=
  if (buildF s).1 ≠ 0 then e = .returned (.tuple #[.agg zG, .agg #[I (buildF s).1, I (buildF s).2]]) ∧ New w w'
  else ∃ q : Gr, e = .returned (.tuple #[q.v, .agg #[I 0, I 0]]) ∧ GrOwn w' w.heap.size q ∧ q.bare = buildG s ∧ New w w'
structure BAt (w : World) (s : Sk) (P M n : Nat) (l : List SIt) (q : Gr) (w' : World) : Prop where
  gr : GrB w' w.heap.size P q
  ba : q.bare = buildP s.name (numV s.items) l
  mp : MapAt w' M n (numV s.items)
  nw : New w w'
  hs : w'.heap[w.heap.size]? = some (.cells s.cs 35 (0, 0))
  h1 : w'.heap[w.heap.size + 1]? = some (.cells zG 26 (0, 0))
  h2 : w'.heap[w.heap.size + 1 + 1]? = some (.cells #[I 0, I 0] 48 (0, 0))
  hP : w.heap.size + 1 + 1 < P
theorem BAt.new {w w1 w2 : World} {s : Sk} {P M n : Nat} {l : List SIt} {q : Gr} (h : BAt w s P M n l q w1) (k : New w1 w2) : BAt w s P M n l q w2 :=
  ⟨h.gr.new k, h.ba, h.mp.new k, h.nw.trans k, Keeps.heap k h.hs (fun h => h), Keeps.heap k h.h1 (fun h => h), Keeps.heap k h.h2 (fun h => h), h.hP⟩
theorem BAt.step {w w1 w' : World} {s : Sk} {P M n : Nat} {l l' : List SIt} {q q' : Gr} {a : Option Addr} {T : TypeId} (h : BAt w s P M n l q w1) (hg : GrB w' w.heap.size P q') (hb : q'.bare = buildP s.name (numV s.items) l')
    (k : Keeps (fun k => k = P ∨ blk a k) w1 w') (hn : New w w') (ht : ∀ g, blk a g → ∃ cur, w1.heap[g]? = some (.cells cur T (0, 0))) (hT : T ≠ 35 ∧ T ≠ 26 ∧ T ≠ 48) : BAt w s P M n l' q' w' := by
  have hP := h.hP
  have hh : ∀ {b : Nat} {cs : Array Value} {t : TypeId}, w1.heap[b]? = some (.cells cs t (0, 0)) → t ≠ T → b ≠ P → w'.heap[b]? = some (.cells cs t (0, 0)) := fun hb hne hbP => k.heap hb (fun hx => by
    rcases hx with hx | hx
    · exact hbP hx
    · obtain ⟨cur, hc⟩ := ht _ hx
      rw [hb] at hc; simp at hc; exact hne hc.2)
  obtain ⟨es, clock, hM⟩ := h.mp.block
  refine ⟨hg, hb, h.mp.keeps k (fun hx => ?_), hn, hh h.hs (Ne.symm hT.1) (by omega), hh h.h1 (Ne.symm hT.2.1) (by omega), hh h.h2 (Ne.symm hT.2.2) (by omega), hP⟩
  rcases hx with hx | hx
  · subst hx
    have := h.gr.blkP
    rw [hM] at this; cases this
  · obtain ⟨cur, hc⟩ := ht _ hx
    rw [hM] at hc; cases hc
theorem buildP_nil (name : ByteArray) (V : ByteArray → Int) : buildP name V [] = ⟨name, none, 0, [], none, 0, [], none, 0, [], none, 0, []⟩ := rfl
theorem bare_Act {name : ByteArray} {V : ByteArray → Int} {l : List SIt} {q : Gr} {it : SIt} {x : GAct} {a' : Option Addr} {c' : Nat} (h : q.bare = buildP name V l) (hk : it.kind = 1) (hx : x.bare = itAct it) :
    ({ q with aa := a', ac := c', acts := q.acts ++ [x] } : Gr).bare = buildP name V (l ++ [it]) := by
  unfold Gr.bare buildP at h ⊢
  simp only [ofK_snoc, hk, if_true, Gr.mk.injEq, true_and, and_true] at h ⊢
  obtain ⟨h0, h1, h2, h3, h4⟩ := h
  simp [h0, h1, h2, h3, h4, hx]
theorem BAt.addAct {w w1 w2 w3 : World} {s : Sk} {P M n : Nat} {l : List SIt} {q : Gr} (h : BAt w s P M n l q w1) (it : SIt) (hk : it.kind = 1) (x : GAct) (hx : OwnI w2 w.heap.size x.a x.c x.xs) (hd : ∀ k, blk x.a k → w1.heap.size ≤ k) (hb : x.bare = itAct it) (k12 : New w1 w2)
    {a' : Option Addr} {c' : Nat} (ho : w3.ownsRow w.heap.size 55 3 (.slice a' (q.acts.length + 1) c') (q.acts.length + 1) (q.acts.flatMap actCells ++ actCells x)) (hkp : Keeps (blk q.aa) w2 w3) (hm : Moved w2 q.aa a') :
    (w3.cell? ⟨P, 1, none⟩ = some (.slice q.aa q.acts.length q.ac) ∧ w3.frozen? ⟨P, 1, none⟩ = false ∧ P < w3.heap.size) ∧
    BAt w s P M n (l ++ [it]) { q with aa := a', ac := c', acts := q.acts ++ [x] } (w3.setCell ⟨P, 1, none⟩ (.slice a' (q.acts.length + 1) c')) := by
  obtain ⟨h1, h2, h3⟩ := h.gr.addAct x hx hd k12 ho hkp hm
  have hP := h.hP
  exact ⟨h1, h.step h2 (bare_Act h.ba hk hb) h3 (h.gr.newsAct (Nat.le_refl _) (by omega) h.nw h3) (fun g hg => tab_tag h.gr.own.ao (own_blk hg)) (by decide)⟩
theorem len_Act {name : ByteArray} {V : ByteArray → Int} {l : List SIt} {q : Gr} (h : q.bare = buildP name V l) : q.acts.length ≤ l.length := by
  have h1 := congrArg (fun g : Gr => g.acts.length) h
  simp only [Gr.bare, buildP, List.length_map] at h1
  have h2 := ofK_len 1 l
  omega
theorem bare_Edge {name : ByteArray} {V : ByteArray → Int} {l : List SIt} {q : Gr} {it : SIt} {x : GEdge} {a' : Option Addr} {c' : Nat} (h : q.bare = buildP name V l) (hk : it.kind = 2) (hx : x.bare = itEdge V it) :
    ({ q with ea := a', ec := c', edges := q.edges ++ [x] } : Gr).bare = buildP name V (l ++ [it]) := by
  unfold Gr.bare buildP at h ⊢
  simp only [ofK_snoc, hk, if_true, Gr.mk.injEq, true_and, and_true] at h ⊢
  obtain ⟨h0, h1, h2, h3, h4⟩ := h
  simp [h0, h1, h2, h3, h4, hx]
theorem BAt.addEdge {w w1 w2 w3 : World} {s : Sk} {P M n : Nat} {l : List SIt} {q : Gr} (h : BAt w s P M n l q w1) (it : SIt) (hk : it.kind = 2) (x : GEdge) (hx : OwnI w2 w.heap.size x.a x.c x.xs) (hd : ∀ k, blk x.a k → w1.heap.size ≤ k) (hb : x.bare = itEdge (numV s.items) it) (k12 : New w1 w2)
    {a' : Option Addr} {c' : Nat} (ho : w3.ownsRow w.heap.size 58 5 (.slice a' (q.edges.length + 1) c') (q.edges.length + 1) (q.edges.flatMap edgeCells ++ edgeCells x)) (hkp : Keeps (blk q.ea) w2 w3) (hm : Moved w2 q.ea a') :
    (w3.cell? ⟨P, 2, none⟩ = some (.slice q.ea q.edges.length q.ec) ∧ w3.frozen? ⟨P, 2, none⟩ = false ∧ P < w3.heap.size) ∧
    BAt w s P M n (l ++ [it]) { q with ea := a', ec := c', edges := q.edges ++ [x] } (w3.setCell ⟨P, 2, none⟩ (.slice a' (q.edges.length + 1) c')) := by
  obtain ⟨h1, h2, h3⟩ := h.gr.addEdge x hx hd k12 ho hkp hm
  have hP := h.hP
  exact ⟨h1, h.step h2 (bare_Edge h.ba hk hb) h3 (h.gr.newsEdge (Nat.le_refl _) (by omega) h.nw h3) (fun g hg => tab_tag h.gr.own.eo (own_blk hg)) (by decide)⟩
theorem len_Edge {name : ByteArray} {V : ByteArray → Int} {l : List SIt} {q : Gr} (h : q.bare = buildP name V l) : q.edges.length ≤ l.length := by
  have h1 := congrArg (fun g : Gr => g.edges.length) h
  simp only [Gr.bare, buildP, List.length_map] at h1
  have h2 := ofK_len 2 l
  omega
theorem bare_In {name : ByteArray} {V : ByteArray → Int} {l : List SIt} {q : Gr} {it : SIt} {x : GPort} {a' : Option Addr} {c' : Nat} (h : q.bare = buildP name V l) (hk : it.kind = 3) (hx : x = itIn V it) :
    ({ q with ia := a', ic := c', ins := q.ins ++ [x] } : Gr).bare = buildP name V (l ++ [it]) := by
  unfold Gr.bare buildP at h ⊢
  simp only [ofK_snoc, hk, if_true, Gr.mk.injEq, true_and, and_true] at h ⊢
  obtain ⟨h0, h1, h2, h3, h4⟩ := h
  simp [h0, h1, h2, h3, h4, hx]
theorem BAt.addIn {w w1 w2 w3 : World} {s : Sk} {P M n : Nat} {l : List SIt} {q : Gr} (h : BAt w s P M n l q w1) (it : SIt) (hk : it.kind = 3) (x : GPort) (hb : x = itIn (numV s.items) it) (k12 : New w1 w2)
    {a' : Option Addr} {c' : Nat} (ho : w3.ownsRow w.heap.size 60 3 (.slice a' (q.ins.length + 1) c') (q.ins.length + 1) (q.ins.flatMap portCells ++ portCells x)) (hkp : Keeps (blk q.ia) w2 w3) (hm : Moved w2 q.ia a') :
    (w3.cell? ⟨P, 3, none⟩ = some (.slice q.ia q.ins.length q.ic) ∧ w3.frozen? ⟨P, 3, none⟩ = false ∧ P < w3.heap.size) ∧
    BAt w s P M n (l ++ [it]) { q with ia := a', ic := c', ins := q.ins ++ [x] } (w3.setCell ⟨P, 3, none⟩ (.slice a' (q.ins.length + 1) c')) := by
  obtain ⟨h1, h2, h3⟩ := h.gr.addIn x k12 ho hkp hm
  have hP := h.hP
  exact ⟨h1, h.step h2 (bare_In h.ba hk hb) h3 (h.gr.newsIn (Nat.le_refl _) (by omega) h.nw h3) (fun g hg => tab_tag h.gr.own.io (own_blk hg)) (by decide)⟩
theorem len_In {name : ByteArray} {V : ByteArray → Int} {l : List SIt} {q : Gr} (h : q.bare = buildP name V l) : q.ins.length ≤ l.length := by
  have h1 := congrArg (fun g : Gr => g.ins.length) h
  simp only [Gr.bare, buildP, List.length_map] at h1
  have h2 := ofK_len 3 l
  omega
theorem bare_Out {name : ByteArray} {V : ByteArray → Int} {l : List SIt} {q : Gr} {it : SIt} {x : GPort} {a' : Option Addr} {c' : Nat} (h : q.bare = buildP name V l) (hk : it.kind = 4) (hx : x = itOut V it) :
    ({ q with oa := a', oc := c', outs := q.outs ++ [x] } : Gr).bare = buildP name V (l ++ [it]) := by
  unfold Gr.bare buildP at h ⊢
  simp only [ofK_snoc, hk, if_true, Gr.mk.injEq, true_and, and_true] at h ⊢
  obtain ⟨h0, h1, h2, h3, h4⟩ := h
  simp [h0, h1, h2, h3, h4, hx]
theorem BAt.addOut {w w1 w2 w3 : World} {s : Sk} {P M n : Nat} {l : List SIt} {q : Gr} (h : BAt w s P M n l q w1) (it : SIt) (hk : it.kind = 4) (x : GPort) (hb : x = itOut (numV s.items) it) (k12 : New w1 w2)
    {a' : Option Addr} {c' : Nat} (ho : w3.ownsRow w.heap.size 60 3 (.slice a' (q.outs.length + 1) c') (q.outs.length + 1) (q.outs.flatMap portCells ++ portCells x)) (hkp : Keeps (blk q.oa) w2 w3) (hm : Moved w2 q.oa a') :
    (w3.cell? ⟨P, 4, none⟩ = some (.slice q.oa q.outs.length q.oc) ∧ w3.frozen? ⟨P, 4, none⟩ = false ∧ P < w3.heap.size) ∧
    BAt w s P M n (l ++ [it]) { q with oa := a', oc := c', outs := q.outs ++ [x] } (w3.setCell ⟨P, 4, none⟩ (.slice a' (q.outs.length + 1) c')) := by
  obtain ⟨h1, h2, h3⟩ := h.gr.addOut x k12 ho hkp hm
  have hP := h.hP
  exact ⟨h1, h.step h2 (bare_Out h.ba hk hb) h3 (h.gr.newsOut (Nat.le_refl _) (by omega) h.nw h3) (fun g hg => tab_tag h.gr.own.oo (own_blk hg)) (by decide)⟩
theorem len_Out {name : ByteArray} {V : ByteArray → Int} {l : List SIt} {q : Gr} (h : q.bare = buildP name V l) : q.outs.length ≤ l.length := by
  have h1 := congrArg (fun g : Gr => g.outs.length) h
  simp only [Gr.bare, buildP, List.length_map] at h1
  have h2 := ofK_len 4 l
  omega
/-- What is built is not longer than what it is built of. -/
theorem glen_of {s : Sk} {q : Gr} (h : q.bare = buildG s) (hl : SLen s) : GLen q := by
  have h1 := len_Act h
  have h2 := len_Edge h
  have h3 := len_In h
  have h4 := len_Out h
  have hi := hl.i
  have hk : ∀ k (x : SIt), x ∈ ofK k s.items → x ∈ s.items := fun k x hx => (List.mem_filter.1 hx).1
  unfold Gr.bare buildG buildP at h
  simp only [Gr.mk.injEq, true_and] at h
  obtain ⟨e0, e1, e2, e3, e4⟩ := h
  refine ⟨by omega, by omega, by omega, by omega, fun x hx => ?_, fun x hx => ?_, fun x hx => ?_, fun x hx => ?_, by rw [e0]; exact hl.n⟩
  · have : x.bare ∈ (ofK 1 s.items).map itAct := by rw [← e1]; exact List.mem_map_of_mem hx
    obtain ⟨y, hy, hye⟩ := List.mem_map.1 this
    have hb := hl.ix y (hk _ _ hy)
    have e5 : x.xs = y.xs := congrArg GAct.xs hye.symm
    have e6 : x.name = y.name := congrArg GAct.name hye.symm
    rw [e5, e6]; exact ⟨hb.1, hb.2.1⟩
  · have : x.bare ∈ (ofK 2 s.items).map (itEdge (numV s.items)) := by rw [← e2]; exact List.mem_map_of_mem hx
    obtain ⟨y, hy, hye⟩ := List.mem_map.1 this
    have hb := hl.ix y (hk _ _ hy)
    have e5 : x.xs = y.xs := congrArg GEdge.xs hye.symm
    rw [e5]; exact hb.1
  · rw [e3] at hx
    obtain ⟨y, hy, hye⟩ := List.mem_map.1 hx
    have e6 : x.name = y.name := congrArg GPort.name hye.symm
    rw [e6]; exact (hl.ix y (hk _ _ hy)).2.1
  · rw [e4] at hx
    obtain ⟨y, hy, hye⟩ := List.mem_map.1 hx
    have e6 : x.name = y.name := congrArg GPort.name hye.symm
    rw [e6]; exact (hl.ix y (hk _ _ hy)).2.1
theorem GrOwn.results {w : World} {B R1 R2 : Nat} {q : Gr} {c1 c2 : Array Value} (h : GrOwn w B q) (h1 : w.heap[R1]? = some (.cells c1 26 (0, 0))) (h2 : w.heap[R2]? = some (.cells c2 48 (0, 0))) {w' : World} (k : Keeps (fun k => k = R1 ∨ k = R2) w w') : GrOwn w' B q :=
  h.other k (fun g hg => by
    rcases hg with rfl | rfl
    · exact .inr ⟨_, _, _, h1, by decide⟩
    · exact .inr ⟨_, _, _, h2, by decide⟩)
theorem fault_cells {w : World} {C : Nat} {a0 a1 : Value} (h : w.heap[C]? = some (.cells #[a0, a1] 48 (0, 0))) :
    w.cell? ⟨C, 0, none⟩ = some a0 ∧ w.cell? ⟨C, 1, none⟩ = some a1 ∧ w.frozen? ⟨C, 0, none⟩ = false ∧ w.frozen? ⟨C, 1, none⟩ = false ∧ C < w.heap.size := by
  refine ⟨?_, ?_, unfrozen_of_block h 0, unfrozen_of_block h 1, (Array.getElem?_eq_some_iff.1 h).1⟩
  all_goals rw [cell_of_block h]; rfl
end Go.Proofs.Ytpljnapglbmdlaa
