/-
  Layer 8: a graph that is being built: its memory, and one element more.
-/
import Derived.Test.YtpljnapglbmdlaaGrV
namespace Go.Proofs.Ytpljnapglbmdlaa
open Go Go.RowKit Go.Joins
set_option linter.all false

/-- A graph in memory of the call's own, all its lists apart. -/
structure GrOwn (w : World) (B : Nat) (q : Gr) : Prop where
  ao : w.ownsRow B 55 3 (.slice q.aa q.acts.length q.ac) q.acts.length (q.acts.flatMap actCells)
  eo : w.ownsRow B 58 5 (.slice q.ea q.edges.length q.ec) q.edges.length (q.edges.flatMap edgeCells)
  io : w.ownsRow B 60 3 (.slice q.ia q.ins.length q.ic) q.ins.length (q.ins.flatMap portCells)
  oo : w.ownsRow B 60 3 (.slice q.oa q.outs.length q.oc) q.outs.length (q.outs.flatMap portCells)
  ax : ∀ x ∈ q.acts, OwnI w B x.a x.c x.xs
  ex : ∀ x ∈ q.edges, OwnI w B x.a x.c x.xs
  ap : (q.acts.map (·.a) ++ q.edges.map (·.a)).Pairwise (fun a b => ∀ k, blk a k → ¬ blk b k)
  po : ∀ k, blk q.ia k → ¬ blk q.oa k
theorem GrOwn.at {w : World} {B : Nat} {q : Gr} (h : GrOwn w B q) : GrAt w q :=
  ⟨SlAt.of_owns h.ao, SlAt.of_owns h.eo, SlAt.of_owns h.io, SlAt.of_owns h.oo, fun x hx => (h.ax x hx).sl, fun x hx => (h.ex x hx).sl⟩
theorem GrOwn.new {w w' : World} {B : Nat} {q : Gr} (h : GrOwn w B q) (k : New w w') : GrOwn w' B q :=
  ⟨k.owns h.ao, k.owns h.eo, k.owns h.io, k.owns h.oo, fun x hx => (h.ax x hx).new k, fun x hx => (h.ex x hx).new k, h.ap, h.po⟩
/-- Blocks of another type than a graph's lists may be written. -/
theorem GrOwn.other {S : Nat → Prop} {w w' : World} {B : Nat} {q : Gr} (h : GrOwn w B q) (k : Keeps S w w')
    (hS : ∀ g, S g → (∃ es c, w.heap[g]? = some (.map es c)) ∨ ∃ cur t fr, w.heap[g]? = some (.cells cur t fr) ∧ t ≠ 55 ∧ t ≠ 58 ∧ t ≠ 60 ∧ t ≠ 3) : GrOwn w' B q := by
  have f : ∀ {e size n : Nat} {v : Value} {xs : List Value}, w.ownsRow B e size v n xs → (∀ t : TypeId, t ≠ 55 ∧ t ≠ 58 ∧ t ≠ 60 ∧ t ≠ 3 → t ≠ e) → w'.ownsRow B e size v n xs := fun hv he => k.owns hv (fun g hg hs => by
    obtain ⟨c1, h1⟩ := tab_tag hv hg
    rcases hS g hs with ⟨es, c, h2⟩ | ⟨cur, t, fr, h2, hne⟩
    · rw [h1] at h2; cases h2
    · rw [h1] at h2; cases h2; exact he _ hne rfl)
  exact ⟨f h.ao (fun t ht => ht.1), f h.eo (fun t ht => ht.2.1), f h.io (fun t ht => ht.2.2.1), f h.oo (fun t ht => ht.2.2.1), fun x hx => f (h.ax x hx) (fun t ht => ht.2.2.2), fun x hx => f (h.ex x hx) (fun t ht => ht.2.2.2), h.ap, h.po⟩
/-- The graph at block P. -/
structure GrB (w : World) (B P : Nat) (q : Gr) : Prop where
  blkP : w.heap[P]? = some (.cells q.cs 26 (0, 0))
  own : GrOwn w B q
theorem GrB.new {w w' : World} {B P : Nat} {q : Gr} (h : GrB w B P q) (k : New w w') : GrB w' B P q := ⟨Keeps.heap k h.blkP (fun h => h), h.own.new k⟩
theorem GrB.other {S : Nat → Prop} {w w' : World} {B P : Nat} {q : Gr} (h : GrB w B P q) (k : Keeps S w w') (hP : ¬ S P)
    (hS : ∀ g, S g → (∃ es c, w.heap[g]? = some (.map es c)) ∨ ∃ cur t fr, w.heap[g]? = some (.cells cur t fr) ∧ t ≠ 55 ∧ t ≠ 58 ∧ t ≠ 60 ∧ t ≠ 3) : GrB w' B P q := ⟨k.heap h.blkP hP, h.own.other k hS⟩
theorem GrB.addAct {w1 w2 w3 : World} {B P : Nat} {q : Gr} (h : GrB w1 B P q) (x : GAct) (hx : OwnI w2 B x.a x.c x.xs) (hd : ∀ k, blk x.a k → w1.heap.size ≤ k) (k12 : New w1 w2)
    {a' : Option Addr} {c' : Nat} (ho : w3.ownsRow B 55 3 (.slice a' (q.acts.length + 1) c') (q.acts.length + 1) (q.acts.flatMap actCells ++ actCells x)) (hk : Keeps (blk q.aa) w2 w3) (hm : Moved w2 q.aa a') :
    (w3.cell? ⟨P, 1, none⟩ = some (.slice q.aa q.acts.length q.ac) ∧ w3.frozen? ⟨P, 1, none⟩ = false ∧ P < w3.heap.size) ∧
    GrB (w3.setCell ⟨P, 1, none⟩ (.slice a' (q.acts.length + 1) c')) B P { q with aa := a', ac := c', acts := q.acts ++ [x] } ∧ Keeps (fun k => k = P ∨ blk q.aa k) w1 (w3.setCell ⟨P, 1, none⟩ (.slice a' (q.acts.length + 1) c')) := by
  have h2 := h.new k12
  have htag : ∀ g, blk q.aa g → ∃ cur, w2.heap[g]? = some (.cells cur 55 (0, 0)) := fun g hg => tab_tag h2.own.ao (own_blk hg)
  have hto : ∀ e : TypeId, 55 ≠ e → ∀ g, blk q.aa g → ∃ cur t fr, w2.heap[g]? = some (.cells cur t fr) ∧ t ≠ e := fun e he g hg => by
    obtain ⟨cur, hc⟩ := htag g hg; exact ⟨cur, _, _, hc, he⟩
  have hP3 := hk.heap h2.blkP (fun hb => by obtain ⟨cur, hc⟩ := htag _ hb; rw [h2.blkP] at hc; simp at hc)
  have hP4 := block_setCell (i := 1) hP3 (.slice a' (q.acts.length + 1) c')
  have hks : Keeps (fun k => k = P) w3 (w3.setCell ⟨P, 1, none⟩ (.slice a' (q.acts.length + 1) c')) := Keeps.setCell w3 _ _ rfl
  have htP : ∀ e : TypeId, 26 ≠ e → ∀ g, g = P → ∃ cur t fr, w3.heap[g]? = some (.cells cur t fr) ∧ t ≠ e := fun e he g hg => ⟨_, _, _, hg ▸ hP3, he⟩
  have hmv : ∀ k, blk a' k → blk q.aa k ∨ w2.heap.size ≤ k := fun k hb => moved_blk hm hb
  have hs12 := k12.size
  refine ⟨⟨?_, unfrozen_of_block hP3 1, (Array.getElem?_eq_some_iff.1 hP3).1⟩, ⟨?_, ?_, ?_, ?_, ?_, ?_, ?_, ?_, ?_⟩, ?_⟩
  · rw [cell_of_block hP3 1]; rfl
  · rw [hP4]; simp
  · have := own_oth ho hks (htP _ (by decide))
    simpa using this
  · exact own_oth (own_oth h2.own.eo hk (hto _ (by decide))) hks (htP _ (by decide))
  · exact own_oth (own_oth h2.own.io hk (hto _ (by decide))) hks (htP _ (by decide))
  · exact own_oth (own_oth h2.own.oo hk (hto _ (by decide))) hks (htP _ (by decide))
  · intro y hy
    rcases List.mem_append.1 hy with hy | hy
    · exact own_oth (own_oth (h2.own.ax y hy) hk (hto _ (by decide))) hks (htP _ (by decide))
    · rw [List.mem_singleton.1 hy]; exact own_oth (own_oth hx hk (hto _ (by decide))) hks (htP _ (by decide))
  · exact fun y hy => own_oth (own_oth (h2.own.ex y hy) hk (hto _ (by decide))) hks (htP _ (by decide))
  · have hdA : ∀ y ∈ q.acts, ∀ k, blk x.a k → ¬ blk y.a k := fun y hy k hk1 hk2 => by
      have h3 := (own_of_blk (h.own.ax y hy) hk2).2
      have h4 := hd k hk1
      omega
    have hdE : ∀ y ∈ q.edges, ∀ k, blk x.a k → ¬ blk y.a k := fun y hy k hk1 hk2 => by
      have h3 := (own_of_blk (h.own.ex y hy) hk2).2
      have h4 := hd k hk1
      omega
    have ap := h.own.ap
    rw [List.pairwise_append] at ap
    obtain ⟨a1, a2, a3⟩ := ap
    simp only [List.map_append, List.map_cons, List.map_nil]
    rw [List.append_assoc, List.pairwise_append]
    refine ⟨a1, ?_, ?_⟩
    · rw [List.singleton_append, List.pairwise_cons]
      refine ⟨fun b hb k hk hkb => ?_, a2⟩
      obtain ⟨y, hy, rfl⟩ := List.mem_map.1 hb
      exact hdE y hy k hk hkb
    · intro b hb c hc
      rw [List.singleton_append] at hc
      rcases List.mem_cons.1 hc with rfl | hc
      · intro k hk hkx
        obtain ⟨y, hy, rfl⟩ := List.mem_map.1 hb
        exact hdA y hy k hkx hk
      · exact a3 b hb c hc
  · exact h.own.po
  · exact ((Keeps.mono k12 (fun _ _ h => h.elim)).trans hk (fun i _ hb => .inr hb)).trans hks (fun i _ hb => .inl hb)
theorem GrB.newsAct {w0 w1 w' : World} {B P : Nat} {q : Gr} (h : GrB w1 B P q) (hB : w0.heap.size ≤ B) (hP : w0.heap.size ≤ P) (hN : New w0 w1) (k : Keeps (fun k => k = P ∨ blk q.aa k) w1 w') : New w0 w' :=
  New.keeps hN k (fun i hi hb => by
    rcases hb with rfl | hb
    · omega
    · have := (own_of_blk h.own.ao hb).1; omega)
theorem GrB.addEdge {w1 w2 w3 : World} {B P : Nat} {q : Gr} (h : GrB w1 B P q) (x : GEdge) (hx : OwnI w2 B x.a x.c x.xs) (hd : ∀ k, blk x.a k → w1.heap.size ≤ k) (k12 : New w1 w2)
    {a' : Option Addr} {c' : Nat} (ho : w3.ownsRow B 58 5 (.slice a' (q.edges.length + 1) c') (q.edges.length + 1) (q.edges.flatMap edgeCells ++ edgeCells x)) (hk : Keeps (blk q.ea) w2 w3) (hm : Moved w2 q.ea a') :
    (w3.cell? ⟨P, 2, none⟩ = some (.slice q.ea q.edges.length q.ec) ∧ w3.frozen? ⟨P, 2, none⟩ = false ∧ P < w3.heap.size) ∧
    GrB (w3.setCell ⟨P, 2, none⟩ (.slice a' (q.edges.length + 1) c')) B P { q with ea := a', ec := c', edges := q.edges ++ [x] } ∧ Keeps (fun k => k = P ∨ blk q.ea k) w1 (w3.setCell ⟨P, 2, none⟩ (.slice a' (q.edges.length + 1) c')) := by
  have h2 := h.new k12
  have htag : ∀ g, blk q.ea g → ∃ cur, w2.heap[g]? = some (.cells cur 58 (0, 0)) := fun g hg => tab_tag h2.own.eo (own_blk hg)
  have hto : ∀ e : TypeId, 58 ≠ e → ∀ g, blk q.ea g → ∃ cur t fr, w2.heap[g]? = some (.cells cur t fr) ∧ t ≠ e := fun e he g hg => by
    obtain ⟨cur, hc⟩ := htag g hg; exact ⟨cur, _, _, hc, he⟩
  have hP3 := hk.heap h2.blkP (fun hb => by obtain ⟨cur, hc⟩ := htag _ hb; rw [h2.blkP] at hc; simp at hc)
  have hP4 := block_setCell (i := 2) hP3 (.slice a' (q.edges.length + 1) c')
  have hks : Keeps (fun k => k = P) w3 (w3.setCell ⟨P, 2, none⟩ (.slice a' (q.edges.length + 1) c')) := Keeps.setCell w3 _ _ rfl
  have htP : ∀ e : TypeId, 26 ≠ e → ∀ g, g = P → ∃ cur t fr, w3.heap[g]? = some (.cells cur t fr) ∧ t ≠ e := fun e he g hg => ⟨_, _, _, hg ▸ hP3, he⟩
  have hmv : ∀ k, blk a' k → blk q.ea k ∨ w2.heap.size ≤ k := fun k hb => moved_blk hm hb
  have hs12 := k12.size
  refine ⟨⟨?_, unfrozen_of_block hP3 2, (Array.getElem?_eq_some_iff.1 hP3).1⟩, ⟨?_, ?_, ?_, ?_, ?_, ?_, ?_, ?_, ?_⟩, ?_⟩
  · rw [cell_of_block hP3 2]; rfl
  · rw [hP4]; simp
  · exact own_oth (own_oth h2.own.ao hk (hto _ (by decide))) hks (htP _ (by decide))
  · have := own_oth ho hks (htP _ (by decide))
    simpa using this
  · exact own_oth (own_oth h2.own.io hk (hto _ (by decide))) hks (htP _ (by decide))
  · exact own_oth (own_oth h2.own.oo hk (hto _ (by decide))) hks (htP _ (by decide))
  · exact fun y hy => own_oth (own_oth (h2.own.ax y hy) hk (hto _ (by decide))) hks (htP _ (by decide))
  · intro y hy
    rcases List.mem_append.1 hy with hy | hy
    · exact own_oth (own_oth (h2.own.ex y hy) hk (hto _ (by decide))) hks (htP _ (by decide))
    · rw [List.mem_singleton.1 hy]; exact own_oth (own_oth hx hk (hto _ (by decide))) hks (htP _ (by decide))
  · have hdA : ∀ y ∈ q.acts, ∀ k, blk x.a k → ¬ blk y.a k := fun y hy k hk1 hk2 => by
      have h3 := (own_of_blk (h.own.ax y hy) hk2).2
      have h4 := hd k hk1
      omega
    have hdE : ∀ y ∈ q.edges, ∀ k, blk x.a k → ¬ blk y.a k := fun y hy k hk1 hk2 => by
      have h3 := (own_of_blk (h.own.ex y hy) hk2).2
      have h4 := hd k hk1
      omega
    simp only [List.map_append, List.map_cons, List.map_nil]
    rw [← List.append_assoc, List.pairwise_append]
    refine ⟨h.own.ap, List.pairwise_singleton _ _, ?_⟩
    intro b hb c hc
    rw [List.mem_singleton.1 hc]
    intro k hk hkx
    rcases List.mem_append.1 hb with hb | hb
    · obtain ⟨y, hy, rfl⟩ := List.mem_map.1 hb
      exact hdA y hy k hkx hk
    · obtain ⟨y, hy, rfl⟩ := List.mem_map.1 hb
      exact hdE y hy k hkx hk
  · exact h.own.po
  · exact ((Keeps.mono k12 (fun _ _ h => h.elim)).trans hk (fun i _ hb => .inr hb)).trans hks (fun i _ hb => .inl hb)
theorem GrB.newsEdge {w0 w1 w' : World} {B P : Nat} {q : Gr} (h : GrB w1 B P q) (hB : w0.heap.size ≤ B) (hP : w0.heap.size ≤ P) (hN : New w0 w1) (k : Keeps (fun k => k = P ∨ blk q.ea k) w1 w') : New w0 w' :=
  New.keeps hN k (fun i hi hb => by
    rcases hb with rfl | hb
    · omega
    · have := (own_of_blk h.own.eo hb).1; omega)
theorem GrB.addIn {w1 w2 w3 : World} {B P : Nat} {q : Gr} (h : GrB w1 B P q) (x : GPort) (k12 : New w1 w2)
    {a' : Option Addr} {c' : Nat} (ho : w3.ownsRow B 60 3 (.slice a' (q.ins.length + 1) c') (q.ins.length + 1) (q.ins.flatMap portCells ++ portCells x)) (hk : Keeps (blk q.ia) w2 w3) (hm : Moved w2 q.ia a') :
    (w3.cell? ⟨P, 3, none⟩ = some (.slice q.ia q.ins.length q.ic) ∧ w3.frozen? ⟨P, 3, none⟩ = false ∧ P < w3.heap.size) ∧
    GrB (w3.setCell ⟨P, 3, none⟩ (.slice a' (q.ins.length + 1) c')) B P { q with ia := a', ic := c', ins := q.ins ++ [x] } ∧ Keeps (fun k => k = P ∨ blk q.ia k) w1 (w3.setCell ⟨P, 3, none⟩ (.slice a' (q.ins.length + 1) c')) := by
  have h2 := h.new k12
  have htag : ∀ g, blk q.ia g → ∃ cur, w2.heap[g]? = some (.cells cur 60 (0, 0)) := fun g hg => tab_tag h2.own.io (own_blk hg)
  have hto : ∀ e : TypeId, 60 ≠ e → ∀ g, blk q.ia g → ∃ cur t fr, w2.heap[g]? = some (.cells cur t fr) ∧ t ≠ e := fun e he g hg => by
    obtain ⟨cur, hc⟩ := htag g hg; exact ⟨cur, _, _, hc, he⟩
  have hP3 := hk.heap h2.blkP (fun hb => by obtain ⟨cur, hc⟩ := htag _ hb; rw [h2.blkP] at hc; simp at hc)
  have hP4 := block_setCell (i := 3) hP3 (.slice a' (q.ins.length + 1) c')
  have hks : Keeps (fun k => k = P) w3 (w3.setCell ⟨P, 3, none⟩ (.slice a' (q.ins.length + 1) c')) := Keeps.setCell w3 _ _ rfl
  have htP : ∀ e : TypeId, 26 ≠ e → ∀ g, g = P → ∃ cur t fr, w3.heap[g]? = some (.cells cur t fr) ∧ t ≠ e := fun e he g hg => ⟨_, _, _, hg ▸ hP3, he⟩
  have hmv : ∀ k, blk a' k → blk q.ia k ∨ w2.heap.size ≤ k := fun k hb => moved_blk hm hb
  have hs12 := k12.size
  refine ⟨⟨?_, unfrozen_of_block hP3 3, (Array.getElem?_eq_some_iff.1 hP3).1⟩, ⟨?_, ?_, ?_, ?_, ?_, ?_, ?_, ?_, ?_⟩, ?_⟩
  · rw [cell_of_block hP3 3]; rfl
  · rw [hP4]; simp
  · exact own_oth (own_oth h2.own.ao hk (hto _ (by decide))) hks (htP _ (by decide))
  · exact own_oth (own_oth h2.own.eo hk (hto _ (by decide))) hks (htP _ (by decide))
  · have := own_oth ho hks (htP _ (by decide))
    simpa using this
  · refine own_oth (hk.owns h2.own.oo (fun k hk1 hx => ?_)) hks (htP _ (by decide))
    have hk2 : blk q.oa k := blk_of_own hk1
    exact h.own.po k hx hk2
  · exact fun y hy => own_oth (own_oth (h2.own.ax y hy) hk (hto _ (by decide))) hks (htP _ (by decide))
  · exact fun y hy => own_oth (own_oth (h2.own.ex y hy) hk (hto _ (by decide))) hks (htP _ (by decide))
  · exact h.own.ap
  · intro k hk1 hk2
    rcases hmv k hk1 with hx | hx
    · exact h.own.po k hx hk2
    · have := (own_of_blk h.own.oo hk2).2
      omega
  · exact ((Keeps.mono k12 (fun _ _ h => h.elim)).trans hk (fun i _ hb => .inr hb)).trans hks (fun i _ hb => .inl hb)
theorem GrB.newsIn {w0 w1 w' : World} {B P : Nat} {q : Gr} (h : GrB w1 B P q) (hB : w0.heap.size ≤ B) (hP : w0.heap.size ≤ P) (hN : New w0 w1) (k : Keeps (fun k => k = P ∨ blk q.ia k) w1 w') : New w0 w' :=
  New.keeps hN k (fun i hi hb => by
    rcases hb with rfl | hb
    · omega
    · have := (own_of_blk h.own.io hb).1; omega)
theorem GrB.addOut {w1 w2 w3 : World} {B P : Nat} {q : Gr} (h : GrB w1 B P q) (x : GPort) (k12 : New w1 w2)
    {a' : Option Addr} {c' : Nat} (ho : w3.ownsRow B 60 3 (.slice a' (q.outs.length + 1) c') (q.outs.length + 1) (q.outs.flatMap portCells ++ portCells x)) (hk : Keeps (blk q.oa) w2 w3) (hm : Moved w2 q.oa a') :
    (w3.cell? ⟨P, 4, none⟩ = some (.slice q.oa q.outs.length q.oc) ∧ w3.frozen? ⟨P, 4, none⟩ = false ∧ P < w3.heap.size) ∧
    GrB (w3.setCell ⟨P, 4, none⟩ (.slice a' (q.outs.length + 1) c')) B P { q with oa := a', oc := c', outs := q.outs ++ [x] } ∧ Keeps (fun k => k = P ∨ blk q.oa k) w1 (w3.setCell ⟨P, 4, none⟩ (.slice a' (q.outs.length + 1) c')) := by
  have h2 := h.new k12
  have htag : ∀ g, blk q.oa g → ∃ cur, w2.heap[g]? = some (.cells cur 60 (0, 0)) := fun g hg => tab_tag h2.own.oo (own_blk hg)
  have hto : ∀ e : TypeId, 60 ≠ e → ∀ g, blk q.oa g → ∃ cur t fr, w2.heap[g]? = some (.cells cur t fr) ∧ t ≠ e := fun e he g hg => by
    obtain ⟨cur, hc⟩ := htag g hg; exact ⟨cur, _, _, hc, he⟩
  have hP3 := hk.heap h2.blkP (fun hb => by obtain ⟨cur, hc⟩ := htag _ hb; rw [h2.blkP] at hc; simp at hc)
  have hP4 := block_setCell (i := 4) hP3 (.slice a' (q.outs.length + 1) c')
  have hks : Keeps (fun k => k = P) w3 (w3.setCell ⟨P, 4, none⟩ (.slice a' (q.outs.length + 1) c')) := Keeps.setCell w3 _ _ rfl
  have htP : ∀ e : TypeId, 26 ≠ e → ∀ g, g = P → ∃ cur t fr, w3.heap[g]? = some (.cells cur t fr) ∧ t ≠ e := fun e he g hg => ⟨_, _, _, hg ▸ hP3, he⟩
  have hmv : ∀ k, blk a' k → blk q.oa k ∨ w2.heap.size ≤ k := fun k hb => moved_blk hm hb
  have hs12 := k12.size
  refine ⟨⟨?_, unfrozen_of_block hP3 4, (Array.getElem?_eq_some_iff.1 hP3).1⟩, ⟨?_, ?_, ?_, ?_, ?_, ?_, ?_, ?_, ?_⟩, ?_⟩
  · rw [cell_of_block hP3 4]; rfl
  · rw [hP4]; simp
  · exact own_oth (own_oth h2.own.ao hk (hto _ (by decide))) hks (htP _ (by decide))
  · exact own_oth (own_oth h2.own.eo hk (hto _ (by decide))) hks (htP _ (by decide))
  · refine own_oth (hk.owns h2.own.io (fun k hk1 hx => ?_)) hks (htP _ (by decide))
    have hk2 : blk q.ia k := blk_of_own hk1
    exact h.own.po k hk2 hx
  · have := own_oth ho hks (htP _ (by decide))
    simpa using this
  · exact fun y hy => own_oth (own_oth (h2.own.ax y hy) hk (hto _ (by decide))) hks (htP _ (by decide))
  · exact fun y hy => own_oth (own_oth (h2.own.ex y hy) hk (hto _ (by decide))) hks (htP _ (by decide))
  · exact h.own.ap
  · intro k hk1 hk2
    rcases hmv k hk2 with hx | hx
    · exact h.own.po k hk1 hx
    · have := (own_of_blk h.own.io hk1).2
      omega
  · exact ((Keeps.mono k12 (fun _ _ h => h.elim)).trans hk (fun i _ hb => .inr hb)).trans hks (fun i _ hb => .inl hb)
theorem GrB.newsOut {w0 w1 w' : World} {B P : Nat} {q : Gr} (h : GrB w1 B P q) (hB : w0.heap.size ≤ B) (hP : w0.heap.size ≤ P) (hN : New w0 w1) (k : Keeps (fun k => k = P ∨ blk q.oa k) w1 w') : New w0 w' :=
  New.keeps hN k (fun i hi hb => by
    rcases hb with rfl | hb
    · omega
    · have := (own_of_blk h.own.oo hb).1; omega)
theorem infoAct : (Try.prog.info? 55).map (fun i => (i.zero, i.size, i.bytes)) = some (some (.agg #[.string ⟨#[]⟩, .int .u8 0, .slice none 0 0]), 3, 48) := by kernel_rfl
theorem infoEdge : (Try.prog.info? 58).map (fun i => (i.zero, i.size, i.bytes)) = some (some (.agg #[.int .i64 0, .int .i64 0, .int .i64 0, .int .i64 0, .slice none 0 0]), 5, 56) := by kernel_rfl
theorem infoPort : (Try.prog.info? 60).map (fun i => (i.zero, i.size, i.bytes)) = some (some (.agg #[.string ⟨#[]⟩, .int .i64 0, .int .i64 0]), 3, 32) := by kernel_rfl
theorem one_act (x : GAct) : ∀ u ∈ actCells x, u.oneCell' = true := by intro u hu; simp [actCells] at hu; rcases hu with rfl | rfl | rfl <;> rfl
theorem one_edge (x : GEdge) : ∀ u ∈ edgeCells x, u.oneCell' = true := by intro u hu; simp [edgeCells] at hu; rcases hu with rfl | rfl | rfl | rfl | rfl <;> rfl
theorem one_port (x : GPort) : ∀ u ∈ portCells x, u.oneCell' = true := by intro u hu; simp [portCells] at hu; rcases hu with rfl | rfl | rfl <;> rfl
end Go.Proofs.Ytpljnapglbmdlaa
