/-
  Layer 20: a program in memory of the call's own, one element more; the document's copy of a program.
-/
import Derived.Test.YtfmpjbiaamkobaaCodeZ
import Derived.Test.YtfmpjbiaamkobaaReadProg
namespace Go.Proofs.Ytfmpjbiaamkobaa
open Go Go.RowKit Go.Joins
set_option linter.all false

/-- The program at block P is p, in memory from B on. -/
structure BuildA (w : World) (B P : Nat) (p : Pg) : Prop where
  blkP : w.heap[P]? = some (.cells p.cs 26 (0, 0))
  own : PgOwn w B p
theorem BuildA.new {w w' : World} {B P : Nat} {p : Pg} (h : BuildA w B P p) (k : New w w') : BuildA w' B P p := ⟨Keeps.heap k h.blkP (fun h => h), h.own.new k⟩
theorem BuildA.apart {w : World} {B P : Nat} {p : Pg} (h : BuildA w B P p) {k : Nat} (hk : w.heap.size ≤ k) : (∀ y ∈ p.parts, ¬ blk y.a k) ∧ (∀ y ∈ p.lines, ¬ blk y.a k) :=
  ⟨fun y hy hb => by have := (own_of_blk (h.own.px y hy) hb).2; omega, fun y hy hb => by have := (own_of_blk (h.own.lx y hy) hb).2; omega⟩

theorem BuildA.addPart {w1 w2 w3 : World} {B P : Nat} {p : Pg} (h : BuildA w1 B P p) (x : PartD) (hx : OwnI w1 B x.a x.c x.xs) (hd : ∀ k, blk x.a k → (∀ y ∈ p.parts, ¬ blk y.a k) ∧ (∀ y ∈ p.lines, ¬ blk y.a k)) (k12 : New w1 w2)
    {a' : Option Addr} {c' : Nat} (ho : w3.ownsRow B 45 2 (.slice a' (p.parts.length + 1) c') (p.parts.length + 1) (p.parts.flatMap partCells ++ partCells x)) (hk : Keeps (blk p.pa) w2 w3) (hm : Moved w2 p.pa a') :
    (w3.cell? ⟨P, 4, none⟩ = some (.slice p.pa p.parts.length p.pc) ∧ w3.frozen? ⟨P, 4, none⟩ = false) ∧
    BuildA (w3.setCell ⟨P, 4, none⟩ (.slice a' (p.parts.length + 1) c')) B P { p with pa := a', pc := c', parts := p.parts ++ [x] } ∧ Keeps (fun k => k = P ∨ blk p.pa k) w1 (w3.setCell ⟨P, 4, none⟩ (.slice a' (p.parts.length + 1) c')) := by
  have h2 := h.new k12
  have htag : Tagged (blk p.pa) w2 (fun t => t = 45) := Tagged.own h2.own.po rfl
  have hto : ∀ {U : TypeId → Prop}, U 45 → Tagged (blk p.pa) w2 U := fun hU g hg => by
    obtain ⟨c, e, fr, q1, q2⟩ := htag g hg
    exact ⟨c, e, fr, q1, q2 ▸ hU⟩
  have hnb : ∀ {g : Nat} {cs : Array Value} {t : TypeId} {fr : Nat × Nat}, w2.heap[g]? = some (.cells cs t fr) → t ≠ 45 → ¬ blk p.pa g := fun hg hne hb => by
    obtain ⟨c, e, fr, q1, q2⟩ := htag _ hb
    rw [hg] at q1; cases q1; exact hne q2
  have hP3 := hk.heap h2.blkP (hnb h2.blkP (by decide))
  have hP4 := block_setCell (i := 4) hP3 (.slice a' (p.parts.length + 1) c')
  have hks : Keeps (fun k => k = P) w3 (w3.setCell ⟨P, 4, none⟩ (.slice a' (p.parts.length + 1) c')) := Keeps.setCell w3 _ _ rfl
  have hkk : Keeps (fun k => k = P ∨ blk p.pa k) w1 (w3.setCell ⟨P, 4, none⟩ (.slice a' (p.parts.length + 1) c')) :=
    ((Keeps.mono k12 (fun _ _ h => h.elim)).trans hk (fun i _ hb => .inr hb)).trans hks (fun i _ hb => .inl hb)
  have htP : ∀ {U : TypeId → Prop}, U 26 → Tagged (fun k => k = P) w3 U := fun hU => Tagged.block hP3 hU
  have hmv : ∀ k, blk a' k → blk p.pa k ∨ w2.heap.size ≤ k := by
    intro k hb
    rcases hm with rfl | ⟨g, rfl, hg⟩
    · exact .inl hb
    · obtain ⟨y, hy, rfl⟩ := hb; cases hy; exact .inr hg
  refine ⟨⟨?_, unfrozen_of_block hP3 4⟩, ⟨?_, ⟨?_, ?_, ?_, ?_, ?_, ?_⟩⟩, hkk⟩
  · rw [cell_of_block hP3 4]; simp
  · rw [hP4]; simp
  · exact own_other (own_other h2.own.oo hk (hto (by decide))) hks (htP (by decide))
  · have := own_other ho hks (htP (by decide))
    simpa using this
  · exact own_other (own_other h2.own.lo hk (hto (by decide))) hks (htP (by decide))
  · intro y hy
    rcases List.mem_append.1 hy with hy | hy
    · exact own_other (own_other (h2.own.px y hy) hk (hto (by decide))) hks (htP (by decide))
    · rw [List.mem_singleton.1 hy]; exact own_other (own_other (hx.new k12) hk (hto (by decide))) hks (htP (by decide))
  · exact fun y hy => own_other (own_other (h2.own.lx y hy) hk (hto (by decide))) hks (htP (by decide))
  · have ap := h.own.ap
    rw [List.pairwise_append] at ap
    obtain ⟨a1, a2, a3⟩ := ap
    simp only [List.map_append, List.map_cons, List.map_nil]
    rw [List.append_assoc, List.pairwise_append]
    refine ⟨a1, ?_, ?_⟩
    · rw [List.singleton_append, List.pairwise_cons]
      refine ⟨fun b hb k hk hkb => ?_, a2⟩
      obtain ⟨y, hy, rfl⟩ := List.mem_map.1 hb
      exact (hd k hk).2 y hy hkb
    · intro b hb c hc
      rw [List.singleton_append] at hc
      rcases List.mem_cons.1 hc with rfl | hc
      · intro k hk hkx
        obtain ⟨y, hy, rfl⟩ := List.mem_map.1 hb
        exact (hd k hkx).1 y hy hk
      · exact a3 b hb c hc

theorem BuildA.addLine {w1 w2 w3 : World} {B P : Nat} {p : Pg} (h : BuildA w1 B P p) (x : LineD) (hx : OwnI w1 B x.a x.c x.xs) (hd : ∀ k, blk x.a k → (∀ y ∈ p.parts, ¬ blk y.a k) ∧ (∀ y ∈ p.lines, ¬ blk y.a k)) (k12 : New w1 w2)
    {a' : Option Addr} {c' : Nat} (ho : w3.ownsRow B 49 3 (.slice a' (p.lines.length + 1) c') (p.lines.length + 1) (p.lines.flatMap lineCells ++ lineCells x)) (hk : Keeps (blk p.la) w2 w3) (hm : Moved w2 p.la a') :
    (w3.cell? ⟨P, 5, none⟩ = some (.slice p.la p.lines.length p.lc) ∧ w3.frozen? ⟨P, 5, none⟩ = false) ∧
    BuildA (w3.setCell ⟨P, 5, none⟩ (.slice a' (p.lines.length + 1) c')) B P { p with la := a', lc := c', lines := p.lines ++ [x] } ∧ Keeps (fun k => k = P ∨ blk p.la k) w1 (w3.setCell ⟨P, 5, none⟩ (.slice a' (p.lines.length + 1) c')) := by
  have h2 := h.new k12
  have htag : Tagged (blk p.la) w2 (fun t => t = 49) := Tagged.own h2.own.lo rfl
  have hto : ∀ {U : TypeId → Prop}, U 49 → Tagged (blk p.la) w2 U := fun hU g hg => by
    obtain ⟨c, e, fr, q1, q2⟩ := htag g hg
    exact ⟨c, e, fr, q1, q2 ▸ hU⟩
  have hnb : ∀ {g : Nat} {cs : Array Value} {t : TypeId} {fr : Nat × Nat}, w2.heap[g]? = some (.cells cs t fr) → t ≠ 49 → ¬ blk p.la g := fun hg hne hb => by
    obtain ⟨c, e, fr, q1, q2⟩ := htag _ hb
    rw [hg] at q1; cases q1; exact hne q2
  have hP3 := hk.heap h2.blkP (hnb h2.blkP (by decide))
  have hP4 := block_setCell (i := 5) hP3 (.slice a' (p.lines.length + 1) c')
  have hks : Keeps (fun k => k = P) w3 (w3.setCell ⟨P, 5, none⟩ (.slice a' (p.lines.length + 1) c')) := Keeps.setCell w3 _ _ rfl
  have hkk : Keeps (fun k => k = P ∨ blk p.la k) w1 (w3.setCell ⟨P, 5, none⟩ (.slice a' (p.lines.length + 1) c')) :=
    ((Keeps.mono k12 (fun _ _ h => h.elim)).trans hk (fun i _ hb => .inr hb)).trans hks (fun i _ hb => .inl hb)
  have htP : ∀ {U : TypeId → Prop}, U 26 → Tagged (fun k => k = P) w3 U := fun hU => Tagged.block hP3 hU
  have hmv : ∀ k, blk a' k → blk p.la k ∨ w2.heap.size ≤ k := by
    intro k hb
    rcases hm with rfl | ⟨g, rfl, hg⟩
    · exact .inl hb
    · obtain ⟨y, hy, rfl⟩ := hb; cases hy; exact .inr hg
  refine ⟨⟨?_, unfrozen_of_block hP3 5⟩, ⟨?_, ⟨?_, ?_, ?_, ?_, ?_, ?_⟩⟩, hkk⟩
  · rw [cell_of_block hP3 5]; simp
  · rw [hP4]; simp
  · exact own_other (own_other h2.own.oo hk (hto (by decide))) hks (htP (by decide))
  · exact own_other (own_other h2.own.po hk (hto (by decide))) hks (htP (by decide))
  · have := own_other ho hks (htP (by decide))
    simpa using this
  · exact fun y hy => own_other (own_other (h2.own.px y hy) hk (hto (by decide))) hks (htP (by decide))
  · intro y hy
    rcases List.mem_append.1 hy with hy | hy
    · exact own_other (own_other (h2.own.lx y hy) hk (hto (by decide))) hks (htP (by decide))
    · rw [List.mem_singleton.1 hy]; exact own_other (own_other (hx.new k12) hk (hto (by decide))) hks (htP (by decide))
  · simp only [List.map_append, List.map_cons, List.map_nil]
    rw [← List.append_assoc, List.pairwise_append]
    refine ⟨h.own.ap, List.pairwise_singleton _ _, ?_⟩
    intro b hb c hc
    rw [List.mem_singleton.1 hc]
    intro k hk hkx
    rcases List.mem_append.1 hb with hb | hb
    · obtain ⟨y, hy, rfl⟩ := List.mem_map.1 hb
      exact (hd k hkx).1 y hy hk
    · obtain ⟨y, hy, rfl⟩ := List.mem_map.1 hb
      exact (hd k hkx).2 y hy hk

theorem BuildA.addOp {w1 w2 w3 : World} {B P : Nat} {p : Pg} (h : BuildA w1 B P p) (x : OpD) (k12 : New w1 w2)
    {a' : Option Addr} {c' : Nat} (ho : w3.ownsRow B 53 3 (.slice a' (p.ops.length + 1) c') (p.ops.length + 1) (p.ops.flatMap opCells ++ opCells x)) (hk : Keeps (blk p.oa) w2 w3) (hm : Moved w2 p.oa a') :
    (w3.cell? ⟨P, 6, none⟩ = some (.slice p.oa p.ops.length p.oc) ∧ w3.frozen? ⟨P, 6, none⟩ = false) ∧
    BuildA (w3.setCell ⟨P, 6, none⟩ (.slice a' (p.ops.length + 1) c')) B P { p with oa := a', oc := c', ops := p.ops ++ [x] } ∧ Keeps (fun k => k = P ∨ blk p.oa k) w1 (w3.setCell ⟨P, 6, none⟩ (.slice a' (p.ops.length + 1) c')) := by
  have h2 := h.new k12
  have htag : Tagged (blk p.oa) w2 (fun t => t = 53) := Tagged.own h2.own.oo rfl
  have hto : ∀ {U : TypeId → Prop}, U 53 → Tagged (blk p.oa) w2 U := fun hU g hg => by
    obtain ⟨c, e, fr, q1, q2⟩ := htag g hg
    exact ⟨c, e, fr, q1, q2 ▸ hU⟩
  have hnb : ∀ {g : Nat} {cs : Array Value} {t : TypeId} {fr : Nat × Nat}, w2.heap[g]? = some (.cells cs t fr) → t ≠ 53 → ¬ blk p.oa g := fun hg hne hb => by
    obtain ⟨c, e, fr, q1, q2⟩ := htag _ hb
    rw [hg] at q1; cases q1; exact hne q2
  have hP3 := hk.heap h2.blkP (hnb h2.blkP (by decide))
  have hP4 := block_setCell (i := 6) hP3 (.slice a' (p.ops.length + 1) c')
  have hks : Keeps (fun k => k = P) w3 (w3.setCell ⟨P, 6, none⟩ (.slice a' (p.ops.length + 1) c')) := Keeps.setCell w3 _ _ rfl
  have hkk : Keeps (fun k => k = P ∨ blk p.oa k) w1 (w3.setCell ⟨P, 6, none⟩ (.slice a' (p.ops.length + 1) c')) :=
    ((Keeps.mono k12 (fun _ _ h => h.elim)).trans hk (fun i _ hb => .inr hb)).trans hks (fun i _ hb => .inl hb)
  have htP : ∀ {U : TypeId → Prop}, U 26 → Tagged (fun k => k = P) w3 U := fun hU => Tagged.block hP3 hU
  have hmv : ∀ k, blk a' k → blk p.oa k ∨ w2.heap.size ≤ k := by
    intro k hb
    rcases hm with rfl | ⟨g, rfl, hg⟩
    · exact .inl hb
    · obtain ⟨y, hy, rfl⟩ := hb; cases hy; exact .inr hg
  refine ⟨⟨?_, unfrozen_of_block hP3 6⟩, ⟨?_, ⟨?_, ?_, ?_, ?_, ?_, ?_⟩⟩, hkk⟩
  · rw [cell_of_block hP3 6]; simp
  · rw [hP4]; simp
  · have := own_other ho hks (htP (by decide))
    simpa using this
  · exact own_other (own_other h2.own.po hk (hto (by decide))) hks (htP (by decide))
  · exact own_other (own_other h2.own.lo hk (hto (by decide))) hks (htP (by decide))
  · exact fun y hy => own_other (own_other (h2.own.px y hy) hk (hto (by decide))) hks (htP (by decide))
  · exact fun y hy => own_other (own_other (h2.own.lx y hy) hk (hto (by decide))) hks (htP (by decide))
  · exact h.own.ap
end Go.Proofs.Ytfmpjbiaamkobaa
