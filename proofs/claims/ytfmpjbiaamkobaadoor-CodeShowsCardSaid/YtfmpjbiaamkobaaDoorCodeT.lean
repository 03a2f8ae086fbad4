/-
  Layer 20: a program that is being read: its memory, and one element more.
-/
import Derived.Test.YtfmpjbiaamkobaaDoorCodeS
import Derived.Test.YtfmpjbiaamkobaaDoorRegionX
namespace Go.Proofs.YtfmpjbiaamkobaaDoor
open Go Go.RowKit Go.Joins
set_option linter.all false

theorem own_tag {w : World} {B e size n : Nat} {v : Value} {xs : List Value} (h : w.ownsRow B e size v n xs) {k : Nat} (hk : v.ownBlock = some k) : ∃ cur, w.heap[k]? = some (.cells cur e (0, 0)) := by
  rcases h.2 with ⟨h0, h1⟩ | ⟨g, cap, cur, rfl, hb, hg, rest⟩
  · rw [h0] at hk; simp [Value.ownBlock] at hk
  · simp [Value.ownBlock] at hk; subst hk; exact ⟨cur, hg⟩
/-- append, in a region. -/
theorem step_app {P : Program} {w : World} {ops : Array Oper} {o : Oper} {a : Act} {K : Act → World → Prop} {Q : Exit → Act → World → Prop} {E : Prop} (hgd : o.guard = none) (s x : Operand) (t : TypeId)
    (ho : o.op = .call { callee := .builtin .append, args := #[s, x], argTypes := #[t, t] })
    (base : Nat) (e : TypeId) (i : TypeInfo) (z : Value) (size bytes : Nat) (ht : P.underlying t = some (.slice e)) (hi : P.info? e = some i) (hz : i.zero = some z)
    (hsize : i.size = size) (hby : i.bytes = bytes) (hzs : z.cells.size = size) (hsz : 0 < size)
    (ao : Option Addr) (n c : Nat) (xs : List Value) (hs : a.eval s = .slice ao n c) (hown : w.ownsRow base e size (.slice ao n c) n xs)
    (ad : Option Addr) (m cc : Nat) (news : List Value) (hx : a.eval x = .slice ad m cc) (hl : news.length = m * size) (hat : SlAt w ad news) (h1 : ∀ u ∈ news, u.oneCell' = true)
    (h63 : n + m ≤ maxLen) (hbytes : (n + m) * bytes ≤ 140737488355328) (hbase : base ≤ w.heap.size)
    (h : ∀ ao' c' w', w'.ownsRow base e size (.slice ao' (n + m) c') (n + m) (xs ++ news) → Keeps (blk ao) w w' → Moved w ao ao' → K (a.put o.dst (.slice ao' (n + m) c')) w') :
    if Region.wanted o (yielded ops a.tmps) = true then Oper.wp P o a w K Q else E := by
  have hw : Region.wanted o (yielded ops a.tmps) = true := by simp [Region.wanted, hgd]
  rw [if_pos hw]
  obtain ⟨ao', c', w', hr, h2, h3, h4, _⟩ := run_app (P := P) w base t o.type e i z size bytes ht hi hz hsize hby hzs hsz ao n c xs hown ad m cc news hl hat h1 h63 hbytes hbase
  unfold Oper.wp execOp
  simp only [ho, resolve, invoke, builtin, Sem.run_bind, Sem.run_pure, Result.andThen_ok, List.map_toArray, List.map_cons, List.map_nil, hs, hx, hr]
  exact h ao' c' w' h2 h3 h4

/-- The block g, if it is one of those, holds elements of another type. -/
def Tagged (S : Nat → Prop) (w : World) (T : TypeId → Prop) : Prop := ∀ g, S g → ∃ cur e fr, w.heap[g]? = some (.cells cur e fr) ∧ T e
theorem own_other {S : Nat → Prop} {w w' : World} {B e size n : Nat} {v : Value} {xs : List Value} (h : w.ownsRow B e size v n xs) (k : Keeps S w w') (hS : Tagged S w (fun t => t ≠ e)) : w'.ownsRow B e size v n xs :=
  k.owns h (fun g hg hs => by
    obtain ⟨c1, h1⟩ := own_tag h hg
    obtain ⟨c2, e2, f2, h2, hne⟩ := hS g hs
    rw [h1] at h2; cases h2; exact hne rfl)

/-- A program in memory of the call's own, all rows of ints apart. -/
structure PgOwn (w : World) (B : Nat) (p : Pg) : Prop where
  oo : w.ownsRow B 24 3 (.slice p.oa p.ops.length p.oc) p.ops.length (p.ops.flatMap opCells)
  po : w.ownsRow B 52 2 (.slice p.pa p.parts.length p.pc) p.parts.length (p.parts.flatMap partCells)
  lo : w.ownsRow B 58 3 (.slice p.la p.lines.length p.lc) p.lines.length (p.lines.flatMap lineCells)
  px : ∀ x ∈ p.parts, OwnI w B x.a x.c x.xs
  lx : ∀ l ∈ p.lines, OwnI w B l.a l.c l.xs
  ap : (p.parts.map (·.a) ++ p.lines.map (·.a)).Pairwise (fun a b => ∀ k, blk a k → ¬ blk b k)
theorem PgOwn.at {w : World} {B : Nat} {p : Pg} (h : PgOwn w B p) : PgAt w p := ⟨SlAt.of_owns h.oo, SlAt.of_owns h.po, SlAt.of_owns h.lo, fun x hx => (h.px x hx).sl, fun x hx => (h.lx x hx).sl⟩
def noT (t : TypeId) : Prop := t ≠ 24 ∧ t ≠ 52 ∧ t ≠ 58 ∧ t ≠ 3
theorem PgOwn.keeps {S : Nat → Prop} {w w' : World} {B : Nat} {p : Pg} (h : PgOwn w B p) (k : Keeps S w w') (hS : Tagged S w noT) : PgOwn w' B p := by
  have f : ∀ {T : TypeId → Prop}, (∀ t, noT t → T t) → Tagged S w T := fun hT g hg => by
    obtain ⟨c, e, fr, h1, h2⟩ := hS g hg; exact ⟨c, e, fr, h1, hT e h2⟩
  exact ⟨own_other h.oo k (f fun t ht => ht.1), own_other h.po k (f fun t ht => ht.2.1), own_other h.lo k (f fun t ht => ht.2.2.1), fun x hx => own_other (h.px x hx) k (f fun t ht => ht.2.2.2), fun x hx => own_other (h.lx x hx) k (f fun t ht => ht.2.2.2), h.ap⟩
theorem PgOwn.new {w w' : World} {B : Nat} {p : Pg} (h : PgOwn w B p) (k : New w w') : PgOwn w' B p := h.keeps k (fun g hg => hg.elim)
theorem Tagged.block {w : World} {G : Nat} {cs : Array Value} {t : TypeId} {fr : Nat × Nat} {T : TypeId → Prop} (h : w.heap[G]? = some (.cells cs t fr)) (hT : T t) : Tagged (fun k => k = G) w T := fun g hg => ⟨cs, t, fr, by rw [hg]; exact h, hT⟩
theorem Tagged.own {w : World} {B e size n c : Nat} {a : Option Addr} {xs : List Value} {T : TypeId → Prop} (h : w.ownsRow B e size (.slice a n c) n xs) (hT : T e) : Tagged (blk a) w T := by
  rintro g ⟨x, rfl, rfl⟩
  obtain ⟨cur, hc⟩ := own_tag h (k := x.block) rfl
  exact ⟨cur, e, _, hc, hT⟩

/-- The program at block P is p, in memory from B on; the reader at G has r left. -/
structure Build (w : World) (B P G : Nat) (s : ByteArray) (p : Pg) (r : List Int) : Prop where
  blkP : w.heap[P]? = some (.cells p.cs 39 (0, 0))
  own : PgOwn w B p
  cur : CurAt w G s r
theorem Build.cursor {w w' : World} {B P G : Nat} {s : ByteArray} {p : Pg} {r r' : List Int} (h : Build w B P G s p r) (k : Keeps (fun k => k = G) w w') (hc : CurAt w' G s r') : Build w' B P G s p r' := by
  obtain ⟨at_, h1, h2, h3⟩ := h.cur
  refine ⟨k.heap h.blkP (fun e => ?_), h.own.keeps k (Tagged.block h3 (by unfold noT; decide)), hc⟩
  subst e
  have := h.blkP
  rw [h3] at this; simp at this
theorem Build.new {w w' : World} {B P G : Nat} {s : ByteArray} {p : Pg} {r : List Int} (h : Build w B P G s p r) (k : New w w') : Build w' B P G s p r :=
  ⟨Keeps.heap k h.blkP (fun h => h), h.own.new k, h.cur.keeps k (fun h => h)⟩

theorem Build.addPart {w1 w2 w3 : World} {B P G : Nat} {s : ByteArray} {p : Pg} {r : List Int} (h : Build w1 B P G s p r) (x : PartD) (hx : OwnI w1 B x.a x.c x.xs) (hd : ∀ k, blk x.a k → (∀ y ∈ p.parts, ¬ blk y.a k) ∧ (∀ y ∈ p.lines, ¬ blk y.a k)) (k12 : New w1 w2)
    {a' : Option Addr} {c' : Nat} (ho : w3.ownsRow B 52 2 (.slice a' (p.parts.length + 1) c') (p.parts.length + 1) (p.parts.flatMap partCells ++ partCells x)) (hk : Keeps (blk p.pa) w2 w3) (hm : Moved w2 p.pa a') :
    (w3.cell? ⟨P, 4, none⟩ = some (.slice p.pa p.parts.length p.pc) ∧ w3.frozen? ⟨P, 4, none⟩ = false) ∧
    Build (w3.setCell ⟨P, 4, none⟩ (.slice a' (p.parts.length + 1) c')) B P G s { p with pa := a', pc := c', parts := p.parts ++ [x] } r ∧ Keeps (fun k => k = P ∨ blk p.pa k) w1 (w3.setCell ⟨P, 4, none⟩ (.slice a' (p.parts.length + 1) c')) := by
  have h2 := h.new k12
  have htag : Tagged (blk p.pa) w2 (fun t => t = 52) := Tagged.own h2.own.po rfl
  have hto : ∀ {U : TypeId → Prop}, U 52 → Tagged (blk p.pa) w2 U := fun hU g hg => by
    obtain ⟨c, e, fr, q1, q2⟩ := htag g hg
    exact ⟨c, e, fr, q1, q2 ▸ hU⟩
  have hnb : ∀ {g : Nat} {cs : Array Value} {t : TypeId} {fr : Nat × Nat}, w2.heap[g]? = some (.cells cs t fr) → t ≠ 52 → ¬ blk p.pa g := fun hg hne hb => by
    obtain ⟨c, e, fr, q1, q2⟩ := htag _ hb
    rw [hg] at q1; cases q1; exact hne q2
  have hP3 := hk.heap h2.blkP (hnb h2.blkP (by decide))
  have hP4 := block_setCell (i := 4) hP3 (.slice a' (p.parts.length + 1) c')
  obtain ⟨at_, q1, q2, q3⟩ := h2.cur
  have hG3 := hk.heap q3 (hnb q3 (by decide))
  have hPG : P ≠ G := by
    rintro rfl
    rw [hP3] at hG3; simp at hG3
  have hks : Keeps (fun k => k = P) w3 (w3.setCell ⟨P, 4, none⟩ (.slice a' (p.parts.length + 1) c')) := Keeps.setCell w3 _ _ rfl
  have hkk : Keeps (fun k => k = P ∨ blk p.pa k) w1 (w3.setCell ⟨P, 4, none⟩ (.slice a' (p.parts.length + 1) c')) :=
    ((Keeps.mono k12 (fun _ _ h => h.elim)).trans hk (fun i _ hb => .inr hb)).trans hks (fun i _ hb => .inl hb)
  have htP : ∀ {U : TypeId → Prop}, U 39 → Tagged (fun k => k = P) w3 U := fun hU => Tagged.block hP3 hU
  have hmv : ∀ k, blk a' k → blk p.pa k ∨ w2.heap.size ≤ k := by
    intro k hb
    rcases hm with rfl | ⟨g, rfl, hg⟩
    · exact .inl hb
    · obtain ⟨y, hy, rfl⟩ := hb; cases hy; exact .inr hg
  refine ⟨⟨?_, unfrozen_of_block hP3 4⟩, ⟨?_, ⟨?_, ?_, ?_, ?_, ?_, ?_⟩, ?_⟩, hkk⟩
  · rw [cell_of_block hP3 4]; simp
  · rw [hP4]; simp
  · exact own_other (own_other h2.own.oo hk (hto (by decide))) hks (htP (by decide))
  · have := own_other ho hks (htP (by decide))
    simpa using this
  · exact own_other (own_other h2.own.lo hk (hto (by decide))) hks (htP (by decide))
  · intro y hy
    rcases List.mem_append.1 hy with hy | hy
    · exact own_other (own_other (h2.own.px y hy) hk (hto (by decide))) hks (htP (by decide))
    · rw [List.mem_singleton.1 hy]; exact own_other (own_other (hx.new k12) hk (hto (by decide))) hks (htP (by decide))
  · exact fun y hy => own_other (own_other (h2.own.lx y hy) hk (hto (by decide))) hks (htP (by decide))
  · have ap := h.own.ap
    rw [List.pairwise_append] at ap
    obtain ⟨a1, a2, a3⟩ := ap
    simp only [List.map_append, List.map_cons, List.map_nil]
    rw [List.append_assoc, List.pairwise_append]
    refine ⟨a1, ?_, ?_⟩
    · rw [List.singleton_append, List.pairwise_cons]
      refine ⟨fun b hb k hk hkb => ?_, a2⟩
      obtain ⟨y, hy, rfl⟩ := List.mem_map.1 hb
      exact (hd k hk).2 y hy hkb
    · intro b hb c hc
      rw [List.singleton_append] at hc
      rcases List.mem_cons.1 hc with rfl | hc
      · intro k hk hkx
        obtain ⟨y, hy, rfl⟩ := List.mem_map.1 hb
        exact (hd k hkx).1 y hy hk
      · exact a3 b hb c hc
  · exact ⟨at_, q1, q2, hks.heap hG3 (fun e => hPG e.symm)⟩

theorem Build.addLine {w1 w2 w3 : World} {B P G : Nat} {s : ByteArray} {p : Pg} {r : List Int} (h : Build w1 B P G s p r) (x : LineD) (hx : OwnI w1 B x.a x.c x.xs) (hd : ∀ k, blk x.a k → (∀ y ∈ p.parts, ¬ blk y.a k) ∧ (∀ y ∈ p.lines, ¬ blk y.a k)) (k12 : New w1 w2)
    {a' : Option Addr} {c' : Nat} (ho : w3.ownsRow B 58 3 (.slice a' (p.lines.length + 1) c') (p.lines.length + 1) (p.lines.flatMap lineCells ++ lineCells x)) (hk : Keeps (blk p.la) w2 w3) (hm : Moved w2 p.la a') :
    (w3.cell? ⟨P, 5, none⟩ = some (.slice p.la p.lines.length p.lc) ∧ w3.frozen? ⟨P, 5, none⟩ = false) ∧
    Build (w3.setCell ⟨P, 5, none⟩ (.slice a' (p.lines.length + 1) c')) B P G s { p with la := a', lc := c', lines := p.lines ++ [x] } r ∧ Keeps (fun k => k = P ∨ blk p.la k) w1 (w3.setCell ⟨P, 5, none⟩ (.slice a' (p.lines.length + 1) c')) := by
  have h2 := h.new k12
  have htag : Tagged (blk p.la) w2 (fun t => t = 58) := Tagged.own h2.own.lo rfl
  have hto : ∀ {U : TypeId → Prop}, U 58 → Tagged (blk p.la) w2 U := fun hU g hg => by
    obtain ⟨c, e, fr, q1, q2⟩ := htag g hg
    exact ⟨c, e, fr, q1, q2 ▸ hU⟩
  have hnb : ∀ {g : Nat} {cs : Array Value} {t : TypeId} {fr : Nat × Nat}, w2.heap[g]? = some (.cells cs t fr) → t ≠ 58 → ¬ blk p.la g := fun hg hne hb => by
    obtain ⟨c, e, fr, q1, q2⟩ := htag _ hb
    rw [hg] at q1; cases q1; exact hne q2
  have hP3 := hk.heap h2.blkP (hnb h2.blkP (by decide))
  have hP4 := block_setCell (i := 5) hP3 (.slice a' (p.lines.length + 1) c')
  obtain ⟨at_, q1, q2, q3⟩ := h2.cur
  have hG3 := hk.heap q3 (hnb q3 (by decide))
  have hPG : P ≠ G := by
    rintro rfl
    rw [hP3] at hG3; simp at hG3
  have hks : Keeps (fun k => k = P) w3 (w3.setCell ⟨P, 5, none⟩ (.slice a' (p.lines.length + 1) c')) := Keeps.setCell w3 _ _ rfl
  have hkk : Keeps (fun k => k = P ∨ blk p.la k) w1 (w3.setCell ⟨P, 5, none⟩ (.slice a' (p.lines.length + 1) c')) :=
    ((Keeps.mono k12 (fun _ _ h => h.elim)).trans hk (fun i _ hb => .inr hb)).trans hks (fun i _ hb => .inl hb)
  have htP : ∀ {U : TypeId → Prop}, U 39 → Tagged (fun k => k = P) w3 U := fun hU => Tagged.block hP3 hU
  have hmv : ∀ k, blk a' k → blk p.la k ∨ w2.heap.size ≤ k := by
    intro k hb
    rcases hm with rfl | ⟨g, rfl, hg⟩
    · exact .inl hb
    · obtain ⟨y, hy, rfl⟩ := hb; cases hy; exact .inr hg
  refine ⟨⟨?_, unfrozen_of_block hP3 5⟩, ⟨?_, ⟨?_, ?_, ?_, ?_, ?_, ?_⟩, ?_⟩, hkk⟩
  · rw [cell_of_block hP3 5]; simp
  · rw [hP4]; simp
  · exact own_other (own_other h2.own.oo hk (hto (by decide))) hks (htP (by decide))
  · exact own_other (own_other h2.own.po hk (hto (by decide))) hks (htP (by decide))
  · have := own_other ho hks (htP (by decide))
    simpa using this
  · exact fun y hy => own_other (own_other (h2.own.px y hy) hk (hto (by decide))) hks (htP (by decide))
  · intro y hy
    rcases List.mem_append.1 hy with hy | hy
    · exact own_other (own_other (h2.own.lx y hy) hk (hto (by decide))) hks (htP (by decide))
    · rw [List.mem_singleton.1 hy]; exact own_other (own_other (hx.new k12) hk (hto (by decide))) hks (htP (by decide))
  · simp only [List.map_append, List.map_cons, List.map_nil]
    rw [← List.append_assoc, List.pairwise_append]
    refine ⟨h.own.ap, List.pairwise_singleton _ _, ?_⟩
    intro b hb c hc
    rw [List.mem_singleton.1 hc]
    intro k hk hkx
    rcases List.mem_append.1 hb with hb | hb
    · obtain ⟨y, hy, rfl⟩ := List.mem_map.1 hb
      exact (hd k hkx).1 y hy hk
    · obtain ⟨y, hy, rfl⟩ := List.mem_map.1 hb
      exact (hd k hkx).2 y hy hk
  · exact ⟨at_, q1, q2, hks.heap hG3 (fun e => hPG e.symm)⟩

theorem Build.addOp {w1 w2 w3 : World} {B P G : Nat} {s : ByteArray} {p : Pg} {r : List Int} (h : Build w1 B P G s p r) (x : OpD) (k12 : New w1 w2)
    {a' : Option Addr} {c' : Nat} (ho : w3.ownsRow B 24 3 (.slice a' (p.ops.length + 1) c') (p.ops.length + 1) (p.ops.flatMap opCells ++ opCells x)) (hk : Keeps (blk p.oa) w2 w3) (hm : Moved w2 p.oa a') :
    (w3.cell? ⟨P, 6, none⟩ = some (.slice p.oa p.ops.length p.oc) ∧ w3.frozen? ⟨P, 6, none⟩ = false) ∧
    Build (w3.setCell ⟨P, 6, none⟩ (.slice a' (p.ops.length + 1) c')) B P G s { p with oa := a', oc := c', ops := p.ops ++ [x] } r ∧ Keeps (fun k => k = P ∨ blk p.oa k) w1 (w3.setCell ⟨P, 6, none⟩ (.slice a' (p.ops.length + 1) c')) := by
  have h2 := h.new k12
  have htag : Tagged (blk p.oa) w2 (fun t => t = 24) := Tagged.own h2.own.oo rfl
  have hto : ∀ {U : TypeId → Prop}, U 24 → Tagged (blk p.oa) w2 U := fun hU g hg => by
    obtain ⟨c, e, fr, q1, q2⟩ := htag g hg
    exact ⟨c, e, fr, q1, q2 ▸ hU⟩
  have hnb : ∀ {g : Nat} {cs : Array Value} {t : TypeId} {fr : Nat × Nat}, w2.heap[g]? = some (.cells cs t fr) → t ≠ 24 → ¬ blk p.oa g := fun hg hne hb => by
    obtain ⟨c, e, fr, q1, q2⟩ := htag _ hb
    rw [hg] at q1; cases q1; exact hne q2
  have hP3 := hk.heap h2.blkP (hnb h2.blkP (by decide))
  have hP4 := block_setCell (i := 6) hP3 (.slice a' (p.ops.length + 1) c')
  obtain ⟨at_, q1, q2, q3⟩ := h2.cur
  have hG3 := hk.heap q3 (hnb q3 (by decide))
  have hPG : P ≠ G := by
    rintro rfl
    rw [hP3] at hG3; simp at hG3
  have hks : Keeps (fun k => k = P) w3 (w3.setCell ⟨P, 6, none⟩ (.slice a' (p.ops.length + 1) c')) := Keeps.setCell w3 _ _ rfl
  have hkk : Keeps (fun k => k = P ∨ blk p.oa k) w1 (w3.setCell ⟨P, 6, none⟩ (.slice a' (p.ops.length + 1) c')) :=
    ((Keeps.mono k12 (fun _ _ h => h.elim)).trans hk (fun i _ hb => .inr hb)).trans hks (fun i _ hb => .inl hb)
  have htP : ∀ {U : TypeId → Prop}, U 39 → Tagged (fun k => k = P) w3 U := fun hU => Tagged.block hP3 hU
  have hmv : ∀ k, blk a' k → blk p.oa k ∨ w2.heap.size ≤ k := by
    intro k hb
    rcases hm with rfl | ⟨g, rfl, hg⟩
    · exact .inl hb
    · obtain ⟨y, hy, rfl⟩ := hb; cases hy; exact .inr hg
  refine ⟨⟨?_, unfrozen_of_block hP3 6⟩, ⟨?_, ⟨?_, ?_, ?_, ?_, ?_, ?_⟩, ?_⟩, hkk⟩
  · rw [cell_of_block hP3 6]; simp
  · rw [hP4]; simp
  · have := own_other ho hks (htP (by decide))
    simpa using this
  · exact own_other (own_other h2.own.po hk (hto (by decide))) hks (htP (by decide))
  · exact own_other (own_other h2.own.lo hk (hto (by decide))) hks (htP (by decide))
  · exact fun y hy => own_other (own_other (h2.own.px y hy) hk (hto (by decide))) hks (htP (by decide))
  · exact fun y hy => own_other (own_other (h2.own.lx y hy) hk (hto (by decide))) hks (htP (by decide))
  · exact h.own.ap
  · exact ⟨at_, q1, q2, hks.heap hG3 (fun e => hPG e.symm)⟩
end Go.Proofs.YtfmpjbiaamkobaaDoor
