/-
  Layer 20: the law on Decode, walked.
-/
import Derived.Test.YtfmpjbiaamkobaaCodeAp
import Derived.Test.YtfmpjbiaamkobaaCodeX
import Derived.Test.YtfmpjbiaamkobaaCodeZ
namespace Go.Proofs.Ytfmpjbiaamkobaa
open Go Go.RowKit Go.Joins
set_option linter.all false

def partEnt (x : PartD) : Ent := ⟨x.a, x.c, x.xs⟩
def lineEnt (x : LineD) : Ent := ⟨x.a, x.c, x.xs⟩
def zipE : List Ent → List Ent → List Ent
  | x :: l, y :: m => x :: y :: zipE l m
  | _, _ => []
theorem zipE_len : ∀ (l m : List Ent), l.length = m.length → (zipE l m).length = 2 * l.length := by
  intro l
  induction l with
  | nil => intro m _; cases m <;> rfl
  | cons x l ih =>
    intro m h
    cases m with
    | nil => simp at h
    | cons y m => simp only [zipE, List.length_cons]; rw [ih m (by simpa using h)]; omega
theorem zipE_succ : ∀ (l m : List Ent) (k : Nat) (h1 : k < l.length) (h2 : k < m.length), zipE (l.take (k + 1)) (m.take (k + 1)) = zipE (l.take k) (m.take k) ++ [l[k], m[k]] := by
  intro l
  induction l with
  | nil => intro m k h1; simp at h1
  | cons x l ih =>
    intro m k h1 h2
    cases m with
    | nil => simp at h2
    | cons y m =>
      cases k with
      | zero => simp [zipE]
      | succ k =>
        simp only [List.take_succ_cons, zipE, List.getElem_cons_succ, List.cons_append]
        rw [ih m k (by simpa using h1) (by simpa using h2)]
theorem zipE_perm : ∀ (l m : List Ent), l.length = m.length → (zipE l m).Perm (l ++ m) := by
  intro l
  induction l with
  | nil => intro m h; cases m with
    | nil => exact .nil
    | cons y m => simp at h
  | cons x l ih =>
    intro m h
    cases m with
    | nil => simp at h
    | cons y m =>
      simp only [zipE, List.cons_append]
      refine .cons x ?_
      exact ((ih m (by simpa using h)).cons y).trans List.perm_middle.symm

theorem ents_perm {a b c d : List Ent} (h1 : a.length = b.length) (h2 : c.length = d.length) : (zipE a b ++ zipE c d).Perm ((a ++ c) ++ (b ++ d)) := by
  refine ((zipE_perm a b h1).append (zipE_perm c d h2)).trans ?_
  rw [List.append_assoc, List.append_assoc]
  refine List.Perm.append_left a ?_
  rw [← List.append_assoc, ← List.append_assoc]
  exact (List.perm_append_comm (l₁ := b) (l₂ := c)).append_right d
theorem ents_apart {w1 w2 : World} {B1 B2 : Nat} {q r : Pg} (hq : PgOwn w1 B1 q) (hr : PgOwn w2 B2 r) (h12 : w1.heap.size ≤ B2) (hp : q.parts.length = r.parts.length) (hl : q.lines.length = r.lines.length) :
    (zipE (q.parts.map partEnt) (r.parts.map partEnt) ++ zipE (q.lines.map lineEnt) (r.lines.map lineEnt)).Pairwise disj := by
  have key : ∀ {w : World} {B : Nat} {q : Pg}, PgOwn w B q → (q.parts.map partEnt ++ q.lines.map lineEnt).Pairwise disj := by
    intro w B q h
    have := h.ap
    have e : q.parts.map (·.a) ++ q.lines.map (·.a) = (q.parts.map partEnt ++ q.lines.map lineEnt).map (·.a) := by simp [partEnt, lineEnt, Function.comp_def]
    rw [e, List.pairwise_map] at this
    exact this
  refine ((ents_perm (by simpa using hp) (by simpa using hl)).pairwise_iff (fun h => disj_symm h)).2 ?_
  rw [List.pairwise_append]
  refine ⟨key hq, key hr, ?_⟩
  have kq : ∀ x ∈ q.parts.map partEnt ++ q.lines.map lineEnt, ∀ k, blk x.a k → k < w1.heap.size := by
    intro x hx k hk
    rcases List.mem_append.1 hx with hx | hx
    · obtain ⟨y, hy, rfl⟩ := List.mem_map.1 hx; exact (own_of_blk (hq.px y hy) hk).2
    · obtain ⟨y, hy, rfl⟩ := List.mem_map.1 hx; exact (own_of_blk (hq.lx y hy) hk).2
  have kr : ∀ x ∈ r.parts.map partEnt ++ r.lines.map lineEnt, ∀ k, blk x.a k → B2 ≤ k := by
    intro x hx k hk
    rcases List.mem_append.1 hx with hx | hx
    · obtain ⟨y, hy, rfl⟩ := List.mem_map.1 hx; exact (own_of_blk (hr.px y hy) hk).1
    · obtain ⟨y, hy, rfl⟩ := List.mem_map.1 hx; exact (own_of_blk (hr.lx y hy) hk).1
  intro x hx y hy k h1 h2
  have := kq x hx k h1
  have := kr y hy k h2
  omega
/-- All of them are lists in memory, none longer than so much. -/
theorem ents_all {w : World} {B0 B1 B2 : Nat} (hb1 : B0 ≤ B1) (hb2 : B0 ≤ B2) {q r : Pg} (hq : PgOwn w B1 q) (hr : PgOwn w B2 r) (hp : q.parts.length = r.parts.length) (hl : q.lines.length = r.lines.length)
    (b1 : ∀ x ∈ q.parts, x.xs.length ≤ 1024) (b2 : ∀ x ∈ r.parts, x.xs.length ≤ 1024) (b3 : ∀ x ∈ q.lines, x.xs.length ≤ 1024) (b4 : ∀ x ∈ r.lines, x.xs.length ≤ 1024) :
    ∀ t ∈ zipE (q.parts.map partEnt) (r.parts.map partEnt) ++ zipE (q.lines.map lineEnt) (r.lines.map lineEnt), OwnI w B0 t.a t.c t.xs ∧ t.xs.length ≤ 1024 := by
  intro t ht
  have ht := (ents_perm (a := q.parts.map partEnt) (b := r.parts.map partEnt) (by simpa using hp) (by simpa using hl)).mem_iff.1 ht
  rcases List.mem_append.1 ht with ht | ht <;> rcases List.mem_append.1 ht with ht | ht <;> obtain ⟨y, hy, rfl⟩ := List.mem_map.1 ht
  · exact ⟨OwnI.rebase (hq.px y hy) hb1, b1 y hy⟩
  · exact ⟨OwnI.rebase (hq.lx y hy) hb1, b3 y hy⟩
  · exact ⟨OwnI.rebase (hr.px y hy) hb2, b2 y hy⟩
  · exact ⟨OwnI.rebase (hr.lx y hy) hb2, b4 y hy⟩

def zeroPg : Pg := ⟨0, 0, 0, 0, none, 0, [], none, 0, [], none, 0, []⟩
/-- Both Decodes tell the same. -/
theorem both_decode (s : ByteArray) (hs : s.size ≤ 9223372036854775807) : ∃ (c a : Int) (p : Pg), p.parts.length ≤ 32 ∧ p.lines.length ≤ 96 ∧ p.ops.length ≤ 131072 ∧ (∀ x ∈ p.parts, x.xs.length ≤ 1024) ∧ (∀ x ∈ p.lines, x.xs.length ≤ 1024) ∧
    (∀ W, Calls Try.prog 21 #[.string s] W fun e w' => ∃ q : Pg, q.bare = p ∧ e = .returned (.tuple #[q.v, .agg #[I c, I a]]) ∧ PgHas w' W.heap.size q ∧ New W w') ∧
    (∀ W, Calls Try.prog 22 #[.string s] W fun e w' => ∃ q : Pg, q.bare = p ∧ e = .returned (.tuple #[q.v, .agg #[I c, I a]]) ∧ PgOwn w' W.heap.size q ∧ New W w') := by
  have h1 := fun W => rdecode_any W s hs
  have h2 := fun W => cdecode_any W s hs
  cases hd : decodeR (bytesOf s) with
  | error r =>
    obtain ⟨c, a⟩ := r
    rw [hd] at h1 h2
    refine ⟨c, a, zeroPg, by decide, by decide, by decide, (fun x hx => by cases hx), (fun x hx => by cases hx), fun W => (h1 W).mono ?_, fun W => (h2 W).mono ?_⟩
    · rintro e w' ⟨rfl, k⟩
      exact ⟨zeroPg, rfl, rfl, ⟨OpsOwn.nil _ _, PartsOwn.nil _ _, LinesOwn.nil _ _⟩, k⟩
    · rintro e w' ⟨rfl, k⟩
      exact ⟨zeroPg, rfl, rfl, ⟨World.ownsRow_nil _ _ _ _, World.ownsRow_nil _ _ _ _, World.ownsRow_nil _ _ _ _, (fun x hx => by cases hx), (fun x hx => by cases hx), List.Pairwise.nil⟩, k⟩
  | ok p =>
    rw [hd] at h1 h2
    obtain ⟨_, hst⟩ := decode_bytes (bytesOf_rng s) hd
    obtain ⟨⟨m0, m1⟩, _, _, _, np, nl, no, he, hle, _⟩ := stepsR_all hst
    refine ⟨0, 0, p, np, nl, no, fun x hx => ?_, fun x hx => ?_, h1, h2⟩
    · have := (partE_ok (partsE_zero he x hx)).2.2; omega
    · have := lineE_ok (linesE_zero hle x hx); omega

/-- What another type's block holds stays. -/
theorem heap_other {S : Nat → Prop} {w w' : World} {g : Nat} {cs : Array Value} {t : TypeId} {fr : Nat × Nat} (h : w.heap[g]? = some (.cells cs t fr)) (k : Keeps S w w') (hS : Tagged S w (fun u => u ≠ t)) : w'.heap[g]? = some (.cells cs t fr) :=
  k.heap h (fun hs => by obtain ⟨c, e, f, h1, h2⟩ := hS g hs; rw [h] at h1; cases h1; exact h2 rfl)
theorem tagged_ents {w : World} {T : List Ent} {B : Nat} {P : TypeId → Prop} (h : ∀ t ∈ T, OwnI w B t.a t.c t.xs) (hP : P 3) : Tagged (fun k => ∃ t ∈ T, blk t.a k) w P := by
  rintro g ⟨t, ht, hb⟩
  exact Tagged.own (h t ht) hP g hb

set_option maxRecDepth 100000 in
set_option maxHeartbeats 16000000 in
theorem decodes_any (w : World) (s : ByteArray) (hs : s.size ≤ 9223372036854775807)
    (HAW : ∀ W, Calls Try.prog 16 #[] W fun e w' => e = .returned (.bool true) ∧ New W w') :
    Calls Try.prog 6 #[.string s] w fun e w' => e = .returned (.bool true) ∧ New w w' := by
  obtain ⟨fc, fa, pb, np, nl, no, bx, by_, h1, h2⟩ := both_decode s hs
  have H1 := Lib.hid h1
  have H2 := Lib.hid h2
  have HBX := Lib.hid bx
  have HBY := Lib.hid by_
  clear h1 h2 bx by_
  go_enter Try.func6, Try.ntmps6
  go_wp2_with fail
  refine (H1.out _).mono ?_
  rintro e w1 ⟨p, hp, rfl, hpo, n1⟩
  have HP := Lib.hid hp
  clear hp
  simp only [Pg.v, Pg.cs]
  go_wp2_with fail
  have kwA : New w1 ((w1.alloc (.cells #[I p.mem, I p.ctr, I p.ins, I p.outs, .slice p.pa p.parts.length p.pc, .slice p.la p.lines.length p.lc, .slice p.oa p.ops.length p.oc] 26)).alloc (.cells #[I fc, I fa] 38)) := ((New.refl w1).alloc _).alloc _
  have hP : ((w1.alloc (.cells #[I p.mem, I p.ctr, I p.ins, I p.outs, .slice p.pa p.parts.length p.pc, .slice p.la p.lines.length p.lc, .slice p.oa p.ops.length p.oc] 26)).alloc (.cells #[I fc, I fa] 38)).heap[w1.heap.size]? = some (.cells #[I p.mem, I p.ctr, I p.ins, I p.outs, .slice p.pa p.parts.length p.pc, .slice p.la p.lines.length p.lc, .slice p.oa p.ops.length p.oc] 26 (0, 0)) := Keeps.heap (S := fun _ => False) (Keeps.alloc _ _) (heap_alloc_new w1 _) (fun h => h)
  have hF : ((w1.alloc (.cells #[I p.mem, I p.ctr, I p.ins, I p.outs, .slice p.pa p.parts.length p.pc, .slice p.la p.lines.length p.lc, .slice p.oa p.ops.length p.oc] 26)).alloc (.cells #[I fc, I fa] 38)).heap[w1.heap.size + 1]? = some (.cells #[I fc, I fa] 38 (0, 0)) := by
    have h := heap_alloc_new (w1.alloc (.cells #[I p.mem, I p.ctr, I p.ins, I p.outs, .slice p.pa p.parts.length p.pc, .slice p.la p.lines.length p.lc, .slice p.oa p.ops.length p.oc] 26)) (.cells #[I fc, I fa] 38)
    have e : (w1.alloc (.cells #[I p.mem, I p.ctr, I p.ins, I p.outs, .slice p.pa p.parts.length p.pc, .slice p.la p.lines.length p.lc, .slice p.oa p.ops.length p.oc] 26)).heap.size = w1.heap.size + 1 := by simp
    rw [e] at h; exact h
  have swA : ((w1.alloc (.cells #[I p.mem, I p.ctr, I p.ins, I p.outs, .slice p.pa p.parts.length p.pc, .slice p.la p.lines.length p.lc, .slice p.oa p.ops.length p.oc] 26)).alloc (.cells #[I fc, I fa] 38)).heap.size = w1.heap.size + 2 := by simp
  generalize ((w1.alloc (.cells #[I p.mem, I p.ctr, I p.ins, I p.outs, .slice p.pa p.parts.length p.pc, .slice p.la p.lines.length p.lc, .slice p.oa p.ops.length p.oc] 26)).alloc (.cells #[I fc, I fa] 38)) = wA at kwA hP hF swA ⊢
  refine (H2.out _).mono ?_
  rintro e w2 ⟨q, hq, rfl, hqo, n2⟩
  have HQ := Lib.hid hq
  clear hq
  replace hP := Keeps.heap n2 hP (fun h => h)
  replace hF := Keeps.heap n2 hF (fun h => h)
  simp only [Pg.v, Pg.cs]
  go_wp2_with fail
  have kwB : New w2 ((w2.alloc (.cells #[I q.mem, I q.ctr, I q.ins, I q.outs, .slice q.pa q.parts.length q.pc, .slice q.la q.lines.length q.lc, .slice q.oa q.ops.length q.oc] 26)).alloc (.cells #[I fc, I fa] 38)) := ((New.refl w2).alloc _).alloc _
  have hQ : ((w2.alloc (.cells #[I q.mem, I q.ctr, I q.ins, I q.outs, .slice q.pa q.parts.length q.pc, .slice q.la q.lines.length q.lc, .slice q.oa q.ops.length q.oc] 26)).alloc (.cells #[I fc, I fa] 38)).heap[w2.heap.size]? = some (.cells #[I q.mem, I q.ctr, I q.ins, I q.outs, .slice q.pa q.parts.length q.pc, .slice q.la q.lines.length q.lc, .slice q.oa q.ops.length q.oc] 26 (0, 0)) := Keeps.heap (S := fun _ => False) (Keeps.alloc _ _) (heap_alloc_new w2 _) (fun h => h)
  have hG : ((w2.alloc (.cells #[I q.mem, I q.ctr, I q.ins, I q.outs, .slice q.pa q.parts.length q.pc, .slice q.la q.lines.length q.lc, .slice q.oa q.ops.length q.oc] 26)).alloc (.cells #[I fc, I fa] 38)).heap[w2.heap.size + 1]? = some (.cells #[I fc, I fa] 38 (0, 0)) := by
    have h := heap_alloc_new (w2.alloc (.cells #[I q.mem, I q.ctr, I q.ins, I q.outs, .slice q.pa q.parts.length q.pc, .slice q.la q.lines.length q.lc, .slice q.oa q.ops.length q.oc] 26)) (.cells #[I fc, I fa] 38)
    have e : (w2.alloc (.cells #[I q.mem, I q.ctr, I q.ins, I q.outs, .slice q.pa q.parts.length q.pc, .slice q.la q.lines.length q.lc, .slice q.oa q.ops.length q.oc] 26)).heap.size = w2.heap.size + 1 := by simp
    rw [e] at h; exact h
  have swB : ((w2.alloc (.cells #[I q.mem, I q.ctr, I q.ins, I q.outs, .slice q.pa q.parts.length q.pc, .slice q.la q.lines.length q.lc, .slice q.oa q.ops.length q.oc] 26)).alloc (.cells #[I fc, I fa] 38)).heap.size = w2.heap.size + 2 := by simp
  generalize ((w2.alloc (.cells #[I q.mem, I q.ctr, I q.ins, I q.outs, .slice q.pa q.parts.length q.pc, .slice q.la q.lines.length q.lc, .slice q.oa q.ops.length q.oc] 26)).alloc (.cells #[I fc, I fa] 38)) = wB at kwB hQ hG swB ⊢
  replace hP := Keeps.heap kwB hP (fun h => h)
  replace hF := Keeps.heap kwB hF (fun h => h)
  refine (H2.out _).mono ?_
  rintro e w3 ⟨r, hr, rfl, hro, n3⟩
  have HR := Lib.hid hr
  clear hr
  replace hP := Keeps.heap n3 hP (fun h => h)
  replace hF := Keeps.heap n3 hF (fun h => h)
  replace hQ := Keeps.heap n3 hQ (fun h => h)
  replace hG := Keeps.heap n3 hG (fun h => h)
  simp only [Pg.v, Pg.cs]
  have x0 : w3.cell? ⟨w1.heap.size, 0, none⟩ = some (I p.mem) := by rw [cell_of_block hP 0]; simp
  have x1 : w3.cell? ⟨w1.heap.size, 1, none⟩ = some (I p.ctr) := by rw [cell_of_block hP 1]; simp
  have x2 : w3.cell? ⟨w1.heap.size, 2, none⟩ = some (I p.ins) := by rw [cell_of_block hP 2]; simp
  have x3 : w3.cell? ⟨w1.heap.size, 3, none⟩ = some (I p.outs) := by rw [cell_of_block hP 3]; simp
  have x4 : w3.cell? ⟨w1.heap.size, 4, none⟩ = some (.slice p.pa p.parts.length p.pc) := by rw [cell_of_block hP 4]; simp
  have x5 : w3.cell? ⟨w1.heap.size, 5, none⟩ = some (.slice p.la p.lines.length p.lc) := by rw [cell_of_block hP 5]; simp
  have x6 : w3.cell? ⟨w1.heap.size, 6, none⟩ = some (.slice p.oa p.ops.length p.oc) := by rw [cell_of_block hP 6]; simp
  have f0 : w3.cell? ⟨w1.heap.size + 1, 0, none⟩ = some (I fc) := by rw [cell_of_block hF 0]; simp
  have f1 : w3.cell? ⟨w1.heap.size + 1, 1, none⟩ = some (I fa) := by rw [cell_of_block hF 1]; simp
  have y0 : w3.cell? ⟨w2.heap.size, 0, none⟩ = some (I q.mem) := by rw [cell_of_block hQ 0]; simp
  have y1 : w3.cell? ⟨w2.heap.size, 1, none⟩ = some (I q.ctr) := by rw [cell_of_block hQ 1]; simp
  have y2 : w3.cell? ⟨w2.heap.size, 2, none⟩ = some (I q.ins) := by rw [cell_of_block hQ 2]; simp
  have y3 : w3.cell? ⟨w2.heap.size, 3, none⟩ = some (I q.outs) := by rw [cell_of_block hQ 3]; simp
  have y4 : w3.cell? ⟨w2.heap.size, 4, none⟩ = some (.slice q.pa q.parts.length q.pc) := by rw [cell_of_block hQ 4]; simp
  have y5 : w3.cell? ⟨w2.heap.size, 5, none⟩ = some (.slice q.la q.lines.length q.lc) := by rw [cell_of_block hQ 5]; simp
  have y6 : w3.cell? ⟨w2.heap.size, 6, none⟩ = some (.slice q.oa q.ops.length q.oc) := by rw [cell_of_block hQ 6]; simp
  have g0 : w3.cell? ⟨w2.heap.size + 1, 0, none⟩ = some (I fc) := by rw [cell_of_block hG 0]; simp
  have g1 : w3.cell? ⟨w2.heap.size + 1, 1, none⟩ = some (I fa) := by rw [cell_of_block hG 1]; simp
  have z1 : w1.heap.size < w3.heap.size := World.block_lt_of_cell? w3 _ x0
  have z2 : w1.heap.size + 1 < w3.heap.size := World.block_lt_of_cell? w3 _ f0
  have z3 : w2.heap.size < w3.heap.size := World.block_lt_of_cell? w3 _ y0
  have z4 : w2.heap.size + 1 < w3.heap.size := World.block_lt_of_cell? w3 _ g0
  have HpO := Lib.hid hpo
  have HqO := Lib.hid hqo
  have HrO := Lib.hid hro
  have HbP := Lib.hid hP
  have HbQ := Lib.hid hQ
  clear hpo hqo hro hP hQ hF hG
  go_wp2_with fail
  have kw4 : New w3 ((w3.alloc (.cells #[I r.mem, I r.ctr, I r.ins, I r.outs, .slice r.pa r.parts.length r.pc, .slice r.la r.lines.length r.lc, .slice r.oa r.ops.length r.oc] 26)).alloc (.cells #[I fc, I fa] 38)) := ((New.refl w3).alloc _).alloc _
  have hR : ((w3.alloc (.cells #[I r.mem, I r.ctr, I r.ins, I r.outs, .slice r.pa r.parts.length r.pc, .slice r.la r.lines.length r.lc, .slice r.oa r.ops.length r.oc] 26)).alloc (.cells #[I fc, I fa] 38)).heap[w3.heap.size]? = some (.cells #[I r.mem, I r.ctr, I r.ins, I r.outs, .slice r.pa r.parts.length r.pc, .slice r.la r.lines.length r.lc, .slice r.oa r.ops.length r.oc] 26 (0, 0)) := Keeps.heap (S := fun _ => False) (Keeps.alloc _ _) (heap_alloc_new w3 _) (fun h => h)
  have hH : ((w3.alloc (.cells #[I r.mem, I r.ctr, I r.ins, I r.outs, .slice r.pa r.parts.length r.pc, .slice r.la r.lines.length r.lc, .slice r.oa r.ops.length r.oc] 26)).alloc (.cells #[I fc, I fa] 38)).heap[w3.heap.size + 1]? = some (.cells #[I fc, I fa] 38 (0, 0)) := by
    have h := heap_alloc_new (w3.alloc (.cells #[I r.mem, I r.ctr, I r.ins, I r.outs, .slice r.pa r.parts.length r.pc, .slice r.la r.lines.length r.lc, .slice r.oa r.ops.length r.oc] 26)) (.cells #[I fc, I fa] 38)
    have e : (w3.alloc (.cells #[I r.mem, I r.ctr, I r.ins, I r.outs, .slice r.pa r.parts.length r.pc, .slice r.la r.lines.length r.lc, .slice r.oa r.ops.length r.oc] 26)).heap.size = w3.heap.size + 1 := by simp
    rw [e] at h; exact h
  have sw4 : ((w3.alloc (.cells #[I r.mem, I r.ctr, I r.ins, I r.outs, .slice r.pa r.parts.length r.pc, .slice r.la r.lines.length r.lc, .slice r.oa r.ops.length r.oc] 26)).alloc (.cells #[I fc, I fa] 38)).heap.size = w3.heap.size + 2 := by simp
  generalize ((w3.alloc (.cells #[I r.mem, I r.ctr, I r.ins, I r.outs, .slice r.pa r.parts.length r.pc, .slice r.la r.lines.length r.lc, .slice r.oa r.ops.length r.oc] 26)).alloc (.cells #[I fc, I fa] 38)) = w4 at kw4 hR hH sw4 ⊢
  have hpq : p.bare = q.bare := by rw [HP.out, HQ.out]
  have hpr : p.bare = r.bare := by rw [HP.out, HR.out]
  have hqr : q.bare = r.bare := by rw [HQ.out, HR.out]
  have k4p : New w1 w4 := (((kwA.trans n2).trans kwB).trans n3).trans kw4
  have k4q : New w2 w4 := (kwB.trans n3).trans kw4
  have k4r : New w3 w4 := kw4
  have hat_p := HpO.out.at.new k4p
  have hat_q := HqO.out.at.new k4q
  have hat_r := HrO.out.at.new k4r
  have HCP := Lib.hid (HpO.out.lens)
  have HS2 := Lib.hid (fun W k => sameProg_yes W p r (hat_p.new k) (hat_r.new k) hpr HCP.out)
  have hpn : New w w4 := n1.trans k4p
  have HN4 := Lib.hid hpn
  have HbP4 := Lib.hid (Keeps.heap kw4 HbP.out (fun h => h))
  have HbQ4 := Lib.hid (Keeps.heap kw4 HbQ.out (fun h => h))
  have HbR4 := Lib.hid hR
  refine (sameProg_yes w4 p q hat_p hat_q hpq HCP.out).mono ?_
  rintro e w5 ⟨rfl, n5⟩
  clear x0 x1 x2 x3 x4 x5 x6 y0 y1 y2 y3 y4 y5 y6 f0 f1 g0 g1 hR hH HbP HbQ
  have e1 := n1.size
  have e2 := n2.size
  have e3 := n3.size
  obtain ⟨P, hPe⟩ : ∃ P, P = w1.heap.size := ⟨_, rfl⟩
  obtain ⟨Q, hQe⟩ : ∃ Q, Q = w2.heap.size := ⟨_, rfl⟩
  obtain ⟨R, hRe⟩ : ∃ R, R = w3.heap.size := ⟨_, rfl⟩
  have ePQ : P < Q := by omega
  have eQR : Q < R := by omega
  have ewP : w.heap.size ≤ P := by omega
  have D1 : ∀ k, blk p.oa k → ¬ blk q.oa k := fun k h h' => by have := (own_of_blk HpO.out.oo.row h).2; have := (own_of_blk HqO.out.oo h').1; omega
  have D2 : ∀ k, blk r.oa k → ¬ blk q.oa k := fun k h h' => by have := (own_of_blk HrO.out.oo h).1; have := (own_of_blk HqO.out.oo h').2; omega
  have D3 : ∀ k, blk p.la k → ¬ blk q.la k := fun k h h' => by have := (own_of_blk HpO.out.lo.row h).2; have := (own_of_blk HqO.out.lo h').1; omega
  have D4 : ∀ k, blk r.la k → ¬ blk q.la k := fun k h h' => by have := (own_of_blk HrO.out.lo h).1; have := (own_of_blk HqO.out.lo h').2; omega
  have eQB : ∀ k, blk q.oa k → w.heap.size ≤ k := fun k h => by have := (own_of_blk HqO.out.oo h).1; omega
  have eLB : ∀ k, blk q.la k → w.heap.size ≤ k := fun k h => by have := (own_of_blk HqO.out.lo h).1; omega
  have lqr : q.parts.length = r.parts.length ∧ q.lines.length = r.lines.length ∧ r.ops = p.ops ∧ r.lines.length = p.lines.length := by
    obtain ⟨_, _, _, _, a5, a6, a7⟩ := bare_parts hqr
    obtain ⟨_, _, _, _, _, b6, b7⟩ := bare_parts hpr
    have c5 := congrArg List.length a5
    have c6 := congrArg List.length a6
    have d6 := congrArg List.length b6
    simp only [List.length_map] at c5 c6 d6
    exact ⟨c5, c6, b7.symm, d6.symm⟩
  obtain ⟨lp, ll, hops, lpl⟩ := lqr
  have HTP : Hid ((zipE (q.parts.map partEnt) (r.parts.map partEnt) ++ zipE (q.lines.map lineEnt) (r.lines.map lineEnt)).Pairwise disj) := Lib.hid (ents_apart HqO.out HrO.out (by omega) lp ll)
  have hnp : q.parts.length ≤ 32 := by have := HQ.out; subst this; simpa [Pg.bare] using np
  have hnl : q.lines.length ≤ 96 := by have := HQ.out; subst this; simpa [Pg.bare] using nl
  have bqp : ∀ x ∈ q.parts, x.xs.length ≤ 1024 := fun x hx => HBX.out x.bare (by rw [← HQ.out]; exact List.mem_map_of_mem hx)
  have bql : ∀ x ∈ q.lines, x.xs.length ≤ 1024 := fun x hx => HBY.out x.bare (by rw [← HQ.out]; exact List.mem_map_of_mem hx)
  have brp : ∀ x ∈ r.parts, x.xs.length ≤ 1024 := fun x hx => HBX.out x.bare (by rw [← HR.out]; exact List.mem_map_of_mem hx)
  have brl : ∀ x ∈ r.lines, x.xs.length ≤ 1024 := fun x hx => HBY.out x.bare (by rw [← HR.out]; exact List.mem_map_of_mem hx)
  have HRL : Hid (∀ (k : Nat) (h1 : k < r.lines.length) (h2 : k < p.lines.length), r.lines[k].base = p.lines[k].base ∧ r.lines[k].size = p.lines[k].size) := Lib.hid (by
    intro k h1 h2
    obtain ⟨_, _, _, _, _, b6, _⟩ := bare_parts hpr
    have := map_at b6 k h2 h1
    simp only [LineD.bare, LineD.mk.injEq] at this
    exact ⟨this.1.symm, this.2.1.symm⟩)
  have HAL := Lib.hid (fun (W : World) (k : New w4 W) => ents_all (B0 := w.heap.size) (show w.heap.size ≤ wA.heap.size by omega) (show w.heap.size ≤ wB.heap.size by omega) ((HqO.out.new k4q).new k) ((HrO.out.new k4r).new k) lp ll bqp brp bql brl)
  have HPO := Lib.hid ((HpO.out.keeps k4p (fun _ _ h => h)))
  have HQO := Lib.hid (HqO.out.new k4q)
  have HRO := Lib.hid (HrO.out.new k4r)
  have HD := Lib.hid (And.intro D1 (And.intro D2 (And.intro D3 D4)))
  have HE := Lib.hid (And.intro eQB eLB)
  clear D1 D2 D3 D4 eQB eLB bqp bql brp brl hpq hpr hqr hat_p hat_q hat_r HpO HqO HrO HP HQ HR HBX HBY kwA kwB kw4 n1 n2 n3 k4p k4q k4r hpn H1 H2
  rw [← hPe] at HbP4 z1 z2 ⊢
  rw [← hQe] at HbQ4 z3 z4 ⊢
  rw [← hRe] at HbR4 ⊢
  clear hPe hQe hRe sw4 swA swB e1 e2 e3 z1 z2 z3 z4
  have HLP := Lib.hid lp
  have HLL := Lib.hid ll
  have HOPS := Lib.hid hops
  have HLPL := Lib.hid lpl
  clear lp ll hops lpl
  have hP := Keeps.heap n5 HbP4.out (fun h => h)
  have hR := Keeps.heap n5 HbR4.out (fun h => h)
  have x0 : w5.cell? ⟨P, 0, none⟩ = some (I p.mem) := by rw [cell_of_block hP 0]; simp
  have x1 : w5.cell? ⟨P, 1, none⟩ = some (I p.ctr) := by rw [cell_of_block hP 1]; simp
  have x2 : w5.cell? ⟨P, 2, none⟩ = some (I p.ins) := by rw [cell_of_block hP 2]; simp
  have x3 : w5.cell? ⟨P, 3, none⟩ = some (I p.outs) := by rw [cell_of_block hP 3]; simp
  have x4 : w5.cell? ⟨P, 4, none⟩ = some (.slice p.pa p.parts.length p.pc) := by rw [cell_of_block hP 4]; simp
  have x5 : w5.cell? ⟨P, 5, none⟩ = some (.slice p.la p.lines.length p.lc) := by rw [cell_of_block hP 5]; simp
  have x6 : w5.cell? ⟨P, 6, none⟩ = some (.slice p.oa p.ops.length p.oc) := by rw [cell_of_block hP 6]; simp
  have y0 : w5.cell? ⟨R, 0, none⟩ = some (I r.mem) := by rw [cell_of_block hR 0]; simp
  have y1 : w5.cell? ⟨R, 1, none⟩ = some (I r.ctr) := by rw [cell_of_block hR 1]; simp
  have y2 : w5.cell? ⟨R, 2, none⟩ = some (I r.ins) := by rw [cell_of_block hR 2]; simp
  have y3 : w5.cell? ⟨R, 3, none⟩ = some (I r.outs) := by rw [cell_of_block hR 3]; simp
  have y4 : w5.cell? ⟨R, 4, none⟩ = some (.slice r.pa r.parts.length r.pc) := by rw [cell_of_block hR 4]; simp
  have y5 : w5.cell? ⟨R, 5, none⟩ = some (.slice r.la r.lines.length r.lc) := by rw [cell_of_block hR 5]; simp
  have y6 : w5.cell? ⟨R, 6, none⟩ = some (.slice r.oa r.ops.length r.oc) := by rw [cell_of_block hR 6]; simp
  clear hP hR
  go_wp2_with fail
  refine (HS2.out w5 n5).mono ?_
  rintro e w6 ⟨rfl, n6⟩
  have n46 := n5.trans n6
  clear x0 x1 x2 x3 x4 x5 x6 y0 y1 y2 y3 y4 y5 y6 n5 n6 HS2 HCP
  have hP := Keeps.heap n46 HbP4.out (fun h => h)
  have hQ := Keeps.heap n46 HbQ4.out (fun h => h)
  have hR := Keeps.heap n46 HbR4.out (fun h => h)
  replace HPO := Lib.hid (HPO.out.keeps n46 (fun _ _ h => h))
  replace HQO := Lib.hid (HQO.out.new n46)
  replace HRO := Lib.hid (HRO.out.new n46)
  have HN6 := Lib.hid (HN4.out.trans n46)
  replace HAL := Lib.hid (fun (W : World) (k : New w6 W) => HAL.out W (n46.trans k))
  clear n46 HN4
  have y0 : w6.cell? ⟨Q, 0, none⟩ = some (I q.mem) := by rw [cell_of_block hQ 0]; simp
  have y1 : w6.cell? ⟨Q, 1, none⟩ = some (I q.ctr) := by rw [cell_of_block hQ 1]; simp
  have y2 : w6.cell? ⟨Q, 2, none⟩ = some (I q.ins) := by rw [cell_of_block hQ 2]; simp
  have y3 : w6.cell? ⟨Q, 3, none⟩ = some (I q.outs) := by rw [cell_of_block hQ 3]; simp
  have y4 : w6.cell? ⟨Q, 4, none⟩ = some (.slice q.pa q.parts.length q.pc) := by rw [cell_of_block hQ 4]; simp
  have y5 : w6.cell? ⟨Q, 5, none⟩ = some (.slice q.la q.lines.length q.lc) := by rw [cell_of_block hQ 5]; simp
  have y6 : w6.cell? ⟨Q, 6, none⟩ = some (.slice q.oa q.ops.length q.oc) := by rw [cell_of_block hQ 6]; simp
  have u0 : w6.cell? ⟨R, 0, none⟩ = some (I r.mem) := by rw [cell_of_block hR 0]; simp
  have u1 : w6.cell? ⟨R, 1, none⟩ = some (I r.ctr) := by rw [cell_of_block hR 1]; simp
  have u2 : w6.cell? ⟨R, 2, none⟩ = some (I r.ins) := by rw [cell_of_block hR 2]; simp
  have u3 : w6.cell? ⟨R, 3, none⟩ = some (I r.outs) := by rw [cell_of_block hR 3]; simp
  have u4 : w6.cell? ⟨R, 4, none⟩ = some (.slice r.pa r.parts.length r.pc) := by rw [cell_of_block hR 4]; simp
  have u5 : w6.cell? ⟨R, 5, none⟩ = some (.slice r.la r.lines.length r.lc) := by rw [cell_of_block hR 5]; simp
  have u6 : w6.cell? ⟨R, 6, none⟩ = some (.slice r.oa r.ops.length r.oc) := by rw [cell_of_block hR 6]; simp
  have HBP := Lib.hid hP
  have HBQ := Lib.hid hQ
  have HBR := Lib.hid hR
  clear hP hQ hR HbP4 HbQ4 HbR4
  obtain ⟨i0, hi0, hz0, hz1, hz2⟩ := info_parts Try.infoInts
  go_wp2_with fail
  go_loopw [9, 10] (fun out i wr => ∃ (k : Nat) (T : List Ent) (aa : Option Addr) (ca : Nat), k ≤ q.parts.length ∧ i = .int .i64 k ∧ out = .slice aa T.length ca ∧ wr.ownsRow w6.heap.size 43 1 (.slice aa T.length ca) T.length (T.map entV) ∧ Hid (T = [] ++ zipE ((q.parts.map partEnt).take k) ((r.parts.map partEnt).take k)) ∧ T.length ≤ 0 + 2 * k ∧ New w6 wr) (fun _ i _ => q.parts.length - (intOf i).toNat)
  case atStart => exact ⟨0, [], none, 0, by omega, rfl, rfl, World.ownsRow_nil _ _ _ _, Lib.hid (by simp [zipE]), by simp, New.refl _⟩
  case round =>
    obtain ⟨k, T, aa, ca, hk, rfl, rfl, hown, HT, hTl, hN⟩ := hrel
    by_cases hk1 : k < q.parts.length
    · have hk2 : k < r.parts.length := by have := HLP.out; have := HLL.out; omega
      obtain ⟨b1, o1, hab1, _, p1⟩ := parts_at (SlAt.of_owns HQO.out.po) hk1
      obtain ⟨b2, o2, hab2, _, p2⟩ := parts_at (SlAt.of_owns HRO.out.po) hk2
      have htk := zipE_succ (q.parts.map partEnt) (r.parts.map partEnt) k (by simpa using hk1) (by simpa using hk2)
      rw [List.getElem_map, List.getElem_map] at htk
      have HTK := Lib.hid htk
      have hk3 : (k : Int) < (q.parts.length : Int) := by omega
      have hk4 : (k : Int) < (r.parts.length : Int) := by omega
      have hk5 : decide (k < q.parts.length) = true := decide_eq_true hk1
      clear htk
      generalize q.parts[k] = x at p1 HTK
      generalize r.parts[k] = y at p2 HTK
      have v4 := y4
      have t4 := u4
      rw [hab1] at v4
      rw [hab2] at t4
      clear hab1 hab2
      have vy := hN.cell v4
      have hZZ := hN.size
      have hQw : Q < wr.heap.size := World.block_lt_of_cell? wr _ vy
      have HNX := Lib.hid hN
      have HOWN := Lib.hid hown
      have hyl : q.parts.length ≤ 96 := by omega
      clear hown
      go_wp2_with fail
      have HSX : ∀ W, New w6 W → (fun w' : World => w'.cell? ⟨Q, 4, none⟩ = some (.slice (some ⟨b1, o1, none⟩) q.parts.length q.pc) ∧ w'.cell? ⟨b1, o1 + k * 2 + 1, none⟩ = some (.slice x.a x.xs.length x.c) ∧ w'.cell? ⟨R, 4, none⟩ = some (.slice (some ⟨b2, o2, none⟩) r.parts.length r.pc) ∧ w'.cell? ⟨b2, o2 + k * 2 + 1, none⟩ = some (.slice y.a y.xs.length y.c)) W := fun W h => ⟨h.cell v4, h.cell p1, h.cell t4, h.cell p2⟩
      have hS0 := HSX _ HNX.out.drew
      refine wp_region_X (fun w' : World => w'.cell? ⟨Q, 4, none⟩ = some (.slice (some ⟨b1, o1, none⟩) q.parts.length q.pc) ∧ w'.cell? ⟨b1, o1 + k * 2 + 1, none⟩ = some (.slice x.a x.xs.length x.c) ∧ w'.cell? ⟨R, 4, none⟩ = some (.slice (some ⟨b2, o2, none⟩) r.parts.length r.pc) ∧ w'.cell? ⟨b2, o2 + k * 2 + 1, none⟩ = some (.slice y.a y.xs.length y.c)) [] (by kernel_rfl) hS0 ?_
      refine anyX_take 0 (by kernel_rfl) (by kernel_rfl) (by kernel_rfl) (by kernel_rfl) (by kernel_rfl) hS0 ?_
      intro oi ho; cases ho
      refine ⟨?_, fun _ _ _ h => h, Or.inl ⟨by rfl, ?_⟩, ?_⟩; rotate_left 1
      · (intro wS hSw; (try dsimp only at hSw); obtain ⟨hz0, hz1, hz2, hz3⟩ := hSw; go_simp; try with_reducible rfl)
      simp only [Act.put, List.setIfInBounds_toArray, List.set_cons_zero, List.set_cons_succ]
      refine anyX_take 1 (by kernel_rfl) (by kernel_rfl) (by kernel_rfl) (by kernel_rfl) (by kernel_rfl) hS0 ?_
      intro oi ho; cases ho
      refine ⟨?_, fun _ _ _ h => h, Or.inl ⟨by rfl, ?_⟩, ?_⟩; rotate_left 1
      · (intro wS hSw; (try dsimp only at hSw); obtain ⟨hz0, hz1, hz2, hz3⟩ := hSw; go_simp; try with_reducible rfl)
      simp only [Act.put, List.setIfInBounds_toArray, List.set_cons_zero, List.set_cons_succ]
      refine anyX_take 2 (by kernel_rfl) (by kernel_rfl) (by kernel_rfl) (by kernel_rfl) (by kernel_rfl) hS0 ?_
      intro oi ho; cases ho
      refine ⟨?_, fun _ _ _ h => h, Or.inl ⟨by rfl, ?_⟩, ?_⟩; rotate_left 1
      · (intro wS hSw; (try dsimp only at hSw); obtain ⟨hz0, hz1, hz2, hz3⟩ := hSw; go_simp; try with_reducible rfl)
      simp only [Act.put, List.setIfInBounds_toArray, List.set_cons_zero, List.set_cons_succ]
      refine anyX_take 3 (by kernel_rfl) (by kernel_rfl) (by kernel_rfl) (by kernel_rfl) (by kernel_rfl) hS0 ?_
      intro oi ho; cases ho
      refine ⟨?_, fun _ _ _ h => h, Or.inl ⟨by rfl, ?_⟩, ?_⟩; rotate_left 1
      · (intro wS hSw; (try dsimp only at hSw); obtain ⟨hz0, hz1, hz2, hz3⟩ := hSw; go_simp; try with_reducible rfl)
      simp only [Act.put, List.setIfInBounds_toArray, List.set_cons_zero, List.set_cons_succ]
      refine anyX_take 4 (by kernel_rfl) (by kernel_rfl) (by kernel_rfl) (by kernel_rfl) (by kernel_rfl) hS0 ?_
      intro oi ho; cases ho
      refine ⟨?_, fun _ _ _ h => h, Or.inl ⟨by rfl, ?_⟩, ?_⟩; rotate_left 1
      · (intro wS hSw; (try dsimp only at hSw); obtain ⟨hz0, hz1, hz2, hz3⟩ := hSw; go_simp; try with_reducible rfl)
      simp only [Act.put, List.setIfInBounds_toArray, List.set_cons_zero, List.set_cons_succ]
      refine anyX_take 5 (by kernel_rfl) (by kernel_rfl) (by kernel_rfl) (by kernel_rfl) (by kernel_rfl) hS0 ?_
      intro oi ho; cases ho
      refine ⟨?_, fun _ _ _ h => h, Or.inl ⟨by rfl, ?_⟩, ?_⟩; rotate_left 1
      · (intro wS hSw; (try dsimp only at hSw); obtain ⟨hz0, hz1, hz2, hz3⟩ := hSw; go_simp; try with_reducible rfl)
      simp only [Act.put, List.setIfInBounds_toArray, List.set_cons_zero, List.set_cons_succ]
      refine anyX_take 6 (by kernel_rfl) (by kernel_rfl) (by kernel_rfl) (by kernel_rfl) (by kernel_rfl) hS0 ?_
      intro oi ho; cases ho
      refine ⟨?_, fun _ _ _ h => h, Or.inl ⟨by rfl, ?_⟩, ?_⟩; rotate_left 1
      · (intro wS hSw; (try dsimp only at hSw); obtain ⟨hz0, hz1, hz2, hz3⟩ := hSw; go_simp; try with_reducible rfl)
      simp only [Act.put, List.setIfInBounds_toArray, List.set_cons_zero, List.set_cons_succ]
      refine anyX_take 7 (by kernel_rfl) (by kernel_rfl) (by kernel_rfl) (by kernel_rfl) (by kernel_rfl) hS0 ?_
      intro oi ho; cases ho
      refine ⟨?_, fun _ _ _ h => h, Or.inl ⟨by rfl, ?_⟩, ?_⟩; rotate_left 1
      · (intro wS hSw; (try dsimp only at hSw); obtain ⟨hz0, hz1, hz2, hz3⟩ := hSw; go_simp; try with_reducible rfl)
      simp only [Act.put, List.setIfInBounds_toArray, List.set_cons_zero, List.set_cons_succ]
      refine anyX_take 8 (by kernel_rfl) (by kernel_rfl) (by kernel_rfl) (by kernel_rfl) (by kernel_rfl) hS0 ?_
      intro oi ho; cases ho
      refine ⟨?_, fun _ _ _ h => h, Or.inl ⟨by rfl, ?_⟩, ?_⟩; rotate_left 1
      · (intro wS hSw; (try dsimp only at hSw); obtain ⟨hz0, hz1, hz2, hz3⟩ := hSw; go_simp; try with_reducible rfl)
      simp only [Act.put, List.setIfInBounds_toArray, List.set_cons_zero, List.set_cons_succ]
      refine anyX_take 9 (by kernel_rfl) (by kernel_rfl) (by kernel_rfl) (by kernel_rfl) (by kernel_rfl) hS0 ?_
      intro oi ho; cases ho
      refine ⟨?_, fun _ _ _ h => h, Or.inl ⟨by rfl, ?_⟩, ?_⟩; rotate_left 1
      · (intro wS hSw; (try dsimp only at hSw); obtain ⟨hz0, hz1, hz2, hz3⟩ := hSw; go_simp; try with_reducible rfl)
      simp only [Act.put, List.setIfInBounds_toArray, List.set_cons_zero, List.set_cons_succ]
      refine anyX_take 10 (by kernel_rfl) (by kernel_rfl) (by kernel_rfl) (by kernel_rfl) (by kernel_rfl) hS0 ?_
      intro oi ho; cases ho
      refine ⟨?_, fun _ _ _ h => h, Or.inl ⟨by rfl, ?_⟩, ?_⟩; rotate_left 1
      · (intro wS hSw; (try dsimp only at hSw); obtain ⟨hz0, hz1, hz2, hz3⟩ := hSw; go_simp; try with_reducible rfl)
      simp only [Act.put, List.setIfInBounds_toArray, List.set_cons_zero, List.set_cons_succ]
      refine anyX_take 11 (by kernel_rfl) (by kernel_rfl) (by kernel_rfl) (by kernel_rfl) (by kernel_rfl) hS0 ?_
      intro oi ho; cases ho
      refine ⟨?_, fun _ _ _ h => h, Or.inl ⟨by rfl, ?_⟩, ?_⟩; rotate_left 1
      · (intro wS hSw; (try dsimp only at hSw); obtain ⟨hz0, hz1, hz2, hz3⟩ := hSw; go_simp; try with_reducible rfl)
      simp only [Act.put, List.setIfInBounds_toArray, List.set_cons_zero, List.set_cons_succ]
      refine anyX_take 12 (by kernel_rfl) (by kernel_rfl) (by kernel_rfl) (by kernel_rfl) (by kernel_rfl) hS0 ?_
      intro oi ho; cases ho
      refine ⟨?_, fun _ _ _ h => h, Or.inl ⟨by rfl, ?_⟩, ?_⟩; rotate_left 1
      · (intro wS hSw; (try dsimp only at hSw); obtain ⟨hz0, hz1, hz2, hz3⟩ := hSw; go_simp; try with_reducible rfl)
      simp only [Act.put, List.setIfInBounds_toArray, List.set_cons_zero, List.set_cons_succ]
      refine anyX_one 13 (by kernel_rfl) ?_
      intro oi ho; cases ho; intro K hK
      (try simp only [Act.put, List.setIfInBounds_toArray, List.set_cons_zero, List.set_cons_succ])
      go_simp
      have hS1 := HSX _ (HNX.out.drew.alloc (.cells #[.slice x.a x.xs.length x.c, .slice y.a y.xs.length y.c] 43))
      refine hK _ _ (fun _ => hS1) ?_
      clear hK K
      refine anyX_one 14 (by kernel_rfl) ?_
      intro oi ho; cases ho; intro K hK
      refine step_app rfl _ _ 41 rfl w6.heap.size 43 i0 (.slice none 0 0) 1 24 Try.underlying41 hi0 hz0 hz1 hz2 rfl (by decide) aa T.length ca (T.map entV) rfl (New.owns (((New.refl wr).drew).alloc (.cells #[.slice x.a x.xs.length x.c, .slice y.a y.xs.length y.c] 43)) HOWN.out) (some ⟨wr.drew.heap.size, 0, none⟩) 2 2 [.slice x.a x.xs.length x.c, .slice y.a y.xs.length y.c] rfl rfl (SlAt.lit wr.drew _ _) (by intro v hv; simp at hv; rcases hv with rfl | rfl <;> rfl) (by unfold maxLen; omega) (by omega) (by simp; omega) ?_
      intro ao' c' wc hown' hk' hmv
      have hnb : ∀ i, blk aa i → w6.heap.size ≤ i := fun i hb => (own_of_blk HOWN.out hb).1
      have HNC := Lib.hid ((HNX.out.drew.alloc (.cells #[.slice x.a x.xs.length x.c, .slice y.a y.xs.length y.c] 43)).keeps hk' (fun i hi hb => by have := hnb _ hb; omega))
      have hS2 := HSX _ HNC.out
      refine hK _ _ (fun _ => hS2) ?_
      clear hK K
      refine anyX_take 15 (by kernel_rfl) (by kernel_rfl) (by kernel_rfl) (by kernel_rfl) (by kernel_rfl) hS2 ?_
      intro oi ho; cases ho
      refine ⟨?_, fun _ _ _ h => h, Or.inl ⟨by rfl, ?_⟩, ?_⟩; rotate_left 1
      · (intro wS hSw; (try dsimp only at hSw); obtain ⟨hz0, hz1, hz2, hz3⟩ := hSw; go_simp; try with_reducible rfl)
      simp only [Act.put, List.setIfInBounds_toArray, List.set_cons_zero, List.set_cons_succ]
      refine anyX_done (by kernel_rfl) ?_
      (try simp only [Act.put, List.setIfInBounds_toArray, List.set_cons_zero, List.set_cons_succ])
      (try simp only [Exit.then])
      clear hS0 hS1 hS2 HSX hk' hmv
      have HOW2 : Hid (wc.ownsRow w6.heap.size 43 1 (.slice ao' (T.length + 2) c') (T.length + 2) (T.map entV ++ [.slice x.a x.xs.length x.c, .slice y.a y.xs.length y.c])) := Lib.hid hown'
      clear hown'
      go_wp2
      go_roundw
      case rel =>
        refine ⟨k + 1, T ++ [partEnt x, partEnt y], ao', c', by omega, by go_num, by simp, by simpa [entV, partEnt] using HOW2.out, Lib.hid ?_, by simp; omega, HNC.out⟩
        rw [HTK.out, HT.out, List.append_assoc]
      case measure => simp [intOf]; omega
    · have hke : k = q.parts.length := by omega
      have hT1 : T = zipE (q.parts.map partEnt) (r.parts.map partEnt) := by
        rw [HT.out, hke, List.nil_append]
        congr 1
        · rw [List.take_of_length_le (by simp)]
        · rw [List.take_of_length_le (by have := HLP.out; simp; omega)]
      have HT1 := Lib.hid hT1
      have hd9 : decide (k < q.parts.length) = false := decide_eq_false hk1
      have vy := hN.cell y4
      have HNX := Lib.hid hN
      have HOWN := Lib.hid hown
      have hTn : T.length ≤ 64 := by omega
      clear hown hN hT1 HT hTl hke hk
      go_wp2_with fail
      obtain ⟨T1, rfl⟩ : ∃ T1, T1 = T := ⟨_, rfl⟩
      obtain ⟨wo, rfl⟩ : ∃ wo, wo = wr := ⟨_, rfl⟩
      go_loopw [9, 11] (fun out i wr => ∃ (k : Nat) (T : List Ent) (aa : Option Addr) (ca : Nat), k ≤ q.lines.length ∧ i = .int .i64 k ∧ out = .slice aa T.length ca ∧ wr.ownsRow w6.heap.size 43 1 (.slice aa T.length ca) T.length (T.map entV) ∧ Hid (T = T1 ++ zipE ((q.lines.map lineEnt).take k) ((r.lines.map lineEnt).take k)) ∧ T.length ≤ 64 + 2 * k ∧ New w6 wr) (fun _ i _ => q.lines.length - (intOf i).toNat)
      case atStart => exact ⟨0, T1, aa, ca, by omega, rfl, rfl, HOWN.out, Lib.hid (by simp [zipE]), by omega, HNX.out⟩
      case round =>
        clear HOWN HNX vy
        obtain ⟨k, T, aa, ca, hk, rfl, rfl, hown, HT, hTl, hN⟩ := hrel
        by_cases hk1 : k < q.lines.length
        · have hk2 : k < r.lines.length := by have := HLP.out; have := HLL.out; omega
          obtain ⟨b1, o1, hab1, _, _, p1⟩ := lines_at (SlAt.of_owns HQO.out.lo) hk1
          obtain ⟨b2, o2, hab2, _, _, p2⟩ := lines_at (SlAt.of_owns HRO.out.lo) hk2
          have htk := zipE_succ (q.lines.map lineEnt) (r.lines.map lineEnt) k (by simpa using hk1) (by simpa using hk2)
          rw [List.getElem_map, List.getElem_map] at htk
          have HTK := Lib.hid htk
          have hk3 : (k : Int) < (q.lines.length : Int) := by omega
          have hk4 : (k : Int) < (r.lines.length : Int) := by omega
          have hk5 : decide (k < q.lines.length) = true := decide_eq_true hk1
          clear htk
          generalize q.lines[k] = x at p1 HTK
          generalize r.lines[k] = y at p2 HTK
          have v5 := y5
          have t5 := u5
          rw [hab1] at v5
          rw [hab2] at t5
          clear hab1 hab2
          have vy := hN.cell v5
          have hZZ := hN.size
          have hQw : Q < wr.heap.size := World.block_lt_of_cell? wr _ vy
          have HNX := Lib.hid hN
          have HOWN := Lib.hid hown
          have hyl : q.lines.length ≤ 96 := by omega
          clear hown
          go_wp2_with fail
          have HSX : ∀ W, New w6 W → (fun w' : World => w'.cell? ⟨Q, 5, none⟩ = some (.slice (some ⟨b1, o1, none⟩) q.lines.length q.lc) ∧ w'.cell? ⟨b1, o1 + k * 3 + 2, none⟩ = some (.slice x.a x.xs.length x.c) ∧ w'.cell? ⟨R, 5, none⟩ = some (.slice (some ⟨b2, o2, none⟩) r.lines.length r.lc) ∧ w'.cell? ⟨b2, o2 + k * 3 + 2, none⟩ = some (.slice y.a y.xs.length y.c)) W := fun W h => ⟨h.cell v5, h.cell p1, h.cell t5, h.cell p2⟩
          have hS0 := HSX _ HNX.out.drew
          refine wp_region_X (fun w' : World => w'.cell? ⟨Q, 5, none⟩ = some (.slice (some ⟨b1, o1, none⟩) q.lines.length q.lc) ∧ w'.cell? ⟨b1, o1 + k * 3 + 2, none⟩ = some (.slice x.a x.xs.length x.c) ∧ w'.cell? ⟨R, 5, none⟩ = some (.slice (some ⟨b2, o2, none⟩) r.lines.length r.lc) ∧ w'.cell? ⟨b2, o2 + k * 3 + 2, none⟩ = some (.slice y.a y.xs.length y.c)) [] (by kernel_rfl) hS0 ?_
          refine anyX_take 0 (by kernel_rfl) (by kernel_rfl) (by kernel_rfl) (by kernel_rfl) (by kernel_rfl) hS0 ?_
          intro oi ho; cases ho
          refine ⟨?_, fun _ _ _ h => h, Or.inl ⟨by rfl, ?_⟩, ?_⟩; rotate_left 1
          · (intro wS hSw; (try dsimp only at hSw); obtain ⟨hz0, hz1, hz2, hz3⟩ := hSw; go_simp; try with_reducible rfl)
          simp only [Act.put, List.setIfInBounds_toArray, List.set_cons_zero, List.set_cons_succ]
          refine anyX_take 1 (by kernel_rfl) (by kernel_rfl) (by kernel_rfl) (by kernel_rfl) (by kernel_rfl) hS0 ?_
          intro oi ho; cases ho
          refine ⟨?_, fun _ _ _ h => h, Or.inl ⟨by rfl, ?_⟩, ?_⟩; rotate_left 1
          · (intro wS hSw; (try dsimp only at hSw); obtain ⟨hz0, hz1, hz2, hz3⟩ := hSw; go_simp; try with_reducible rfl)
          simp only [Act.put, List.setIfInBounds_toArray, List.set_cons_zero, List.set_cons_succ]
          refine anyX_take 2 (by kernel_rfl) (by kernel_rfl) (by kernel_rfl) (by kernel_rfl) (by kernel_rfl) hS0 ?_
          intro oi ho; cases ho
          refine ⟨?_, fun _ _ _ h => h, Or.inl ⟨by rfl, ?_⟩, ?_⟩; rotate_left 1
          · (intro wS hSw; (try dsimp only at hSw); obtain ⟨hz0, hz1, hz2, hz3⟩ := hSw; go_simp; try with_reducible rfl)
          simp only [Act.put, List.setIfInBounds_toArray, List.set_cons_zero, List.set_cons_succ]
          refine anyX_take 3 (by kernel_rfl) (by kernel_rfl) (by kernel_rfl) (by kernel_rfl) (by kernel_rfl) hS0 ?_
          intro oi ho; cases ho
          refine ⟨?_, fun _ _ _ h => h, Or.inl ⟨by rfl, ?_⟩, ?_⟩; rotate_left 1
          · (intro wS hSw; (try dsimp only at hSw); obtain ⟨hz0, hz1, hz2, hz3⟩ := hSw; go_simp; try with_reducible rfl)
          simp only [Act.put, List.setIfInBounds_toArray, List.set_cons_zero, List.set_cons_succ]
          refine anyX_take 4 (by kernel_rfl) (by kernel_rfl) (by kernel_rfl) (by kernel_rfl) (by kernel_rfl) hS0 ?_
          intro oi ho; cases ho
          refine ⟨?_, fun _ _ _ h => h, Or.inl ⟨by rfl, ?_⟩, ?_⟩; rotate_left 1
          · (intro wS hSw; (try dsimp only at hSw); obtain ⟨hz0, hz1, hz2, hz3⟩ := hSw; go_simp; try with_reducible rfl)
          simp only [Act.put, List.setIfInBounds_toArray, List.set_cons_zero, List.set_cons_succ]
          refine anyX_take 5 (by kernel_rfl) (by kernel_rfl) (by kernel_rfl) (by kernel_rfl) (by kernel_rfl) hS0 ?_
          intro oi ho; cases ho
          refine ⟨?_, fun _ _ _ h => h, Or.inl ⟨by rfl, ?_⟩, ?_⟩; rotate_left 1
          · (intro wS hSw; (try dsimp only at hSw); obtain ⟨hz0, hz1, hz2, hz3⟩ := hSw; go_simp; try with_reducible rfl)
          simp only [Act.put, List.setIfInBounds_toArray, List.set_cons_zero, List.set_cons_succ]
          refine anyX_take 6 (by kernel_rfl) (by kernel_rfl) (by kernel_rfl) (by kernel_rfl) (by kernel_rfl) hS0 ?_
          intro oi ho; cases ho
          refine ⟨?_, fun _ _ _ h => h, Or.inl ⟨by rfl, ?_⟩, ?_⟩; rotate_left 1
          · (intro wS hSw; (try dsimp only at hSw); obtain ⟨hz0, hz1, hz2, hz3⟩ := hSw; go_simp; try with_reducible rfl)
          simp only [Act.put, List.setIfInBounds_toArray, List.set_cons_zero, List.set_cons_succ]
          refine anyX_take 7 (by kernel_rfl) (by kernel_rfl) (by kernel_rfl) (by kernel_rfl) (by kernel_rfl) hS0 ?_
          intro oi ho; cases ho
          refine ⟨?_, fun _ _ _ h => h, Or.inl ⟨by rfl, ?_⟩, ?_⟩; rotate_left 1
          · (intro wS hSw; (try dsimp only at hSw); obtain ⟨hz0, hz1, hz2, hz3⟩ := hSw; go_simp; try with_reducible rfl)
          simp only [Act.put, List.setIfInBounds_toArray, List.set_cons_zero, List.set_cons_succ]
          refine anyX_take 8 (by kernel_rfl) (by kernel_rfl) (by kernel_rfl) (by kernel_rfl) (by kernel_rfl) hS0 ?_
          intro oi ho; cases ho
          refine ⟨?_, fun _ _ _ h => h, Or.inl ⟨by rfl, ?_⟩, ?_⟩; rotate_left 1
          · (intro wS hSw; (try dsimp only at hSw); obtain ⟨hz0, hz1, hz2, hz3⟩ := hSw; go_simp; try with_reducible rfl)
          simp only [Act.put, List.setIfInBounds_toArray, List.set_cons_zero, List.set_cons_succ]
          refine anyX_take 9 (by kernel_rfl) (by kernel_rfl) (by kernel_rfl) (by kernel_rfl) (by kernel_rfl) hS0 ?_
          intro oi ho; cases ho
          refine ⟨?_, fun _ _ _ h => h, Or.inl ⟨by rfl, ?_⟩, ?_⟩; rotate_left 1
          · (intro wS hSw; (try dsimp only at hSw); obtain ⟨hz0, hz1, hz2, hz3⟩ := hSw; go_simp; try with_reducible rfl)
          simp only [Act.put, List.setIfInBounds_toArray, List.set_cons_zero, List.set_cons_succ]
          refine anyX_take 10 (by kernel_rfl) (by kernel_rfl) (by kernel_rfl) (by kernel_rfl) (by kernel_rfl) hS0 ?_
          intro oi ho; cases ho
          refine ⟨?_, fun _ _ _ h => h, Or.inl ⟨by rfl, ?_⟩, ?_⟩; rotate_left 1
          · (intro wS hSw; (try dsimp only at hSw); obtain ⟨hz0, hz1, hz2, hz3⟩ := hSw; go_simp; try with_reducible rfl)
          simp only [Act.put, List.setIfInBounds_toArray, List.set_cons_zero, List.set_cons_succ]
          refine anyX_take 11 (by kernel_rfl) (by kernel_rfl) (by kernel_rfl) (by kernel_rfl) (by kernel_rfl) hS0 ?_
          intro oi ho; cases ho
          refine ⟨?_, fun _ _ _ h => h, Or.inl ⟨by rfl, ?_⟩, ?_⟩; rotate_left 1
          · (intro wS hSw; (try dsimp only at hSw); obtain ⟨hz0, hz1, hz2, hz3⟩ := hSw; go_simp; try with_reducible rfl)
          simp only [Act.put, List.setIfInBounds_toArray, List.set_cons_zero, List.set_cons_succ]
          refine anyX_take 12 (by kernel_rfl) (by kernel_rfl) (by kernel_rfl) (by kernel_rfl) (by kernel_rfl) hS0 ?_
          intro oi ho; cases ho
          refine ⟨?_, fun _ _ _ h => h, Or.inl ⟨by rfl, ?_⟩, ?_⟩; rotate_left 1
          · (intro wS hSw; (try dsimp only at hSw); obtain ⟨hz0, hz1, hz2, hz3⟩ := hSw; go_simp; try with_reducible rfl)
          simp only [Act.put, List.setIfInBounds_toArray, List.set_cons_zero, List.set_cons_succ]
          refine anyX_one 13 (by kernel_rfl) ?_
          intro oi ho; cases ho; intro K hK
          (try simp only [Act.put, List.setIfInBounds_toArray, List.set_cons_zero, List.set_cons_succ])
          go_simp
          have hS1 := HSX _ (HNX.out.drew.alloc (.cells #[.slice x.a x.xs.length x.c, .slice y.a y.xs.length y.c] 43))
          refine hK _ _ (fun _ => hS1) ?_
          clear hK K
          refine anyX_one 14 (by kernel_rfl) ?_
          intro oi ho; cases ho; intro K hK
          refine step_app rfl _ _ 41 rfl w6.heap.size 43 i0 (.slice none 0 0) 1 24 Try.underlying41 hi0 hz0 hz1 hz2 rfl (by decide) aa T.length ca (T.map entV) rfl (New.owns (((New.refl wr).drew).alloc (.cells #[.slice x.a x.xs.length x.c, .slice y.a y.xs.length y.c] 43)) HOWN.out) (some ⟨wr.drew.heap.size, 0, none⟩) 2 2 [.slice x.a x.xs.length x.c, .slice y.a y.xs.length y.c] rfl rfl (SlAt.lit wr.drew _ _) (by intro v hv; simp at hv; rcases hv with rfl | rfl <;> rfl) (by unfold maxLen; omega) (by omega) (by simp; omega) ?_
          intro ao' c' wc hown' hk' hmv
          have hnb : ∀ i, blk aa i → w6.heap.size ≤ i := fun i hb => (own_of_blk HOWN.out hb).1
          have HNC := Lib.hid ((HNX.out.drew.alloc (.cells #[.slice x.a x.xs.length x.c, .slice y.a y.xs.length y.c] 43)).keeps hk' (fun i hi hb => by have := hnb _ hb; omega))
          have hS2 := HSX _ HNC.out
          refine hK _ _ (fun _ => hS2) ?_
          clear hK K
          refine anyX_take 15 (by kernel_rfl) (by kernel_rfl) (by kernel_rfl) (by kernel_rfl) (by kernel_rfl) hS2 ?_
          intro oi ho; cases ho
          refine ⟨?_, fun _ _ _ h => h, Or.inl ⟨by rfl, ?_⟩, ?_⟩; rotate_left 1
          · (intro wS hSw; (try dsimp only at hSw); obtain ⟨hz0, hz1, hz2, hz3⟩ := hSw; go_simp; try with_reducible rfl)
          simp only [Act.put, List.setIfInBounds_toArray, List.set_cons_zero, List.set_cons_succ]
          refine anyX_done (by kernel_rfl) ?_
          (try simp only [Act.put, List.setIfInBounds_toArray, List.set_cons_zero, List.set_cons_succ])
          (try simp only [Exit.then])
          clear hS0 hS1 hS2 HSX hk' hmv
          have HOW2 : Hid (wc.ownsRow w6.heap.size 43 1 (.slice ao' (T.length + 2) c') (T.length + 2) (T.map entV ++ [.slice x.a x.xs.length x.c, .slice y.a y.xs.length y.c])) := Lib.hid hown'
          clear hown'
          go_wp2
          go_roundw
          case rel =>
            refine ⟨k + 1, T ++ [lineEnt x, lineEnt y], ao', c', by omega, by go_num, by simp, by simpa [entV, lineEnt] using HOW2.out, Lib.hid ?_, by simp; omega, HNC.out⟩
            rw [HTK.out, HT.out, List.append_assoc]
          case measure => simp [intOf]; omega
        · have hke : k = q.lines.length := by omega
          have hT2 : T = zipE (q.parts.map partEnt) (r.parts.map partEnt) ++ zipE (q.lines.map lineEnt) (r.lines.map lineEnt) := by
            rw [HT.out, hke, HT1.out]
            congr 2
            · rw [List.take_of_length_le (by simp)]
            · rw [List.take_of_length_le (by have := HLL.out; simp; omega)]
          have HTA := Lib.hid hT2
          have hd9 : decide (k < q.lines.length) = false := decide_eq_false hk1
          have vy := hN.cell y5
          have HNX := Lib.hid hN
          have HOWN := Lib.hid hown
          have hTm : T.length ≤ 1000 := by omega
          clear hown hN hT2 HT hTl hke hk HT1 hTn
          go_wp2_with fail
          have hents := HAL.out wr HNX.out
          have hlow : ∀ t ∈ T, OwnI wr w.heap.size t.a t.c t.xs := fun t ht => (hents t (by rw [← HTA.out]; exact ht)).1
          have hoff : ∀ t ∈ T, ∀ k, blk t.a k → k < w6.heap.size := fun t ht k hb => (own_of_blk ((HAL.out w6 (New.refl _)) t (by rw [← HTA.out]; exact ht)).1 hb).2
          have hw6 := HN6.out.size
          have hw7 := HNX.out.size
          refine (apart_rows wr aa ca w.heap.size w6.heap.size T HOWN.out hlow (by rw [HTA.out]; exact HTP.out) hoff (by omega) hTm (fun t ht => (hents t (by rw [← HTA.out]; exact ht)).2)).mono ?_
          rintro e w7 ⟨rfl, K7⟩
          have tg : ∀ {U : TypeId → Prop}, U 3 → Tagged (fun k => ∃ t ∈ T, blk t.a k) wr U := fun hU => tagged_ents hlow hU
          have hP := heap_other (Keeps.heap HNX.out HBP.out (fun h => h)) K7 (tg (by decide))
          have hQ := heap_other (Keeps.heap HNX.out HBQ.out (fun h => h)) K7 (tg (by decide))
          have hR := heap_other (Keeps.heap HNX.out HBR.out (fun h => h)) K7 (tg (by decide))
          have poo := Lib.hid (own_other (HPO.out.keeps HNX.out (fun _ _ h => h)).oo.row K7 (tg (by decide)))
          have plo := Lib.hid (own_other (HPO.out.keeps HNX.out (fun _ _ h => h)).lo.row K7 (tg (by decide)))
          have qoo := Lib.hid (own_other (HQO.out.new HNX.out).oo K7 (tg (by decide)))
          have qlo := Lib.hid (own_other (HQO.out.new HNX.out).lo K7 (tg (by decide)))
          have roo := Lib.hid (own_other (HRO.out.new HNX.out).oo K7 (tg (by decide)))
          have rlo := Lib.hid (own_other (HRO.out.new HNX.out).lo K7 (tg (by decide)))
          have HN7 := Lib.hid ((HN6.out.trans HNX.out).keeps K7 (fun i hi hs => by
            obtain ⟨t, ht, hb⟩ := hs
            have := (own_of_blk (hlow t ht) hb).1
            omega))
          clear hents hlow hoff tg K7 HNX HOWN HPO HQO HRO HAL HTA HTP HN6 hw6 hw7 vy y0 y1 y2 y3 y4 y5 y6 u0 u1 u2 u3 u4 u5 u6 HBP HBQ HBR hTm
          have y0 : w7.cell? ⟨Q, 0, none⟩ = some (I q.mem) := by rw [cell_of_block hQ 0]; simp
          have y1 : w7.cell? ⟨Q, 1, none⟩ = some (I q.ctr) := by rw [cell_of_block hQ 1]; simp
          have y2 : w7.cell? ⟨Q, 2, none⟩ = some (I q.ins) := by rw [cell_of_block hQ 2]; simp
          have y3 : w7.cell? ⟨Q, 3, none⟩ = some (I q.outs) := by rw [cell_of_block hQ 3]; simp
          have y4 : w7.cell? ⟨Q, 4, none⟩ = some (.slice q.pa q.parts.length q.pc) := by rw [cell_of_block hQ 4]; simp
          have y5 : w7.cell? ⟨Q, 5, none⟩ = some (.slice q.la q.lines.length q.lc) := by rw [cell_of_block hQ 5]; simp
          have y6 : w7.cell? ⟨Q, 6, none⟩ = some (.slice q.oa q.ops.length q.oc) := by rw [cell_of_block hQ 6]; simp
          have HBP := Lib.hid hP
          have HBQ := Lib.hid hQ
          have HBR := Lib.hid hR
          clear hP hQ hR
          go_wp2_with fail
          go_loopw [13] (fun i wr => ∃ (k : Nat) (xs : List Value), k ≤ q.ops.length ∧ i = .int .i64 k ∧ wr.ownsRow wA.heap.size 53 3 (.slice q.oa q.ops.length q.oc) q.ops.length xs ∧ Keeps (blk q.oa) w7 wr) (fun i _ => q.ops.length - (intOf i).toNat)
          case atStart => exact ⟨0, _, by omega, rfl, qoo.out, Keeps.refl _ _⟩
          case round =>
            obtain ⟨k, xs, hk, rfl, hown, hkr⟩ := hrel
            have hQ := heap_other HBQ.out hkr (Tagged.own qoo.out (by decide))
            have vy : wr.cell? ⟨Q, 6, none⟩ = some (.slice q.oa q.ops.length q.oc) := by rw [cell_of_block hQ 6]; simp
            clear hQ
            by_cases hk1 : k < q.ops.length
            · obtain ⟨g, hga, hgB⟩ := own_addr2 hown (by omega)
              have hk3 : (k : Int) < (q.ops.length : Int) := by omega
              have hk5 : decide (k < q.ops.length) = true := decide_eq_true hk1
              have HKR := Lib.hid hkr
              have HGA := Lib.hid hga
              have hyl := own_len hown
              rw [hga] at hown vy
              clear hkr hga
              obtain ⟨o0, c0⟩ := own_get hown (j := k * 3) (by omega)
              have z0 := hown.frozenAt (k * 3)
              obtain ⟨o1, c1⟩ := own_get hown (j := k * 3 + 1) (by omega)
              have z1 := hown.frozenAt (k * 3 + 1)
              obtain ⟨o2, c2⟩ := own_get hown (j := k * 3 + 2) (by omega)
              have z2 := hown.frozenAt (k * 3 + 2)
              have HST := Lib.hid ((((((hown.stored (k * 3) (.int .u8 0)).1).stored (k * 3 + 1) (I (-1))).1).stored (k * 3 + 2) (I (-1))).1)
              have HKS := Lib.hid (((HKR.out.trans (Keeps.setCell (S := blk q.oa) _ ⟨g, k * 3, none⟩ (.int .u8 0) ⟨_, HGA.out, rfl⟩) (fun _ _ h => h)).trans (Keeps.setCell (S := blk q.oa) _ ⟨g, k * 3 + 1, none⟩ (I (-1)) ⟨_, HGA.out, rfl⟩) (fun _ _ h => h)).trans (Keeps.setCell (S := blk q.oa) _ ⟨g, k * 3 + 2, none⟩ (I (-1)) ⟨_, HGA.out, rfl⟩) (fun _ _ h => h))
              have hgw : g < wr.heap.size := World.block_lt_of_cell? wr _ c0
              have hQw : Q < wr.heap.size := World.block_lt_of_cell? wr _ vy
              clear hown HKR
              go_wp2_with fail
              go_roundw
              case rel => exact ⟨k + 1, _, by omega, by go_num, by rw [HGA.out]; exact HST.out, HKS.out⟩
              case measure => simp [intOf]; omega
            · have hd9 : decide (k < q.ops.length) = false := decide_eq_false hk1
              have tg : ∀ {U : TypeId → Prop}, U 53 → Tagged (blk q.oa) w7 U := fun hU => Tagged.own qoo.out hU
              obtain ⟨D1, D2, D3, D4⟩ := HD.out
              have hP := heap_other HBP.out hkr (tg (by decide))
              have hQ := heap_other HBQ.out hkr (tg (by decide))
              have hR := heap_other HBR.out hkr (tg (by decide))
              replace poo := Lib.hid (hkr.owns poo.out (fun i hi h => D1 i (blk_of_own hi) h))
              replace roo := Lib.hid (hkr.owns roo.out (fun i hi h => D2 i (blk_of_own hi) h))
              replace plo := Lib.hid (own_other plo.out hkr (tg (by decide)))
              replace qlo := Lib.hid (own_other qlo.out hkr (tg (by decide)))
              replace rlo := Lib.hid (own_other rlo.out hkr (tg (by decide)))
              replace HN7 := Lib.hid (HN7.out.keeps hkr (fun i hi hb => by have := HE.out.1 i hb; omega))
              clear qoo HBP HBQ HBR tg hkr hown D1 D2 D3 D4 hk y0 y1 y2 y3 y4 y5 y6
              have HBP := Lib.hid hP
              have HBQ := Lib.hid hQ
              have HBR := Lib.hid hR
              clear hP hQ hR
              go_wp2_with fail
              clear vy
              obtain ⟨w8, rfl⟩ : ∃ w8, w8 = wr := ⟨_, rfl⟩
              go_loopw [14] (fun i wr => ∃ (k : Nat) (xs : List Value), k ≤ q.lines.length ∧ i = .int .i64 k ∧ wr.ownsRow wA.heap.size 49 3 (.slice q.la q.lines.length q.lc) q.lines.length xs ∧ Keeps (blk q.la) w8 wr) (fun i _ => q.lines.length - (intOf i).toNat)
              case atStart => exact ⟨0, _, by omega, rfl, qlo.out, Keeps.refl _ _⟩
              case round =>
                obtain ⟨k, xs, hk, rfl, hown, hkr⟩ := hrel
                have hQ := heap_other HBQ.out hkr (Tagged.own qlo.out (by decide))
                have vy : wr.cell? ⟨Q, 5, none⟩ = some (.slice q.la q.lines.length q.lc) := by rw [cell_of_block hQ 5]; simp
                clear hQ
                by_cases hk1 : k < q.lines.length
                · obtain ⟨g, hga, hgB⟩ := own_addr2 hown (by omega)
                  have hk3 : (k : Int) < (q.lines.length : Int) := by omega
                  have hk5 : decide (k < q.lines.length) = true := decide_eq_true hk1
                  have HKR := Lib.hid hkr
                  have HGA := Lib.hid hga
                  have hyl := own_len hown
                  rw [hga] at hown vy
                  clear hkr hga
                  obtain ⟨o0, c0⟩ := own_get hown (j := k * 3) (by omega)
                  have z0 := hown.frozenAt (k * 3)
                  obtain ⟨o1, c1⟩ := own_get hown (j := k * 3 + 1) (by omega)
                  have z1 := hown.frozenAt (k * 3 + 1)
                  have HST := Lib.hid ((((hown.stored (k * 3) (I (-1))).1).stored (k * 3 + 1) (I (-1))).1)
                  have HKS := Lib.hid ((HKR.out.trans (Keeps.setCell (S := blk q.la) _ ⟨g, k * 3, none⟩ (I (-1)) ⟨_, HGA.out, rfl⟩) (fun _ _ h => h)).trans (Keeps.setCell (S := blk q.la) _ ⟨g, k * 3 + 1, none⟩ (I (-1)) ⟨_, HGA.out, rfl⟩) (fun _ _ h => h))
                  have hgw : g < wr.heap.size := World.block_lt_of_cell? wr _ c0
                  have hQw : Q < wr.heap.size := World.block_lt_of_cell? wr _ vy
                  clear hown HKR
                  go_wp2_with fail
                  go_roundw
                  case rel => exact ⟨k + 1, _, by omega, by go_num, by rw [HGA.out]; exact HST.out, HKS.out⟩
                  case measure => simp [intOf]; omega
                · have hd9 : decide (k < q.lines.length) = false := decide_eq_false hk1
                  have tg : ∀ {U : TypeId → Prop}, U 49 → Tagged (blk q.la) w8 U := fun hU => Tagged.own qlo.out hU
                  obtain ⟨D1, D2, D3, D4⟩ := HD.out
                  have hP := heap_other HBP.out hkr (tg (by decide))
                  have hR := heap_other HBR.out hkr (tg (by decide))
                  replace plo := Lib.hid (hkr.owns plo.out (fun i hi h => D3 i (blk_of_own hi) h))
                  replace rlo := Lib.hid (hkr.owns rlo.out (fun i hi h => D4 i (blk_of_own hi) h))
                  replace poo := Lib.hid (own_other poo.out hkr (tg (by decide)))
                  replace roo := Lib.hid (own_other roo.out hkr (tg (by decide)))
                  replace HN7 := Lib.hid (HN7.out.keeps hkr (fun i hi hb => by have := HE.out.2 i hb; omega))
                  clear qlo HBP HBQ HBR tg hkr hown D1 D2 D3 D4 hk
                  have x0 : wr.cell? ⟨P, 0, none⟩ = some (I p.mem) := by rw [cell_of_block hP 0]; simp
                  have x1 : wr.cell? ⟨P, 1, none⟩ = some (I p.ctr) := by rw [cell_of_block hP 1]; simp
                  have x2 : wr.cell? ⟨P, 2, none⟩ = some (I p.ins) := by rw [cell_of_block hP 2]; simp
                  have x3 : wr.cell? ⟨P, 3, none⟩ = some (I p.outs) := by rw [cell_of_block hP 3]; simp
                  have x4 : wr.cell? ⟨P, 4, none⟩ = some (.slice p.pa p.parts.length p.pc) := by rw [cell_of_block hP 4]; simp
                  have x5 : wr.cell? ⟨P, 5, none⟩ = some (.slice p.la p.lines.length p.lc) := by rw [cell_of_block hP 5]; simp
                  have x6 : wr.cell? ⟨P, 6, none⟩ = some (.slice p.oa p.ops.length p.oc) := by rw [cell_of_block hP 6]; simp
                  have u0 : wr.cell? ⟨R, 0, none⟩ = some (I r.mem) := by rw [cell_of_block hR 0]; simp
                  have u1 : wr.cell? ⟨R, 1, none⟩ = some (I r.ctr) := by rw [cell_of_block hR 1]; simp
                  have u2 : wr.cell? ⟨R, 2, none⟩ = some (I r.ins) := by rw [cell_of_block hR 2]; simp
                  have u3 : wr.cell? ⟨R, 3, none⟩ = some (I r.outs) := by rw [cell_of_block hR 3]; simp
                  have u4 : wr.cell? ⟨R, 4, none⟩ = some (.slice r.pa r.parts.length r.pc) := by rw [cell_of_block hR 4]; simp
                  have u5 : wr.cell? ⟨R, 5, none⟩ = some (.slice r.la r.lines.length r.lc) := by rw [cell_of_block hR 5]; simp
                  have u6 : wr.cell? ⟨R, 6, none⟩ = some (.slice r.oa r.ops.length r.oc) := by rw [cell_of_block hR 6]; simp
                  rw [HLPL.out] at u5
                  rw [HOPS.out] at u6
                  clear hP hR
                  have hyl := own_len plo.out
                  have hol := own_len poo.out
                  have hps := SlAt.of_owns plo.out
                  have hrs := SlAt.of_owns rlo.out
                  have hpo := SlAt.of_owns poo.out
                  have hro := SlAt.of_owns roo.out
                  rw [HOPS.out] at hro
                  clear plo rlo poo roo
                  go_wp2_with fail
                  clear vy
                  obtain ⟨w9, rfl⟩ : ∃ w9, w9 = wr := ⟨_, rfl⟩
                  go_loopw [15] (fun i wr => ∃ k : Nat, k ≤ p.lines.length ∧ i = .int .i64 k ∧ New w9 wr) (fun i _ => p.lines.length - (intOf i).toNat)
                  case atStart => exact ⟨0, by omega, rfl, New.refl _⟩
                  case round =>
                    obtain ⟨k, hk, rfl, hN⟩ := hrel
                    have vx := hN.cell x5
                    have vu := hN.cell u5
                    by_cases hk1 : k < p.lines.length
                    · have hk2 : k < r.lines.length := by have := HLPL.out; omega
                      obtain ⟨eb, es⟩ := HRL.out k hk2 hk1
                      obtain ⟨b1, o1, ha1, p0, p1, _⟩ := lines_at (hps.new hN) hk1
                      obtain ⟨b2, o2, ha2, q0, q1, _⟩ := lines_at (hrs.new hN) hk2
                      rw [eb] at q0
                      rw [es] at q1
                      rw [ha1] at vx
                      rw [ha2] at vu
                      clear eb es ha1 ha2
                      have hk3 : (k : Int) < (p.lines.length : Int) := by omega
                      have hk5 : decide (k < p.lines.length) = true := decide_eq_true hk1
                      generalize p.lines[k] = x at p0 p1 q0 q1
                      have HNX := Lib.hid hN
                      clear hN
                      go_wp2_with fail
                      go_quiet (fail)
                      go_wp2_with fail
                      go_roundw
                      case rel => exact ⟨k + 1, by omega, by go_num, by first | exact HNX.out | exact HNX.out.drewN _⟩
                      case measure => simp [intOf]; omega
                    · have hd9 : decide (k < p.lines.length) = false := decide_eq_false hk1
                      have t6 := hN.cell u6
                      have s6 := hN.cell x6
                      have HNX := Lib.hid hN
                      clear hN hk
                      go_wp2_with fail
                      refine (sameOps_yes wr p.oa r.oa p.oc r.oc p.ops (hpo.new HNX.out) (hro.new HNX.out) hol).mono ?_
                      rintro e wx ⟨rfl, kx⟩
                      go_wp2_with fail
                      refine (HAW _).mono ?_
                      rintro e wy ⟨rfl, ky⟩
                      go_wp2_with fail
                      go_ret
                      exact ⟨rfl, ((HN7.out.trans HNX.out).trans kx).trans ky⟩
end Go.Proofs.Ytfmpjbiaamkobaa
