/-
  Layer 20: the document's copy of a program.
-/
import Derived.Test.YtfmpjbiaamkobaaCodeT2
namespace Go.Proofs.Ytfmpjbiaamkobaa
open Go Go.RowKit Go.Joins
set_option linter.all false

/-- Small enough to be copied. -/
structure Room (p : Pg) : Prop where
  np : p.parts.length * 32 ≤ 140737488351232
  nl : p.lines.length * 40 ≤ 140737488351232
  no : p.ops.length * 24 ≤ 140737488351232
  px : ∀ x ∈ p.parts, x.xs.length * 8 ≤ 140737488351232
  lx : ∀ x ∈ p.lines, x.xs.length * 8 ≤ 140737488351232

theorem BuildA.allOps {w1 w2 w3 : World} {B P : Nat} {p : Pg} (h : BuildA w1 B P p) (l : List OpD) (k12 : New w1 w2)
    {a' : Option Addr} {c' : Nat} (ho : w3.ownsRow B 53 3 (.slice a' (p.ops.length + l.length) c') (p.ops.length + l.length) (p.ops.flatMap opCells ++ l.flatMap opCells)) (hk : Keeps (blk p.oa) w2 w3) (hm : Moved w2 p.oa a') :
    (w3.cell? ⟨P, 6, none⟩ = some (.slice p.oa p.ops.length p.oc) ∧ w3.frozen? ⟨P, 6, none⟩ = false) ∧
    BuildA (w3.setCell ⟨P, 6, none⟩ (.slice a' (p.ops.length + l.length) c')) B P { p with oa := a', oc := c', ops := p.ops ++ l } ∧ Keeps (fun k => k = P ∨ blk p.oa k) w1 (w3.setCell ⟨P, 6, none⟩ (.slice a' (p.ops.length + l.length) c')) := by
  have h2 := h.new k12
  have htag : Tagged (blk p.oa) w2 (fun t => t = 53) := Tagged.own h2.own.oo rfl
  have hto : ∀ {U : TypeId → Prop}, U 53 → Tagged (blk p.oa) w2 U := fun hU g hg => by
    obtain ⟨c, e, fr, q1, q2⟩ := htag g hg
    exact ⟨c, e, fr, q1, q2 ▸ hU⟩
  have hnb : ∀ {g : Nat} {cs : Array Value} {t : TypeId} {fr : Nat × Nat}, w2.heap[g]? = some (.cells cs t fr) → t ≠ 53 → ¬ blk p.oa g := fun hg hne hb => by
    obtain ⟨c, e, fr, q1, q2⟩ := htag _ hb
    rw [hg] at q1; cases q1; exact hne q2
  have hP3 := hk.heap h2.blkP (hnb h2.blkP (by decide))
  have hP4 := block_setCell (i := 6) hP3 (.slice a' (p.ops.length + l.length) c')
  have hks : Keeps (fun k => k = P) w3 (w3.setCell ⟨P, 6, none⟩ (.slice a' (p.ops.length + l.length) c')) := Keeps.setCell w3 _ _ rfl
  have hkk : Keeps (fun k => k = P ∨ blk p.oa k) w1 (w3.setCell ⟨P, 6, none⟩ (.slice a' (p.ops.length + l.length) c')) :=
    ((Keeps.mono k12 (fun _ _ h => h.elim)).trans hk (fun i _ hb => .inr hb)).trans hks (fun i _ hb => .inl hb)
  have htP : ∀ {U : TypeId → Prop}, U 26 → Tagged (fun k => k = P) w3 U := fun hU => Tagged.block hP3 hU
  have hmv : ∀ k, blk a' k → blk p.oa k ∨ w2.heap.size ≤ k := by
    intro k hb
    rcases hm with rfl | ⟨g, rfl, hg⟩
    · exact .inl hb
    · obtain ⟨y, hy, rfl⟩ := hb; cases hy; exact .inr hg
  refine ⟨⟨?_, unfrozen_of_block hP3 6⟩, ⟨?_, ⟨?_, ?_, ?_, ?_, ?_, ?_⟩⟩, hkk⟩
  · rw [cell_of_block hP3 6]; simp
  · rw [hP4]; simp
  · have := own_other ho hks (htP (by decide))
    simpa using this
  · exact own_other (own_other h2.own.po hk (hto (by decide))) hks (htP (by decide))
  · exact own_other (own_other h2.own.lo hk (hto (by decide))) hks (htP (by decide))
  · exact fun y hy => own_other (own_other (h2.own.px y hy) hk (hto (by decide))) hks (htP (by decide))
  · exact fun y hy => own_other (own_other (h2.own.lx y hy) hk (hto (by decide))) hks (htP (by decide))
  · exact h.own.ap
theorem bare_eq {q : Pg} {m c i o : Int} {ps : List PartD} {ls : List LineD} {os : List OpD} : q.bare = (⟨m, c, i, o, none, 0, ps, none, 0, ls, none, 0, os⟩ : Pg) ↔ q.mem = m ∧ q.ctr = c ∧ q.ins = i ∧ q.outs = o ∧ q.parts.map PartD.bare = ps ∧ q.lines.map LineD.bare = ls ∧ q.ops = os := by
  unfold Pg.bare
  simp only [Pg.mk.injEq, true_and]

set_option maxRecDepth 100000 in
set_option maxHeartbeats 2000000 in
theorem rInts_any (ao : Option Addr) (c : Nat) (xs : List Int) (w : World) (hx : SlAt w ao (Is xs)) (hn : xs.length * 8 ≤ 140737488351232) :
    Calls Try.prog 25 #[.slice ao xs.length c] w fun e w' => ∃ ao' c', e = .returned (.slice ao' xs.length c') ∧ OwnI w' w.heap.size ao' c' xs ∧ New w w' := by
  obtain ⟨i0, hi, hz0, hz1, hz2⟩ := info_parts Try.infoInt
  go_enter Try.func25, Try.ntmps25
  go_wp2_with (at_builtin; refine wpList_app rfl _ _ 43 rfl w.heap.size 3 i0 (.int .i64 0) 1 8 Try.underlying43 hi hz0 hz1 hz2 rfl (by decide) none 0 0 [] rfl (World.ownsRow_nil _ _ _ _) ao xs.length c (Is xs) rfl (by simp) hx (oneCell_ints _ _) (by unfold maxLen; omega) (by omega) (Nat.le_refl _) ?_)
  intro ao' c' w' hown' hk' hmv _
  go_wp2
  go_ret
  exact ⟨ao', c', by simp, by unfold OwnI; simpa using hown', (New.refl w).keeps hk' (fun i hi ⟨a, ha, hb⟩ => by cases ha)⟩
set_option maxRecDepth 100000 in
set_option maxHeartbeats 16000000 in
theorem rcopy_any (w : World) (p : Pg) (hp : PgAt w p) (hr : Room p) :
    Calls Try.prog 12 #[p.v] w fun e w' => ∃ q : Pg, q.bare = p.bare ∧ e = .returned q.v ∧ PgOwn w' w.heap.size q ∧ New w w' := by
  obtain ⟨ip, hip, hzp0, hzp1, hzp2⟩ := info_parts Try.infoPart
  obtain ⟨il, hil, hzl0, hzl1, hzl2⟩ := info_parts Try.infoLine
  obtain ⟨io, hio, hzo0, hzo1, hzo2⟩ := info_parts Try.infoOp
  have hpo := hp.po
  have hpp := hp.pp
  have hpl := hp.pl
  have HPX := Lib.hid hp.px
  have HLX := Lib.hid hp.lx
  have HRX := Lib.hid hr.px
  have HSX := Lib.hid hr.lx
  have np := hr.np
  have nl := hr.nl
  have no := hr.no
  clear hp hr
  obtain ⟨pmem, pctr, pins, pouts, ppa, ppc, pparts, pla, plc, plines, poa, poc, pops⟩ := p
  simp only at *
  simp only [Pg.v, Pg.cs]
  go_enter Try.func12, Try.ntmps12
  go_wp2_with fail
  have e1 : (w.alloc (.cells #[I pmem, I pctr, I pins, I pouts, .slice ppa pparts.length ppc, .slice pla plines.length plc, .slice poa pops.length poc] 26)).heap.size = w.heap.size + 1 := by simp
  have e2 : ((w.alloc (.cells #[I pmem, I pctr, I pins, I pouts, .slice ppa pparts.length ppc, .slice pla plines.length plc, .slice poa pops.length poc] 26)).alloc (.cells #[I 0, I 0, I 0, I 0, .slice none 0 0, .slice none 0 0, .slice none 0 0] 26)).heap.size = w.heap.size + 1 + 1 := by simp
  have hbx : (((w.alloc (.cells #[I pmem, I pctr, I pins, I pouts, .slice ppa pparts.length ppc, .slice pla plines.length plc, .slice poa pops.length poc] 26)).alloc (.cells #[I 0, I 0, I 0, I 0, .slice none 0 0, .slice none 0 0, .slice none 0 0] 26)).alloc (.cells #[I pmem, I pctr, I pins, I pouts, .slice none 0 0, .slice none 0 0, .slice none 0 0] 26)).heap[w.heap.size]? = some (.cells #[I pmem, I pctr, I pins, I pouts, .slice ppa pparts.length ppc, .slice pla plines.length plc, .slice poa pops.length poc] 26 (0, 0)) := Keeps.heap (S := fun _ => False) (Keeps.alloc _ _) (Keeps.heap (S := fun _ => False) (Keeps.alloc _ _) (heap_alloc_new w _) (fun h => h)) (fun h => h)
  have hR : (((w.alloc (.cells #[I pmem, I pctr, I pins, I pouts, .slice ppa pparts.length ppc, .slice pla plines.length plc, .slice poa pops.length poc] 26)).alloc (.cells #[I 0, I 0, I 0, I 0, .slice none 0 0, .slice none 0 0, .slice none 0 0] 26)).alloc (.cells #[I pmem, I pctr, I pins, I pouts, .slice none 0 0, .slice none 0 0, .slice none 0 0] 26)).heap[w.heap.size + 1]? = some (.cells #[I 0, I 0, I 0, I 0, .slice none 0 0, .slice none 0 0, .slice none 0 0] 26 (0, 0)) := Keeps.heap (S := fun _ => False) (Keeps.alloc _ _) (by
    have h := heap_alloc_new (w.alloc (.cells #[I pmem, I pctr, I pins, I pouts, .slice ppa pparts.length ppc, .slice pla plines.length plc, .slice poa pops.length poc] 26)) (.cells #[I 0, I 0, I 0, I 0, .slice none 0 0, .slice none 0 0, .slice none 0 0] 26)
    rw [e1] at h; exact h) (fun h => h)
  have hPb : (((w.alloc (.cells #[I pmem, I pctr, I pins, I pouts, .slice ppa pparts.length ppc, .slice pla plines.length plc, .slice poa pops.length poc] 26)).alloc (.cells #[I 0, I 0, I 0, I 0, .slice none 0 0, .slice none 0 0, .slice none 0 0] 26)).alloc (.cells #[I pmem, I pctr, I pins, I pouts, .slice none 0 0, .slice none 0 0, .slice none 0 0] 26)).heap[w.heap.size + 1 + 1]? = some (.cells #[I pmem, I pctr, I pins, I pouts, .slice none 0 0, .slice none 0 0, .slice none 0 0] 26 (0, 0)) := by
    have h := heap_alloc_new ((w.alloc (.cells #[I pmem, I pctr, I pins, I pouts, .slice ppa pparts.length ppc, .slice pla plines.length plc, .slice poa pops.length poc] 26)).alloc (.cells #[I 0, I 0, I 0, I 0, .slice none 0 0, .slice none 0 0, .slice none 0 0] 26)) (.cells #[I pmem, I pctr, I pins, I pouts, .slice none 0 0, .slice none 0 0, .slice none 0 0] 26)
    rw [e2] at h; exact h
  have hN0 : New w (((w.alloc (.cells #[I pmem, I pctr, I pins, I pouts, .slice ppa pparts.length ppc, .slice pla plines.length plc, .slice poa pops.length poc] 26)).alloc (.cells #[I 0, I 0, I 0, I 0, .slice none 0 0, .slice none 0 0, .slice none 0 0] 26)).alloc (.cells #[I pmem, I pctr, I pins, I pouts, .slice none 0 0, .slice none 0 0, .slice none 0 0] 26)) := (((New.refl w).alloc _).alloc _).alloc _
  have hZ : (((w.alloc (.cells #[I pmem, I pctr, I pins, I pouts, .slice ppa pparts.length ppc, .slice pla plines.length plc, .slice poa pops.length poc] 26)).alloc (.cells #[I 0, I 0, I 0, I 0, .slice none 0 0, .slice none 0 0, .slice none 0 0] 26)).alloc (.cells #[I pmem, I pctr, I pins, I pouts, .slice none 0 0, .slice none 0 0, .slice none 0 0] 26)).heap.size = w.heap.size + 3 := by simp
  clear e1 e2
  generalize (((w.alloc (.cells #[I pmem, I pctr, I pins, I pouts, .slice ppa pparts.length ppc, .slice pla plines.length plc, .slice poa pops.length poc] 26)).alloc (.cells #[I 0, I 0, I 0, I 0, .slice none 0 0, .slice none 0 0, .slice none 0 0] 26)).alloc (.cells #[I pmem, I pctr, I pins, I pouts, .slice none 0 0, .slice none 0 0, .slice none 0 0] 26)) = W0 at hbx hR hPb hN0 hZ ⊢
  obtain ⟨P, hPe⟩ : ∃ P, P = w.heap.size + 1 + 1 := ⟨_, rfl⟩
  rw [← hPe] at hPb ⊢
  have hP1 : w.heap.size + 2 ≤ P := by omega
  have hP2 : P < W0.heap.size := by omega
  have hP3 : W0.heap.size ≤ P + 1 := by omega
  clear hPe hZ
  have x4 : W0.cell? ⟨w.heap.size, 4, none⟩ = some (.slice ppa pparts.length ppc) := by rw [cell_of_block hbx 4]; simp
  have x5 : W0.cell? ⟨w.heap.size, 5, none⟩ = some (.slice pla plines.length plc) := by rw [cell_of_block hbx 5]; simp
  have x6 : W0.cell? ⟨w.heap.size, 6, none⟩ = some (.slice poa pops.length poc) := by rw [cell_of_block hbx 6]; simp
  have hB0 : BuildA W0 W0.heap.size P (⟨pmem, pctr, pins, pouts, none, 0, [], none, 0, [], none, 0, []⟩ : Pg) := ⟨hPb, World.ownsRow_nil _ _ _ _, World.ownsRow_nil _ _ _ _, World.ownsRow_nil _ _ _ _, (fun x hx => by cases hx), (fun x hx => by cases hx), List.Pairwise.nil⟩
  have hq0 : (⟨pmem, pctr, pins, pouts, none, 0, [], none, 0, [], none, 0, []⟩ : Pg).bare = (⟨pmem, pctr, pins, pouts, none, 0, (pparts.take 0).map PartD.bare, none, 0, [], none, 0, []⟩ : Pg) := rfl
  generalize (⟨pmem, pctr, pins, pouts, none, 0, [], none, 0, [], none, 0, []⟩ : Pg) = q0 at hB0 hq0
  have HQ0 := Lib.hid hq0
  clear hPb hbx hq0
  have hRk : ∀ W, Keeps (fun k => k = P) W0 W → ∀ o v, W0.cell? ⟨w.heap.size, o, none⟩ = some v → W.cell? ⟨w.heap.size, o, none⟩ = some v := fun W k o v h => k.cell h (by show w.heap.size ≠ P; omega)
  have HRK := Lib.hid hRk
  clear hRk
  have hNk : ∀ W, Keeps (fun k => k = P) W0 W → New w W := fun W k => hN0.keeps k (fun i hi e => by omega)
  have HNK := Lib.hid hNk
  clear hNk
  go_loopw [4] (fun i wr => ∃ (k : Nat) (q : Pg), k ≤ pparts.length ∧ i = .int .i64 k ∧ BuildA wr W0.heap.size P q ∧ Hid (q.bare = (⟨pmem, pctr, pins, pouts, none, 0, (pparts.take k).map PartD.bare, none, 0, [], none, 0, []⟩ : Pg)) ∧ Keeps (fun k => k = P) W0 wr) (fun i _ => pparts.length - (intOf i).toNat)
  case atStart => exact ⟨0, q0, by omega, rfl, hB0, HQ0, Keeps.refl _ _⟩
  case round =>
    clear hB0 HQ0
    obtain ⟨k, q, hk, rfl, hB, HQ, hkr⟩ := hrel
    have y4 := HRK.out _ hkr _ _ x4
    by_cases hk1 : k < pparts.length
    · obtain ⟨b, off, hab, q0, q1⟩ := parts_at hpp hk1
      have hbw : b < w.heap.size := World.block_lt_of_cell? w _ q0
      replace q0 := (HNK.out _ hkr).cell q0; replace q1 := (HNK.out _ hkr).cell q1
      have hxx := (HPX.out _ (List.getElem_mem hk1)).new (HNK.out _ hkr)
      have hxr := HRX.out _ (List.getElem_mem hk1)
      have hk0 : (k : Int) < (pparts.length : Int) := by omega
      have htk : (pparts.take (k + 1)).map PartD.bare = (pparts.take k).map PartD.bare ++ [PartD.bare pparts[k]] := by rw [List.take_succ_eq_append_getElem hk1, List.map_append]; rfl
      have HTK := Lib.hid htk
      clear htk
      have hlenq : q.parts.length = k := by
        have h := HQ.out
        have := congrArg (fun p : Pg => p.parts.length) h
        simpa [Pg.bare, Nat.min_eq_left hk] using this
      have hql : q.parts.length ≤ k := by omega
      clear hlenq
      generalize pparts[k] = x at q0 q1 hxx hxr HTK
      rw [hab] at y4
      have hPw : P < wr.heap.size := (Array.getElem?_eq_some_iff.1 hB.blkP).1
      have hPc : wr.cell? ⟨P, 4, none⟩ = some (.slice q.pa q.parts.length q.pc) := by rw [cell_of_block hB.blkP 4]; simp
      have hdr : New wr wr.drew := (New.refl wr).drew
      have hBd := hB.new hdr
      clear hab
      go_wp2_with fail
      have hS0 : (fun w' : World => w'.cell? ⟨P, 4, none⟩ = some (.slice q.pa q.parts.length q.pc) ∧ w'.cell? ⟨w.heap.size, 4, none⟩ = some (.slice (some ⟨b, off, none⟩) pparts.length ppc) ∧ w'.cell? ⟨b, off + k * 2, none⟩ = some (.int .u8 x.tag) ∧ w'.cell? ⟨b, off + k * 2 + 1, none⟩ = some (.slice x.a x.xs.length x.c)) wr.drew := ⟨hdr.cell hPc, hdr.cell y4, hdr.cell q0, hdr.cell q1⟩
      refine wp_region_X (fun w' : World => w'.cell? ⟨P, 4, none⟩ = some (.slice q.pa q.parts.length q.pc) ∧ w'.cell? ⟨w.heap.size, 4, none⟩ = some (.slice (some ⟨b, off, none⟩) pparts.length ppc) ∧ w'.cell? ⟨b, off + k * 2, none⟩ = some (.int .u8 x.tag) ∧ w'.cell? ⟨b, off + k * 2 + 1, none⟩ = some (.slice x.a x.xs.length x.c)) [19] (by kernel_rfl) hS0 ?_
      refine anyX_take 0 (by kernel_rfl) (by kernel_rfl) (by kernel_rfl) (by kernel_rfl) (by kernel_rfl) hS0 ?_
      intro oi ho; cases ho
      refine ⟨?_, fun _ _ _ h => h, Or.inl ⟨by rfl, ?_⟩, ?_⟩; rotate_left 1
      · (intro wS hSw; (try dsimp only at hSw); obtain ⟨hz0, hz1, hz2, hz3⟩ := hSw; go_simp; try with_reducible rfl)
      simp only [Act.put, List.setIfInBounds_toArray, List.set_cons_zero, List.set_cons_succ]
      refine anyX_take 1 (by kernel_rfl) (by kernel_rfl) (by kernel_rfl) (by kernel_rfl) (by kernel_rfl) hS0 ?_
      intro oi ho; cases ho
      refine ⟨?_, fun _ _ _ h => h, Or.inl ⟨by rfl, ?_⟩, ?_⟩; rotate_left 1
      · (intro wS hSw; (try dsimp only at hSw); obtain ⟨hz0, hz1, hz2, hz3⟩ := hSw; go_simp; try with_reducible rfl)
      simp only [Act.put, List.setIfInBounds_toArray, List.set_cons_zero, List.set_cons_succ]
      refine anyX_take 2 (by kernel_rfl) (by kernel_rfl) (by kernel_rfl) (by kernel_rfl) (by kernel_rfl) hS0 ?_
      intro oi ho; cases ho
      refine ⟨?_, fun _ _ _ h => h, Or.inl ⟨by rfl, ?_⟩, ?_⟩; rotate_left 1
      · (intro wS hSw; (try dsimp only at hSw); obtain ⟨hz0, hz1, hz2, hz3⟩ := hSw; go_simp; try with_reducible rfl)
      simp only [Act.put, List.setIfInBounds_toArray, List.set_cons_zero, List.set_cons_succ]
      refine anyX_take 3 (by kernel_rfl) (by kernel_rfl) (by kernel_rfl) (by kernel_rfl) (by kernel_rfl) hS0 ?_
      intro oi ho; cases ho
      refine ⟨?_, fun _ _ _ h => h, Or.inl ⟨by rfl, ?_⟩, ?_⟩; rotate_left 1
      · (intro wS hSw; (try dsimp only at hSw); obtain ⟨hz0, hz1, hz2, hz3⟩ := hSw; go_simp; try with_reducible rfl)
      simp only [Act.put, List.setIfInBounds_toArray, List.set_cons_zero, List.set_cons_succ]
      refine anyX_take 4 (by kernel_rfl) (by kernel_rfl) (by kernel_rfl) (by kernel_rfl) (by kernel_rfl) hS0 ?_
      intro oi ho; cases ho
      refine ⟨?_, fun _ _ _ h => h, Or.inl ⟨by rfl, ?_⟩, ?_⟩; rotate_left 1
      · (intro wS hSw; (try dsimp only at hSw); obtain ⟨hz0, hz1, hz2, hz3⟩ := hSw; go_simp; try with_reducible rfl)
      simp only [Act.put, List.setIfInBounds_toArray, List.set_cons_zero, List.set_cons_succ]
      refine anyX_take 5 (by kernel_rfl) (by kernel_rfl) (by kernel_rfl) (by kernel_rfl) (by kernel_rfl) hS0 ?_
      intro oi ho; cases ho
      refine ⟨?_, fun _ _ _ h => h, Or.inl ⟨by rfl, ?_⟩, ?_⟩; rotate_left 1
      · (intro wS hSw; (try dsimp only at hSw); obtain ⟨hz0, hz1, hz2, hz3⟩ := hSw; go_simp; try with_reducible rfl)
      simp only [Act.put, List.setIfInBounds_toArray, List.set_cons_zero, List.set_cons_succ]
      refine anyX_take 6 (by kernel_rfl) (by kernel_rfl) (by kernel_rfl) (by kernel_rfl) (by kernel_rfl) hS0 ?_
      intro oi ho; cases ho
      refine ⟨?_, fun _ _ _ h => h, Or.inl ⟨by rfl, ?_⟩, ?_⟩; rotate_left 1
      · (intro wS hSw; (try dsimp only at hSw); obtain ⟨hz0, hz1, hz2, hz3⟩ := hSw; go_simp; try with_reducible rfl)
      simp only [Act.put, List.setIfInBounds_toArray, List.set_cons_zero, List.set_cons_succ]
      refine anyX_take 7 (by kernel_rfl) (by kernel_rfl) (by kernel_rfl) (by kernel_rfl) (by kernel_rfl) hS0 ?_
      intro oi ho; cases ho
      refine ⟨?_, fun _ _ _ h => h, Or.inl ⟨by rfl, ?_⟩, ?_⟩; rotate_left 1
      · (intro wS hSw; (try dsimp only at hSw); obtain ⟨hz0, hz1, hz2, hz3⟩ := hSw; go_simp; try with_reducible rfl)
      simp only [Act.put, List.setIfInBounds_toArray, List.set_cons_zero, List.set_cons_succ]
      refine anyX_take 8 (by kernel_rfl) (by kernel_rfl) (by kernel_rfl) (by kernel_rfl) (by kernel_rfl) hS0 ?_
      intro oi ho; cases ho
      refine ⟨?_, fun _ _ _ h => h, Or.inl ⟨by rfl, ?_⟩, ?_⟩; rotate_left 1
      · (intro wS hSw; (try dsimp only at hSw); obtain ⟨hz0, hz1, hz2, hz3⟩ := hSw; go_simp; try with_reducible rfl)
      simp only [Act.put, List.setIfInBounds_toArray, List.set_cons_zero, List.set_cons_succ]
      refine anyX_take 9 (by kernel_rfl) (by kernel_rfl) (by kernel_rfl) (by kernel_rfl) (by kernel_rfl) hS0 ?_
      intro oi ho; cases ho
      refine ⟨?_, fun _ _ _ h => h, Or.inl ⟨by rfl, ?_⟩, ?_⟩; rotate_left 1
      · (intro wS hSw; (try dsimp only at hSw); obtain ⟨hz0, hz1, hz2, hz3⟩ := hSw; go_simp; try with_reducible rfl)
      simp only [Act.put, List.setIfInBounds_toArray, List.set_cons_zero, List.set_cons_succ]
      refine anyX_take 10 (by kernel_rfl) (by kernel_rfl) (by kernel_rfl) (by kernel_rfl) (by kernel_rfl) hS0 ?_
      intro oi ho; cases ho
      refine ⟨?_, fun _ _ _ h => h, Or.inl ⟨by rfl, ?_⟩, ?_⟩; rotate_left 1
      · (intro wS hSw; (try dsimp only at hSw); obtain ⟨hz0, hz1, hz2, hz3⟩ := hSw; go_simp; try with_reducible rfl)
      simp only [Act.put, List.setIfInBounds_toArray, List.set_cons_zero, List.set_cons_succ]
      refine anyX_take 11 (by kernel_rfl) (by kernel_rfl) (by kernel_rfl) (by kernel_rfl) (by kernel_rfl) hS0 ?_
      intro oi ho; cases ho
      refine ⟨?_, fun _ _ _ h => h, Or.inl ⟨by rfl, ?_⟩, ?_⟩; rotate_left 1
      · (intro wS hSw; (try dsimp only at hSw); obtain ⟨hz0, hz1, hz2, hz3⟩ := hSw; go_simp; try with_reducible rfl)
      simp only [Act.put, List.setIfInBounds_toArray, List.set_cons_zero, List.set_cons_succ]
      refine anyX_take 12 (by kernel_rfl) (by kernel_rfl) (by kernel_rfl) (by kernel_rfl) (by kernel_rfl) hS0 ?_
      intro oi ho; cases ho
      refine ⟨?_, fun _ _ _ h => h, Or.inl ⟨by rfl, ?_⟩, ?_⟩; rotate_left 1
      · (intro wS hSw; (try dsimp only at hSw); obtain ⟨hz0, hz1, hz2, hz3⟩ := hSw; go_simp; try with_reducible rfl)
      simp only [Act.put, List.setIfInBounds_toArray, List.set_cons_zero, List.set_cons_succ]
      refine anyX_take 13 (by kernel_rfl) (by kernel_rfl) (by kernel_rfl) (by kernel_rfl) (by kernel_rfl) hS0 ?_
      intro oi ho; cases ho
      refine ⟨?_, fun _ _ _ h => h, Or.inl ⟨by rfl, ?_⟩, ?_⟩; rotate_left 1
      · (intro wS hSw; (try dsimp only at hSw); obtain ⟨hz0, hz1, hz2, hz3⟩ := hSw; go_simp; try with_reducible rfl)
      simp only [Act.put, List.setIfInBounds_toArray, List.set_cons_zero, List.set_cons_succ]
      refine anyX_one 14 (by kernel_rfl) ?_
      intro oi ho; cases ho; intro K hK
      (try simp only [Act.put, List.setIfInBounds_toArray, List.set_cons_zero, List.set_cons_succ])
      go_simp
      refine (rInts_any x.a x.c x.xs wr.drew (hxx.new hdr) hxr).mono ?_
      rintro e wd ⟨xa, xc, rfl, hxo, hkd⟩
      have hBe := hBd.new hkd
      have hSb : (fun w' : World => w'.cell? ⟨P, 4, none⟩ = some (.slice q.pa q.parts.length q.pc) ∧ w'.cell? ⟨w.heap.size, 4, none⟩ = some (.slice (some ⟨b, off, none⟩) pparts.length ppc) ∧ w'.cell? ⟨b, off + k * 2, none⟩ = some (.int .u8 x.tag) ∧ w'.cell? ⟨b, off + k * 2 + 1, none⟩ = some (.slice x.a x.xs.length x.c)) wd := ⟨New.cell hkd hS0.1, New.cell hkd hS0.2.1, New.cell hkd hS0.2.2.1, New.cell hkd hS0.2.2.2⟩
      refine hK _ _ (fun _ => hSb) ?_
      clear hK K
      refine anyX_one 15 (by kernel_rfl) ?_
      intro oi ho; cases ho; intro K hK
      (try simp only [Act.put, List.setIfInBounds_toArray, List.set_cons_zero, List.set_cons_succ])
      go_simp
      refine hK _ _ (fun _ => hSb) ?_
      clear hK K
      refine anyX_one 16 (by kernel_rfl) ?_
      intro oi ho; cases ho; intro K hK
      (try simp only [Act.put, List.setIfInBounds_toArray, List.set_cons_zero, List.set_cons_succ])
      go_simp
      have kbc : New wd (wd.alloc (.cells #[.int .u8 x.tag, .slice xa x.xs.length xc] 45)) := (New.refl wd).alloc _
      have hSc : (fun w' : World => w'.cell? ⟨P, 4, none⟩ = some (.slice q.pa q.parts.length q.pc) ∧ w'.cell? ⟨w.heap.size, 4, none⟩ = some (.slice (some ⟨b, off, none⟩) pparts.length ppc) ∧ w'.cell? ⟨b, off + k * 2, none⟩ = some (.int .u8 x.tag) ∧ w'.cell? ⟨b, off + k * 2 + 1, none⟩ = some (.slice x.a x.xs.length x.c)) (wd.alloc (.cells #[.int .u8 x.tag, .slice xa x.xs.length xc] 45)) := ⟨New.cell kbc hSb.1, New.cell kbc hSb.2.1, New.cell kbc hSb.2.2.1, New.cell kbc hSb.2.2.2⟩
      refine hK _ _ (fun _ => hSc) ?_
      clear hK K
      refine anyX_one 17 (by kernel_rfl) ?_
      intro oi ho; cases ho; intro K hK
      have hBc := hBe.new kbc
      have hs1 := hkr.size
      have hs2 := hdr.size
      have hs3 := hkd.size
      have hs4 := kbc.size
      refine step_app rfl _ _ 22 rfl W0.heap.size 45 ip (.agg #[.int .u8 0, .slice none 0 0]) 2 32 Try.underlying22 hip hzp0 hzp1 hzp2 rfl (by decide) q.pa q.parts.length q.pc (q.parts.flatMap partCells) rfl hBc.own.po (some ⟨wd.heap.size, 0, none⟩) 1 1 (partCells ⟨x.tag, xa, xc, x.xs⟩) rfl rfl (SlAt.lit wd _ _) (one_part _) (by unfold maxLen; omega) (by omega) (by omega) ?_
      intro ao' c' wc hown' hk' hmv
      obtain ⟨⟨hv0, hfz⟩, hBn, hkn'⟩ := hBe.addPart ⟨x.tag, xa, xc, x.xs⟩ (OwnI.rebase hxo (by omega)) (fun k hk => hBd.apart (own_of_blk hxo hk).1) kbc hown' hk' hmv
      have HBn := Lib.hid hBn
      have HKn := Lib.hid hkn'
      clear hBn hkn'
      have hnb : ∀ j, blk q.pa j → W0.heap.size ≤ j := fun j hb => (own_of_blk hBe.own.po hb).1
      have hw0 := hN0.size
      have hSd : (fun w' : World => w'.cell? ⟨P, 4, none⟩ = some (.slice q.pa q.parts.length q.pc) ∧ w'.cell? ⟨w.heap.size, 4, none⟩ = some (.slice (some ⟨b, off, none⟩) pparts.length ppc) ∧ w'.cell? ⟨b, off + k * 2, none⟩ = some (.int .u8 x.tag) ∧ w'.cell? ⟨b, off + k * 2 + 1, none⟩ = some (.slice x.a x.xs.length x.c)) wc := ⟨hv0, hk'.cell (hSc.2.1) (fun hb => absurd (show W0.heap.size ≤ w.heap.size from hnb _ hb) (by omega)), hk'.cell (hSc.2.2.1) (fun hb => absurd (show W0.heap.size ≤ b from hnb _ hb) (by omega)), hk'.cell (hSc.2.2.2) (fun hb => absurd (show W0.heap.size ≤ b from hnb _ hb) (by omega))⟩
      refine hK _ _ (fun _ => hSd) ?_
      clear hK K
      refine anyX_take 18 (by kernel_rfl) (by kernel_rfl) (by kernel_rfl) (by kernel_rfl) (by kernel_rfl) hSd ?_
      intro oi ho; cases ho
      refine ⟨?_, fun _ _ _ h => h, Or.inl ⟨by rfl, ?_⟩, ?_⟩; rotate_left 1
      · (intro wS hSw; (try dsimp only at hSw); obtain ⟨hz0, hz1, hz2, hz3⟩ := hSw; go_simp; try with_reducible rfl)
      simp only [Act.put, List.setIfInBounds_toArray, List.set_cons_zero, List.set_cons_succ]
      refine anyX_one 19 (by kernel_rfl) ?_
      intro oi ho; cases ho; intro K hK
      (try simp only [Act.put, List.setIfInBounds_toArray, List.set_cons_zero, List.set_cons_succ])
      go_simp
      refine hK _ _ (fun hx => by cases hx) ?_
      clear hK K
      refine anyX_done (by kernel_rfl) ?_
      (try simp only [Act.put, List.setIfInBounds_toArray, List.set_cons_zero, List.set_cons_succ])
      (try simp only [Exit.then])
      go_wp2
      have hkw9 : Keeps (fun k => k = P) W0 (wc.setCell ⟨P, 4, none⟩ (.slice ao' (q.parts.length + 1) c')) := ((hkr.trans (Keeps.mono hdr (fun _ _ h => h.elim)) (fun _ _ h => h)).trans (Keeps.mono hkd (fun _ _ h => h.elim)) (fun _ _ h => h)).trans HKn.out (fun i hi hb => by
        rcases hb with rfl | hb
        · rfl
        · have := hnb _ hb; omega)
      go_roundw
      case rel =>
        refine ⟨k + 1, { q with pa := ao', pc := c', parts := q.parts ++ [⟨x.tag, xa, xc, x.xs⟩] }, by omega, by go_num, HBn.out, Lib.hid ?_, hkw9⟩
        obtain ⟨g1, g2, g3, g4, g5, g6, g7⟩ := bare_eq.1 HQ.out
        exact bare_eq.2 ⟨g1, g2, g3, g4, by simp only [List.map_append, List.map_cons, List.map_nil]; rw [g5, HTK.out]; rfl, g6, g7⟩
      case measure => simp [intOf]; omega
    · have hk9 : pparts.length ≤ k := by omega
      rw [List.take_of_length_le hk9] at HQ
      have hd9 : decide (k < pparts.length) = false := decide_eq_false (by omega)
      clear hk hk1
      go_wp2_with fail
      obtain ⟨wo, rfl⟩ : ∃ wo : World, wo = wr := ⟨_, rfl⟩
      go_loopw [5] (fun i wr => ∃ (k : Nat) (q : Pg), k ≤ plines.length ∧ i = .int .i64 k ∧ BuildA wr W0.heap.size P q ∧ Hid (q.bare = (⟨pmem, pctr, pins, pouts, none, 0, pparts.map PartD.bare, none, 0, (plines.take k).map LineD.bare, none, 0, []⟩ : Pg)) ∧ Keeps (fun k => k = P) W0 wr) (fun i _ => plines.length - (intOf i).toNat)
      case atStart => exact ⟨0, q, by omega, rfl, hB, HQ, hkr⟩
      case round =>
        clear hB HQ hkr y4
        obtain ⟨k, q, hk, rfl, hB, HQ, hkr⟩ := hrel
        have y5 := HRK.out _ hkr _ _ x5
        by_cases hk1 : k < plines.length
        · obtain ⟨b, off, hab, q0, q1, q2⟩ := lines_at hpl hk1
          have hbw : b < w.heap.size := World.block_lt_of_cell? w _ q0
          replace q0 := (HNK.out _ hkr).cell q0; replace q1 := (HNK.out _ hkr).cell q1; replace q2 := (HNK.out _ hkr).cell q2
          have hxx := (HLX.out _ (List.getElem_mem hk1)).new (HNK.out _ hkr)
          have hxr := HSX.out _ (List.getElem_mem hk1)
          have hk0 : (k : Int) < (plines.length : Int) := by omega
          have htk : (plines.take (k + 1)).map LineD.bare = (plines.take k).map LineD.bare ++ [LineD.bare plines[k]] := by rw [List.take_succ_eq_append_getElem hk1, List.map_append]; rfl
          have HTK := Lib.hid htk
          clear htk
          have hlenq : q.lines.length = k := by
            have h := HQ.out
            have := congrArg (fun p : Pg => p.lines.length) h
            simpa [Pg.bare, Nat.min_eq_left hk] using this
          have hql : q.lines.length ≤ k := by omega
          clear hlenq
          generalize plines[k] = x at q0 q1 q2 hxx hxr HTK
          rw [hab] at y5
          have hPw : P < wr.heap.size := (Array.getElem?_eq_some_iff.1 hB.blkP).1
          have hPc : wr.cell? ⟨P, 5, none⟩ = some (.slice q.la q.lines.length q.lc) := by rw [cell_of_block hB.blkP 5]; simp
          have hdr : New wr wr.drew := (New.refl wr).drew
          have hBd := hB.new hdr
          clear hab
          go_wp2_with fail
          have hS0 : (fun w' : World => w'.cell? ⟨P, 5, none⟩ = some (.slice q.la q.lines.length q.lc) ∧ w'.cell? ⟨w.heap.size, 5, none⟩ = some (.slice (some ⟨b, off, none⟩) plines.length plc) ∧ w'.cell? ⟨b, off + k * 3, none⟩ = some (I x.base) ∧ w'.cell? ⟨b, off + k * 3 + 1, none⟩ = some (I x.size) ∧ w'.cell? ⟨b, off + k * 3 + 2, none⟩ = some (.slice x.a x.xs.length x.c)) wr.drew := ⟨hdr.cell hPc, hdr.cell y5, hdr.cell q0, hdr.cell q1, hdr.cell q2⟩
          refine wp_region_X (fun w' : World => w'.cell? ⟨P, 5, none⟩ = some (.slice q.la q.lines.length q.lc) ∧ w'.cell? ⟨w.heap.size, 5, none⟩ = some (.slice (some ⟨b, off, none⟩) plines.length plc) ∧ w'.cell? ⟨b, off + k * 3, none⟩ = some (I x.base) ∧ w'.cell? ⟨b, off + k * 3 + 1, none⟩ = some (I x.size) ∧ w'.cell? ⟨b, off + k * 3 + 2, none⟩ = some (.slice x.a x.xs.length x.c)) [19] (by kernel_rfl) hS0 ?_
          refine anyX_take 0 (by kernel_rfl) (by kernel_rfl) (by kernel_rfl) (by kernel_rfl) (by kernel_rfl) hS0 ?_
          intro oi ho; cases ho
          refine ⟨?_, fun _ _ _ h => h, Or.inl ⟨by rfl, ?_⟩, ?_⟩; rotate_left 1
          · (intro wS hSw; (try dsimp only at hSw); obtain ⟨hz0, hz1, hz2, hz3, hz4⟩ := hSw; go_simp; try with_reducible rfl)
          simp only [Act.put, List.setIfInBounds_toArray, List.set_cons_zero, List.set_cons_succ]
          refine anyX_take 1 (by kernel_rfl) (by kernel_rfl) (by kernel_rfl) (by kernel_rfl) (by kernel_rfl) hS0 ?_
          intro oi ho; cases ho
          refine ⟨?_, fun _ _ _ h => h, Or.inl ⟨by rfl, ?_⟩, ?_⟩; rotate_left 1
          · (intro wS hSw; (try dsimp only at hSw); obtain ⟨hz0, hz1, hz2, hz3, hz4⟩ := hSw; go_simp; try with_reducible rfl)
          simp only [Act.put, List.setIfInBounds_toArray, List.set_cons_zero, List.set_cons_succ]
          refine anyX_take 2 (by kernel_rfl) (by kernel_rfl) (by kernel_rfl) (by kernel_rfl) (by kernel_rfl) hS0 ?_
          intro oi ho; cases ho
          refine ⟨?_, fun _ _ _ h => h, Or.inl ⟨by rfl, ?_⟩, ?_⟩; rotate_left 1
          · (intro wS hSw; (try dsimp only at hSw); obtain ⟨hz0, hz1, hz2, hz3, hz4⟩ := hSw; go_simp; try with_reducible rfl)
          simp only [Act.put, List.setIfInBounds_toArray, List.set_cons_zero, List.set_cons_succ]
          refine anyX_take 3 (by kernel_rfl) (by kernel_rfl) (by kernel_rfl) (by kernel_rfl) (by kernel_rfl) hS0 ?_
          intro oi ho; cases ho
          refine ⟨?_, fun _ _ _ h => h, Or.inl ⟨by rfl, ?_⟩, ?_⟩; rotate_left 1
          · (intro wS hSw; (try dsimp only at hSw); obtain ⟨hz0, hz1, hz2, hz3, hz4⟩ := hSw; go_simp; try with_reducible rfl)
          simp only [Act.put, List.setIfInBounds_toArray, List.set_cons_zero, List.set_cons_succ]
          refine anyX_take 4 (by kernel_rfl) (by kernel_rfl) (by kernel_rfl) (by kernel_rfl) (by kernel_rfl) hS0 ?_
          intro oi ho; cases ho
          refine ⟨?_, fun _ _ _ h => h, Or.inl ⟨by rfl, ?_⟩, ?_⟩; rotate_left 1
          · (intro wS hSw; (try dsimp only at hSw); obtain ⟨hz0, hz1, hz2, hz3, hz4⟩ := hSw; go_simp; try with_reducible rfl)
          simp only [Act.put, List.setIfInBounds_toArray, List.set_cons_zero, List.set_cons_succ]
          refine anyX_take 5 (by kernel_rfl) (by kernel_rfl) (by kernel_rfl) (by kernel_rfl) (by kernel_rfl) hS0 ?_
          intro oi ho; cases ho
          refine ⟨?_, fun _ _ _ h => h, Or.inl ⟨by rfl, ?_⟩, ?_⟩; rotate_left 1
          · (intro wS hSw; (try dsimp only at hSw); obtain ⟨hz0, hz1, hz2, hz3, hz4⟩ := hSw; go_simp; try with_reducible rfl)
          simp only [Act.put, List.setIfInBounds_toArray, List.set_cons_zero, List.set_cons_succ]
          refine anyX_take 6 (by kernel_rfl) (by kernel_rfl) (by kernel_rfl) (by kernel_rfl) (by kernel_rfl) hS0 ?_
          intro oi ho; cases ho
          refine ⟨?_, fun _ _ _ h => h, Or.inl ⟨by rfl, ?_⟩, ?_⟩; rotate_left 1
          · (intro wS hSw; (try dsimp only at hSw); obtain ⟨hz0, hz1, hz2, hz3, hz4⟩ := hSw; go_simp; try with_reducible rfl)
          simp only [Act.put, List.setIfInBounds_toArray, List.set_cons_zero, List.set_cons_succ]
          refine anyX_take 7 (by kernel_rfl) (by kernel_rfl) (by kernel_rfl) (by kernel_rfl) (by kernel_rfl) hS0 ?_
          intro oi ho; cases ho
          refine ⟨?_, fun _ _ _ h => h, Or.inl ⟨by rfl, ?_⟩, ?_⟩; rotate_left 1
          · (intro wS hSw; (try dsimp only at hSw); obtain ⟨hz0, hz1, hz2, hz3, hz4⟩ := hSw; go_simp; try with_reducible rfl)
          simp only [Act.put, List.setIfInBounds_toArray, List.set_cons_zero, List.set_cons_succ]
          refine anyX_take 8 (by kernel_rfl) (by kernel_rfl) (by kernel_rfl) (by kernel_rfl) (by kernel_rfl) hS0 ?_
          intro oi ho; cases ho
          refine ⟨?_, fun _ _ _ h => h, Or.inl ⟨by rfl, ?_⟩, ?_⟩; rotate_left 1
          · (intro wS hSw; (try dsimp only at hSw); obtain ⟨hz0, hz1, hz2, hz3, hz4⟩ := hSw; go_simp; try with_reducible rfl)
          simp only [Act.put, List.setIfInBounds_toArray, List.set_cons_zero, List.set_cons_succ]
          refine anyX_take 9 (by kernel_rfl) (by kernel_rfl) (by kernel_rfl) (by kernel_rfl) (by kernel_rfl) hS0 ?_
          intro oi ho; cases ho
          refine ⟨?_, fun _ _ _ h => h, Or.inl ⟨by rfl, ?_⟩, ?_⟩; rotate_left 1
          · (intro wS hSw; (try dsimp only at hSw); obtain ⟨hz0, hz1, hz2, hz3, hz4⟩ := hSw; go_simp; try with_reducible rfl)
          simp only [Act.put, List.setIfInBounds_toArray, List.set_cons_zero, List.set_cons_succ]
          refine anyX_take 10 (by kernel_rfl) (by kernel_rfl) (by kernel_rfl) (by kernel_rfl) (by kernel_rfl) hS0 ?_
          intro oi ho; cases ho
          refine ⟨?_, fun _ _ _ h => h, Or.inl ⟨by rfl, ?_⟩, ?_⟩; rotate_left 1
          · (intro wS hSw; (try dsimp only at hSw); obtain ⟨hz0, hz1, hz2, hz3, hz4⟩ := hSw; go_simp; try with_reducible rfl)
          simp only [Act.put, List.setIfInBounds_toArray, List.set_cons_zero, List.set_cons_succ]
          refine anyX_take 11 (by kernel_rfl) (by kernel_rfl) (by kernel_rfl) (by kernel_rfl) (by kernel_rfl) hS0 ?_
          intro oi ho; cases ho
          refine ⟨?_, fun _ _ _ h => h, Or.inl ⟨by rfl, ?_⟩, ?_⟩; rotate_left 1
          · (intro wS hSw; (try dsimp only at hSw); obtain ⟨hz0, hz1, hz2, hz3, hz4⟩ := hSw; go_simp; try with_reducible rfl)
          simp only [Act.put, List.setIfInBounds_toArray, List.set_cons_zero, List.set_cons_succ]
          refine anyX_take 12 (by kernel_rfl) (by kernel_rfl) (by kernel_rfl) (by kernel_rfl) (by kernel_rfl) hS0 ?_
          intro oi ho; cases ho
          refine ⟨?_, fun _ _ _ h => h, Or.inl ⟨by rfl, ?_⟩, ?_⟩; rotate_left 1
          · (intro wS hSw; (try dsimp only at hSw); obtain ⟨hz0, hz1, hz2, hz3, hz4⟩ := hSw; go_simp; try with_reducible rfl)
          simp only [Act.put, List.setIfInBounds_toArray, List.set_cons_zero, List.set_cons_succ]
          refine anyX_take 13 (by kernel_rfl) (by kernel_rfl) (by kernel_rfl) (by kernel_rfl) (by kernel_rfl) hS0 ?_
          intro oi ho; cases ho
          refine ⟨?_, fun _ _ _ h => h, Or.inl ⟨by rfl, ?_⟩, ?_⟩; rotate_left 1
          · (intro wS hSw; (try dsimp only at hSw); obtain ⟨hz0, hz1, hz2, hz3, hz4⟩ := hSw; go_simp; try with_reducible rfl)
          simp only [Act.put, List.setIfInBounds_toArray, List.set_cons_zero, List.set_cons_succ]
          refine anyX_one 14 (by kernel_rfl) ?_
          intro oi ho; cases ho; intro K hK
          (try simp only [Act.put, List.setIfInBounds_toArray, List.set_cons_zero, List.set_cons_succ])
          go_simp
          refine (rInts_any x.a x.c x.xs wr.drew (hxx.new hdr) hxr).mono ?_
          rintro e wd ⟨xa, xc, rfl, hxo, hkd⟩
          have hBe := hBd.new hkd
          have hSb : (fun w' : World => w'.cell? ⟨P, 5, none⟩ = some (.slice q.la q.lines.length q.lc) ∧ w'.cell? ⟨w.heap.size, 5, none⟩ = some (.slice (some ⟨b, off, none⟩) plines.length plc) ∧ w'.cell? ⟨b, off + k * 3, none⟩ = some (I x.base) ∧ w'.cell? ⟨b, off + k * 3 + 1, none⟩ = some (I x.size) ∧ w'.cell? ⟨b, off + k * 3 + 2, none⟩ = some (.slice x.a x.xs.length x.c)) wd := ⟨New.cell hkd hS0.1, New.cell hkd hS0.2.1, New.cell hkd hS0.2.2.1, New.cell hkd hS0.2.2.2.1, New.cell hkd hS0.2.2.2.2⟩
          refine hK _ _ (fun _ => hSb) ?_
          clear hK K
          refine anyX_one 15 (by kernel_rfl) ?_
          intro oi ho; cases ho; intro K hK
          (try simp only [Act.put, List.setIfInBounds_toArray, List.set_cons_zero, List.set_cons_succ])
          go_simp
          refine hK _ _ (fun _ => hSb) ?_
          clear hK K
          refine anyX_one 16 (by kernel_rfl) ?_
          intro oi ho; cases ho; intro K hK
          (try simp only [Act.put, List.setIfInBounds_toArray, List.set_cons_zero, List.set_cons_succ])
          go_simp
          have kbc : New wd (wd.alloc (.cells #[I x.base, I x.size, .slice xa x.xs.length xc] 49)) := (New.refl wd).alloc _
          have hSc : (fun w' : World => w'.cell? ⟨P, 5, none⟩ = some (.slice q.la q.lines.length q.lc) ∧ w'.cell? ⟨w.heap.size, 5, none⟩ = some (.slice (some ⟨b, off, none⟩) plines.length plc) ∧ w'.cell? ⟨b, off + k * 3, none⟩ = some (I x.base) ∧ w'.cell? ⟨b, off + k * 3 + 1, none⟩ = some (I x.size) ∧ w'.cell? ⟨b, off + k * 3 + 2, none⟩ = some (.slice x.a x.xs.length x.c)) (wd.alloc (.cells #[I x.base, I x.size, .slice xa x.xs.length xc] 49)) := ⟨New.cell kbc hSb.1, New.cell kbc hSb.2.1, New.cell kbc hSb.2.2.1, New.cell kbc hSb.2.2.2.1, New.cell kbc hSb.2.2.2.2⟩
          refine hK _ _ (fun _ => hSc) ?_
          clear hK K
          refine anyX_one 17 (by kernel_rfl) ?_
          intro oi ho; cases ho; intro K hK
          have hBc := hBe.new kbc
          have hs1 := hkr.size
          have hs2 := hdr.size
          have hs3 := hkd.size
          have hs4 := kbc.size
          refine step_app rfl _ _ 23 rfl W0.heap.size 49 il (.agg #[.int .i64 0, .int .i64 0, .slice none 0 0]) 3 40 Try.underlying23 hil hzl0 hzl1 hzl2 rfl (by decide) q.la q.lines.length q.lc (q.lines.flatMap lineCells) rfl hBc.own.lo (some ⟨wd.heap.size, 0, none⟩) 1 1 (lineCells ⟨x.base, x.size, xa, xc, x.xs⟩) rfl rfl (SlAt.lit wd _ _) (one_line _) (by unfold maxLen; omega) (by omega) (by omega) ?_
          intro ao' c' wc hown' hk' hmv
          obtain ⟨⟨hv0, hfz⟩, hBn, hkn'⟩ := hBe.addLine ⟨x.base, x.size, xa, xc, x.xs⟩ (OwnI.rebase hxo (by omega)) (fun k hk => hBd.apart (own_of_blk hxo hk).1) kbc hown' hk' hmv
          have HBn := Lib.hid hBn
          have HKn := Lib.hid hkn'
          clear hBn hkn'
          have hnb : ∀ j, blk q.la j → W0.heap.size ≤ j := fun j hb => (own_of_blk hBe.own.lo hb).1
          have hw0 := hN0.size
          have hSd : (fun w' : World => w'.cell? ⟨P, 5, none⟩ = some (.slice q.la q.lines.length q.lc) ∧ w'.cell? ⟨w.heap.size, 5, none⟩ = some (.slice (some ⟨b, off, none⟩) plines.length plc) ∧ w'.cell? ⟨b, off + k * 3, none⟩ = some (I x.base) ∧ w'.cell? ⟨b, off + k * 3 + 1, none⟩ = some (I x.size) ∧ w'.cell? ⟨b, off + k * 3 + 2, none⟩ = some (.slice x.a x.xs.length x.c)) wc := ⟨hv0, hk'.cell (hSc.2.1) (fun hb => absurd (show W0.heap.size ≤ w.heap.size from hnb _ hb) (by omega)), hk'.cell (hSc.2.2.1) (fun hb => absurd (show W0.heap.size ≤ b from hnb _ hb) (by omega)), hk'.cell (hSc.2.2.2.1) (fun hb => absurd (show W0.heap.size ≤ b from hnb _ hb) (by omega)), hk'.cell (hSc.2.2.2.2) (fun hb => absurd (show W0.heap.size ≤ b from hnb _ hb) (by omega))⟩
          refine hK _ _ (fun _ => hSd) ?_
          clear hK K
          refine anyX_take 18 (by kernel_rfl) (by kernel_rfl) (by kernel_rfl) (by kernel_rfl) (by kernel_rfl) hSd ?_
          intro oi ho; cases ho
          refine ⟨?_, fun _ _ _ h => h, Or.inl ⟨by rfl, ?_⟩, ?_⟩; rotate_left 1
          · (intro wS hSw; (try dsimp only at hSw); obtain ⟨hz0, hz1, hz2, hz3, hz4⟩ := hSw; go_simp; try with_reducible rfl)
          simp only [Act.put, List.setIfInBounds_toArray, List.set_cons_zero, List.set_cons_succ]
          refine anyX_one 19 (by kernel_rfl) ?_
          intro oi ho; cases ho; intro K hK
          (try simp only [Act.put, List.setIfInBounds_toArray, List.set_cons_zero, List.set_cons_succ])
          go_simp
          refine hK _ _ (fun hx => by cases hx) ?_
          clear hK K
          refine anyX_done (by kernel_rfl) ?_
          (try simp only [Act.put, List.setIfInBounds_toArray, List.set_cons_zero, List.set_cons_succ])
          (try simp only [Exit.then])
          go_wp2
          have hkw9 : Keeps (fun k => k = P) W0 (wc.setCell ⟨P, 5, none⟩ (.slice ao' (q.lines.length + 1) c')) := ((hkr.trans (Keeps.mono hdr (fun _ _ h => h.elim)) (fun _ _ h => h)).trans (Keeps.mono hkd (fun _ _ h => h.elim)) (fun _ _ h => h)).trans HKn.out (fun i hi hb => by
            rcases hb with rfl | hb
            · rfl
            · have := hnb _ hb; omega)
          go_roundw
          case rel =>
            refine ⟨k + 1, { q with la := ao', lc := c', lines := q.lines ++ [⟨x.base, x.size, xa, xc, x.xs⟩] }, by omega, by go_num, HBn.out, Lib.hid ?_, hkw9⟩
            obtain ⟨g1, g2, g3, g4, g5, g6, g7⟩ := bare_eq.1 HQ.out
            exact bare_eq.2 ⟨g1, g2, g3, g4, g5, by simp only [List.map_append, List.map_cons, List.map_nil]; rw [g6, HTK.out]; rfl, g7⟩
          case measure => simp [intOf]; omega
        · have hk9b : plines.length ≤ k := by omega
          rw [List.take_of_length_le hk9b] at HQ
          have y6 := HRK.out _ hkr _ _ x6
          have hPc : wr.cell? ⟨P, 6, none⟩ = some (.slice q.oa q.ops.length q.oc) := by rw [cell_of_block hB.blkP 6]; simp
          obtain ⟨g1, g2, g3, g4, g5, g6, g7⟩ := bare_eq.1 HQ.out
          have hl0 : q.ops.length = 0 := by rw [g7]; rfl
          have HL0 := Lib.hid hl0
          have hd10 : decide (k < plines.length) = false := decide_eq_false (by omega)
          have hs1 := hkr.size
          have hlo : q.ops.length ≤ 0 := by omega
          have G := Lib.hid (And.intro g1 (And.intro g2 (And.intro g3 (And.intro g4 (And.intro g5 (And.intro g6 g7))))))
          clear hk hk1 g1 g2 g3 g4 g5 g6 g7 hl0 HQ
          go_wp2_with (at_builtin; refine wpList_app rfl _ _ 24 rfl W0.heap.size 53 io (.agg #[.int .u8 0, .int .i64 0, .int .i64 0]) 3 24 Try.underlying24 hio hzo0 hzo1 hzo2 rfl (by decide) q.oa q.ops.length q.oc (q.ops.flatMap opCells) rfl hB.own.oo poa pops.length poc (pops.flatMap opCells) rfl (flat_len opCells 3 opCells_len pops) (hpo.new (HNK.out _ hkr)) (by intro u hu; obtain ⟨y, _, hy⟩ := List.mem_flatMap.1 hu; exact one_op y u hy) (by unfold maxLen; omega) (by omega) hs1 ?_)
          intro ao' c' wc hown' hk' hmv _
          obtain ⟨⟨hv0, hfz⟩, hBn, hkn'⟩ := hB.allOps pops (New.refl wr) hown' hk' hmv
          have HBn := Lib.hid hBn
          have HKn := Lib.hid hkn'
          have hnb : ∀ j, blk q.oa j → W0.heap.size ≤ j := fun j hb => (own_of_blk hB.own.oo hb).1
          clear hBn hkn' hPc
          have hRr : wr.heap[w.heap.size + 1]? = some (.cells #[I 0, I 0, I 0, I 0, .slice none 0 0, .slice none 0 0, .slice none 0 0] 26 (0, 0)) := hkr.heap hR (by show w.heap.size + 1 ≠ P; omega)
          have hRc : wc.heap[w.heap.size + 1]? = some (.cells #[I 0, I 0, I 0, I 0, .slice none 0 0, .slice none 0 0, .slice none 0 0] 26 (0, 0)) := hk'.heap hRr (fun hb => absurd (show W0.heap.size ≤ w.heap.size + 1 from hnb _ hb) (by omega))
          have hRP : w.heap.size + 1 ≠ P := by omega
          have cp0 : wc.cell? ⟨P, 0, none⟩ = some (I q.mem) := hk'.cell (by rw [cell_of_block hB.blkP 0]; simp) (fun hb => absurd (show W0.heap.size ≤ P from hnb _ hb) (by omega))
          have cr0 := cell_of_block hRc 0
          have zr0 := unfrozen_of_block hRc 0
          simp only [List.getElem?_toArray, List.getElem?_cons_zero, List.getElem?_cons_succ] at cr0
          have cp1 : wc.cell? ⟨P, 1, none⟩ = some (I q.ctr) := hk'.cell (by rw [cell_of_block hB.blkP 1]; simp) (fun hb => absurd (show W0.heap.size ≤ P from hnb _ hb) (by omega))
          have cr1 := cell_of_block hRc 1
          have zr1 := unfrozen_of_block hRc 1
          simp only [List.getElem?_toArray, List.getElem?_cons_zero, List.getElem?_cons_succ] at cr1
          have cp2 : wc.cell? ⟨P, 2, none⟩ = some (I q.ins) := hk'.cell (by rw [cell_of_block hB.blkP 2]; simp) (fun hb => absurd (show W0.heap.size ≤ P from hnb _ hb) (by omega))
          have cr2 := cell_of_block hRc 2
          have zr2 := unfrozen_of_block hRc 2
          simp only [List.getElem?_toArray, List.getElem?_cons_zero, List.getElem?_cons_succ] at cr2
          have cp3 : wc.cell? ⟨P, 3, none⟩ = some (I q.outs) := hk'.cell (by rw [cell_of_block hB.blkP 3]; simp) (fun hb => absurd (show W0.heap.size ≤ P from hnb _ hb) (by omega))
          have cr3 := cell_of_block hRc 3
          have zr3 := unfrozen_of_block hRc 3
          simp only [List.getElem?_toArray, List.getElem?_cons_zero, List.getElem?_cons_succ] at cr3
          have cp4 : wc.cell? ⟨P, 4, none⟩ = some (.slice q.pa q.parts.length q.pc) := hk'.cell (by rw [cell_of_block hB.blkP 4]; simp) (fun hb => absurd (show W0.heap.size ≤ P from hnb _ hb) (by omega))
          have cr4 := cell_of_block hRc 4
          have zr4 := unfrozen_of_block hRc 4
          simp only [List.getElem?_toArray, List.getElem?_cons_zero, List.getElem?_cons_succ] at cr4
          have cp5 : wc.cell? ⟨P, 5, none⟩ = some (.slice q.la q.lines.length q.lc) := hk'.cell (by rw [cell_of_block hB.blkP 5]; simp) (fun hb => absurd (show W0.heap.size ≤ P from hnb _ hb) (by omega))
          have cr5 := cell_of_block hRc 5
          have zr5 := unfrozen_of_block hRc 5
          simp only [List.getElem?_toArray, List.getElem?_cons_zero, List.getElem?_cons_succ] at cr5
          have cr6 := cell_of_block hRc 6
          have zr6 := unfrozen_of_block hRc 6
          simp only [List.getElem?_toArray, List.getElem?_cons_zero, List.getElem?_cons_succ] at cr6
          have hRb : (wc.setCell ⟨P, 6, none⟩ (.slice ao' (q.ops.length + pops.length) c')).heap[w.heap.size + 1]? = some (.cells #[I 0, I 0, I 0, I 0, .slice none 0 0, .slice none 0 0, .slice none 0 0] 26 (0, 0)) := Keeps.heap (Keeps.setCell (S := fun k => k = P) wc ⟨P, 6, none⟩ (.slice ao' (q.ops.length + pops.length) c') rfl) hRc hRP
          clear hR hRr hRc y5 y6 HPX HLX HRX HSX hpp hpl hpo x4 x5 x6 HRK
          go_wp2_with fail
          have b0 := block_setCell (i := 0) hRb (I q.mem)
          have b1 := block_setCell (i := 1) b0 (I q.ctr)
          have b2 := block_setCell (i := 2) b1 (I q.ins)
          have b3 := block_setCell (i := 3) b2 (I q.outs)
          have b4 := block_setCell (i := 4) b3 (.slice q.pa q.parts.length q.pc)
          have b5 := block_setCell (i := 5) b4 (.slice q.la q.lines.length q.lc)
          have b6 := block_setCell (i := 6) b5 (.slice ao' (q.ops.length + pops.length) c')
          have hfk : Keeps (fun k => k = w.heap.size + 1) (wc.setCell ⟨P, 6, none⟩ (.slice ao' (q.ops.length + pops.length) c')) ((((((((wc.setCell ⟨P, 6, none⟩ (.slice ao' (q.ops.length + pops.length) c')).setCell ⟨w.heap.size + 1, 0, none⟩ (I q.mem)).setCell ⟨w.heap.size + 1, 1, none⟩ (I q.ctr)).setCell ⟨w.heap.size + 1, 2, none⟩ (I q.ins)).setCell ⟨w.heap.size + 1, 3, none⟩ (I q.outs)).setCell ⟨w.heap.size + 1, 4, none⟩ (.slice q.pa q.parts.length q.pc)).setCell ⟨w.heap.size + 1, 5, none⟩ (.slice q.la q.lines.length q.lc)).setCell ⟨w.heap.size + 1, 6, none⟩ (.slice ao' (q.ops.length + pops.length) c')) := (((((((Keeps.refl (fun k => k = w.heap.size + 1) (wc.setCell ⟨P, 6, none⟩ (.slice ao' (q.ops.length + pops.length) c'))).trans (Keeps.setCell (S := fun k => k = w.heap.size + 1) _ ⟨w.heap.size + 1, 0, none⟩ (I q.mem) rfl) (fun _ _ h => h)).trans (Keeps.setCell (S := fun k => k = w.heap.size + 1) _ ⟨w.heap.size + 1, 1, none⟩ (I q.ctr) rfl) (fun _ _ h => h)).trans (Keeps.setCell (S := fun k => k = w.heap.size + 1) _ ⟨w.heap.size + 1, 2, none⟩ (I q.ins) rfl) (fun _ _ h => h)).trans (Keeps.setCell (S := fun k => k = w.heap.size + 1) _ ⟨w.heap.size + 1, 3, none⟩ (I q.outs) rfl) (fun _ _ h => h)).trans (Keeps.setCell (S := fun k => k = w.heap.size + 1) _ ⟨w.heap.size + 1, 4, none⟩ (.slice q.pa q.parts.length q.pc) rfl) (fun _ _ h => h)).trans (Keeps.setCell (S := fun k => k = w.heap.size + 1) _ ⟨w.heap.size + 1, 5, none⟩ (.slice q.la q.lines.length q.lc) rfl) (fun _ _ h => h)).trans (Keeps.setCell (S := fun k => k = w.heap.size + 1) _ ⟨w.heap.size + 1, 6, none⟩ (.slice ao' (q.ops.length + pops.length) c') rfl) (fun _ _ h => h)
          have hfb : ((((((((wc.setCell ⟨P, 6, none⟩ (.slice ao' (q.ops.length + pops.length) c')).setCell ⟨w.heap.size + 1, 0, none⟩ (I q.mem)).setCell ⟨w.heap.size + 1, 1, none⟩ (I q.ctr)).setCell ⟨w.heap.size + 1, 2, none⟩ (I q.ins)).setCell ⟨w.heap.size + 1, 3, none⟩ (I q.outs)).setCell ⟨w.heap.size + 1, 4, none⟩ (.slice q.pa q.parts.length q.pc)).setCell ⟨w.heap.size + 1, 5, none⟩ (.slice q.la q.lines.length q.lc)).setCell ⟨w.heap.size + 1, 6, none⟩ (.slice ao' (q.ops.length + pops.length) c')).heap[w.heap.size + 1]? = some (.cells #[I q.mem, I q.ctr, I q.ins, I q.outs, .slice q.pa q.parts.length q.pc, .slice q.la q.lines.length q.lc, .slice ao' (q.ops.length + pops.length) c'] 26 (0, 0)) := by rw [b6]; simp
          clear b0 b1 b2 b3 b4 b5 b6
          generalize ((((((((wc.setCell ⟨P, 6, none⟩ (.slice ao' (q.ops.length + pops.length) c')).setCell ⟨w.heap.size + 1, 0, none⟩ (I q.mem)).setCell ⟨w.heap.size + 1, 1, none⟩ (I q.ctr)).setCell ⟨w.heap.size + 1, 2, none⟩ (I q.ins)).setCell ⟨w.heap.size + 1, 3, none⟩ (I q.outs)).setCell ⟨w.heap.size + 1, 4, none⟩ (.slice q.pa q.parts.length q.pc)).setCell ⟨w.heap.size + 1, 5, none⟩ (.slice q.la q.lines.length q.lc)).setCell ⟨w.heap.size + 1, 6, none⟩ (.slice ao' (q.ops.length + pops.length) c')) = wf at hfk hfb ⊢
          have cf0 : wf.cell? ⟨w.heap.size + 1, 0, none⟩ = some (I q.mem) := by rw [cell_of_block hfb 0]; simp
          have cf1 : wf.cell? ⟨w.heap.size + 1, 1, none⟩ = some (I q.ctr) := by rw [cell_of_block hfb 1]; simp
          have cf2 : wf.cell? ⟨w.heap.size + 1, 2, none⟩ = some (I q.ins) := by rw [cell_of_block hfb 2]; simp
          have cf3 : wf.cell? ⟨w.heap.size + 1, 3, none⟩ = some (I q.outs) := by rw [cell_of_block hfb 3]; simp
          have cf4 : wf.cell? ⟨w.heap.size + 1, 4, none⟩ = some (.slice q.pa q.parts.length q.pc) := by rw [cell_of_block hfb 4]; simp
          have cf5 : wf.cell? ⟨w.heap.size + 1, 5, none⟩ = some (.slice q.la q.lines.length q.lc) := by rw [cell_of_block hfb 5]; simp
          have cf6 : wf.cell? ⟨w.heap.size + 1, 6, none⟩ = some (.slice ao' (q.ops.length + pops.length) c') := by rw [cell_of_block hfb 6]; simp
          have hown := HBn.out.own.keeps hfk (Tagged.block hRb (by unfold noT; decide))
          obtain ⟨g1, g2, g3, g4, g5, g6, g7⟩ := G.out
          have hops := List.eq_nil_of_length_eq_zero HL0.out
          refine bodyPost_ret (v := .agg #[I q.mem, I q.ctr, I q.ins, I q.outs, .slice q.pa q.parts.length q.pc, .slice q.la q.lines.length q.lc, .slice ao' (q.ops.length + pops.length) c']) (by simp [results, Try.results12, go_sem, cf0, cf1, cf2, cf3, cf4, cf5, cf6]) rfl ⟨{ q with oa := ao', oc := c', ops := q.ops ++ pops }, bare_eq.2 ⟨g1, g2, g3, g4, g5, g6, by show q.ops ++ pops = pops; rw [hops]; rfl⟩, by simp [Pg.v, Pg.cs], hown.rebase (by omega), ?_⟩
          exact ((HNK.out _ hkr).keeps HKn.out (fun i hi hb => by
            rcases hb with rfl | hb
            · omega
            · have := hnb _ hb; omega)).keeps hfk (fun i hi e => by omega)
          end Go.Proofs.Ytfmpjbiaamkobaa
